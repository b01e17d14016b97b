/- Contracts. -/
import Derived.Test.YtohkcloiokhglaaC3B0
namespace Go.Ev.Ytohkcloiokhglaa
set_option linter.unusedVariables false
set_option linter.unusedSimpArgs false
open Go.Ev
/-! What a method takes. -/
def descGo (n : Nat) (s : List UInt8) : Option (List (List UInt8) × List UInt8) :=
  match s with
  | [] => none
  | c :: r => if c = 41 then some ([], r) else match takeType (c :: r) with
    | none => none
    | some (t, rest) => if h : 4 ≤ n then none else (descGo (n + 1) rest).map fun q => (t :: q.1, q.2)
  termination_by 4 - n
  decreasing_by omega
def takeAll (n : Nat) (s : List UInt8) : Option (List (List UInt8)) :=
  match s with
  | [] => some []
  | c :: r => match takeType (c :: r) with
    | none => none
    | some (t, rest) => if h : 4 ≤ n then none else (takeAll (n + 1) rest).map fun q => t :: q
  termination_by 4 - n
  decreasing_by omega
def descOk (q : List (List UInt8) × List UInt8) : Bool := decide (q.2 = [86]) || typeOk q.2
def descOf (s : List UInt8) : Option (List (List UInt8) × List UInt8) :=
  match s with
  | [] => none
  | c :: r => if c = 40 then match descGo 0 r with | some q => if descOk q = true then some q else none | none => none else none
def descRes : Option (List (List UInt8) × List UInt8) → D
  | some q => .tup [.list (q.1.map rStr), .str q.2, .bool true]
  | none => .tup [.list [], .str [], .bool false]
theorem not41_name {a b : List UInt8} : nameOk (a ++ 41 :: b) = false := by
  have : isAl 41 = false := by decide
  simp [nameOk, this]
theorem takeType_app {s : List UInt8} (back : List UInt8) (hs : s ≠ []) (h : (41 : UInt8) ∉ s) : takeType (s ++ 41 :: back) = (takeType s).map fun q => (q.1, q.2 ++ 41 :: back) := by
  cases s with
  | nil => exact absurd rfl hs
  | cons b r =>
    have hr : (41 : UInt8) ∉ r := fun e => h (by simp [e])
    simp only [List.cons_append, takeType]
    by_cases h1 : b = 73
    · simp [h1]
    · simp only [h1, if_false]
      by_cases h2 : b = 76
      · simp only [h2, if_true]
        cases hc : cutAt 59 r with
        | some q =>
          obtain ⟨a, t⟩ := q
          obtain ⟨e1, e2⟩ := cutAt_eq hc
          have : r ++ 41 :: back = a ++ 59 :: (t ++ 41 :: back) := by rw [e1]; simp
          rw [this, cutAt_of _ e2]
          simp only
          split <;> rfl
        | none =>
          have hn := cutAt_none hc
          cases hc2 : cutAt 59 (r ++ 41 :: back) with
          | none => rfl
          | some q =>
            obtain ⟨a, t⟩ := q
            obtain ⟨e1, e2⟩ := cutAt_eq hc2
            have : ∃ x, a = r ++ 41 :: x := by
              have hp : r ++ [41] <+: a := by
                have p1 : r ++ [41] <+: r ++ 41 :: back := ⟨back, by simp⟩
                have p2 : a ++ [59] <+: r ++ 41 :: back := ⟨t, by rw [e1]; simp⟩
                rcases Nat.lt_or_ge (r ++ [41]).length (a ++ [59]).length with hl | hl
                · have p3 : a <+: r ++ 41 :: back := ⟨59 :: t, by rw [e1]⟩
                  exact List.prefix_of_prefix_length_le p1 p3 (by simp at hl ⊢; omega)
                · have p3 := List.prefix_of_prefix_length_le p2 p1 hl
                  exfalso
                  have : (59 : UInt8) ∈ r ++ [41] := p3.subset (by simp)
                  rcases List.mem_append.mp this with m | m
                  · exact hn m
                  · simp at m
              obtain ⟨x, hx⟩ := hp
              exact ⟨x, by rw [← hx]; simp⟩
            obtain ⟨x, rfl⟩ := this
            simp [not41_name]
      · simp [h2]
theorem takeType_not {s t r : List UInt8} (h : takeType s = some (t, r)) {c : UInt8} (hc : c ∉ s) : c ∉ r := by
  have := (takeType_eq h).1
  intro e; exact hc (by rw [this]; simp [e])
theorem descGo_app (back : List UInt8) : ∀ (n : Nat) (s : List UInt8), (41 : UInt8) ∉ s → descGo n (s ++ 41 :: back) = (takeAll n s).map fun q => (q, back)
  | n, [], _ => by rw [takeAll, List.nil_append, descGo]; simp
  | n, c :: r, h => by
    have hc : ¬ c = 41 := fun e => h (by simp [e])
    have ht := takeType_app back (by simp) h
    rw [List.cons_append] at ht
    rw [takeAll, List.cons_append, descGo]
    simp only [hc, if_false, ht]
    cases hk : takeType (c :: r) with
    | none => rfl
    | some q =>
      obtain ⟨t, rest⟩ := q
      simp only [Option.map_some]
      by_cases hn : 4 ≤ n
      · simp [hn]
      · have := descGo_app back (n + 1) rest (takeType_not hk h)
        simp only [hn, dif_neg, not_false_eq_true, this]
        cases takeAll (n + 1) rest <;> rfl
  termination_by n => 4 - n
  decreasing_by omega
theorem descGo_none : ∀ (n : Nat) (s : List UInt8), (41 : UInt8) ∉ s → descGo n s = none
  | n, [], _ => by rw [descGo]
  | n, c :: r, h => by
    have hc : ¬ c = 41 := fun e => h (by simp [e])
    rw [descGo]
    simp only [hc, if_false]
    cases hk : takeType (c :: r) with
    | none => rfl
    | some q =>
      obtain ⟨t, rest⟩ := q
      by_cases hn : 4 ≤ n
      · simp [hn]
      · have := descGo_none (n + 1) rest (takeType_not hk h)
        simp [hn, this]
  termination_by n => 4 - n
  decreasing_by omega
def DescOut (res : Option (D × Heap)) (acc : List (List UInt8)) : Option (List (List UInt8) × List UInt8) → Prop
  | some q => ∃ d' H', res = some (.tup [d', .str q.2, .bool true], H') ∧ Acc 1 H' d' ((acc ++ q.1).map rStr)
  | none => ∃ H', res = some (.tup [.sl0, .str [], .bool false], H')
def descEnd : Option (List (List UInt8) × List UInt8) → Option (List (List UInt8) × List UInt8)
  | some q => if descOk q = true then some q else none
  | none => none
theorem DescOut.step {res : Option (D × Heap)} {acc : List (List UInt8)} {t : List UInt8} {q : Option (List (List UInt8) × List UInt8)} (h : DescOut res (acc ++ [t]) (descEnd q)) : DescOut res acc (descEnd (q.map fun q => (t :: q.1, q.2))) := by
  cases q with
  | none => exact h
  | some q =>
    have e : descOk (t :: q.1, q.2) = descOk q := rfl
    simp only [descEnd, Option.map_some, e] at h ⊢
    by_cases hq : descOk q = true
    · rw [if_pos hq] at h ⊢
      obtain ⟨d', H', h1, h2⟩ := h
      exact ⟨d', H', h1, by simpa using h2⟩
    · rw [if_neg hq] at h ⊢
      exact h
theorem c81_5 (s : List UInt8) (hs : s.length ≤ 140737488351232) : ∀ (k at_ : Nat) (acc : List (List UInt8)) (d : D) (H : Heap), 4 - acc.length ≤ k → at_ ≤ s.length → acc.length ≤ 4 → Acc 1 H d (acc.map rStr) → DescOut (J E 81 5 [.str s, d, .int .i64 at_] H) acc (descEnd (descGo acc.length (s.drop at_)))
  | k, at_, acc, d, H, hk, hat, hacc, hA => by
    rw [j81_5]
    by_cases he : at_ = s.length
    · subst he
      have : descGo acc.length (s.drop s.length) = none := by rw [List.drop_length, descGo]
      rw [this]
      simp only [lnS_str, Option.bind_some, bI_lss, Int.lt_irrefl, decide_false, asB_bool, cond_false, bI_geq, Int.le_refl, decide_true, cond_true]
      exact ⟨H, rfl⟩
    · have hlt : at_ < s.length := by omega
      have hlt' : ((at_ : Nat) : Int) < (s.length : Int) := by omega
      have h41 := byte_int s[at_] 41 (by omega)
      have hd : s.drop at_ = s[at_] :: s.drop (at_ + 1) := List.drop_eq_getElem_cons hlt
      have hT := c95 s hs at_ hat
      simp only [lnS_str, bI_lss, hlt', decide_true, cond_true, asB_bool, Option.bind_some, ix_nat, List.getElem?_eq_getElem hlt, Option.map_some, bI_neq, bI_geq, bI_add, show ¬ (s.length : Int) ≤ at_ by omega, decide_false, cond_false]
      rw [wrap_i64 (n := (at_ : Int) + 1) (by omega) (by omega)]
      by_cases h1 : s[at_] = 41
      · have e41 : (s[at_].toNat : Int) = 41 := h41.mpr h1
        have hg : descGo acc.length (s.drop at_) = some ([], s.drop (at_ + 1)) := by rw [hd, descGo]; simp [h1]
        rw [hg]
        simp only [e41, decide_true, Bool.not_true, cond_false]
        rw [slS_from (by omega) (by omega), show ((at_ : Int) + 1).toNat = at_ + 1 by omega]
        simp only [Option.bind_some, bS_neq, asB_bool, call_pure, optAll_cons, optAll_nil, readT_str]
        rw [c59 _ (by simp; omega)]
        simp only [Option.bind_some, unOp_not, asB_bool, descEnd, descOk]
        by_cases hv : s.drop (at_ + 1) = [86]
        · simp only [hv, decide_true, Bool.not_true, cond_false, Bool.true_or, if_true]
          exact ⟨d, H, rfl, by simpa using hA⟩
        · simp only [hv, decide_false, Bool.not_false, cond_true, Bool.false_or]
          cases ht : typeOk (s.drop (at_ + 1)) with
          | true =>
            simp only [Bool.not_true, cond_false, if_true]
            exact ⟨d, H, rfl, by simpa using hA⟩
          | false =>
            simp only [Bool.not_false, cond_true, Bool.false_eq_true, if_false]
            exact ⟨H, rfl⟩
      · have n41 : ¬ ((s[at_].toNat : Int) = 41) := fun e => h1 (h41.mp e)
        simp only [n41, decide_false, Bool.not_false, cond_true, call_pure, optAll_cons, optAll_nil, readT_str, readT_int, Option.bind_some, hT]
        have hg : descGo acc.length (s.drop at_) = match takeType (s.drop at_) with | none => none | some (t, rest) => if h : 4 ≤ acc.length then none else (descGo (acc.length + 1) rest).map fun q => (t :: q.1, q.2) := by
          rw [hd, descGo]; simp only [h1, if_false]
        rw [hg]
        cases ht : takeType (s.drop at_) with
        | none =>
          simp only [endOf, bI_lss, Option.bind_some, asB_bool, show (-1 : Int) < 0 by decide, decide_true, cond_true]
          exact ⟨H, rfl⟩
        | some q =>
          obtain ⟨t, rest⟩ := q
          obtain ⟨e1, e2⟩ := takeType_eq ht
          have hl : s.length - at_ = t.length + rest.length := by
            have := congrArg List.length e1; simpa using this
          simp only [endOf, bI_lss, Option.bind_some, asB_bool, show ¬ ((at_ + t.length : Nat) : Int) < 0 by omega, decide_false, cond_false, hA.len, List.length_map, bI_geq]
          by_cases h4 : 4 ≤ acc.length
          · simp only [h4, show (4 : Int) ≤ (acc.length : Int) by omega, decide_true, cond_true, dif_pos]
            exact ⟨H, rfl⟩
          · simp only [h4, show ¬ (4 : Int) ≤ (acc.length : Int) by omega, decide_false, cond_false, dif_neg, not_false_eq_true]
            rw [slS_mid (by omega) (by omega) (by omega)]
            have et : (s.take ((at_ + t.length : Nat) : Int).toNat).drop ((at_ : Int)).toNat = t := by
              rw [show ((at_ + t.length : Nat) : Int).toNat = at_ + t.length by omega, show ((at_ : Int)).toNat = at_ by omega]
              rw [List.drop_take, show at_ + t.length - at_ = t.length by omega, e1]; simp
            have er : s.drop (at_ + t.length) = rest := by rw [← List.drop_drop, e1]; simp
            rw [et]
            simp only [Option.bind_some]
            rw [bsl_one (esz := 1) (by omega) rfl rfl rfl]
            simp only [Option.bind_some]
            obtain ⟨d', H', h5, h6, h7⟩ := app_one (eb := 16) (c := rStr t) hA rfl (by simp [maxLen]; omega)
            rw [show (D.str t).cells = rStr t from rfl, h5]
            simp only [Option.bind_some]
            have := c81_5 s hs (k - 1) (at_ + t.length) (acc ++ [t]) d' H' (by simp; omega) (by omega) (by simp; omega) (by simpa using h6)
            rw [er, List.length_append, List.length_singleton] at this
            exact this.step
  termination_by k => k
  decreasing_by omega
theorem DescOut.read {p : Option (D × Heap)} {q : Option (List (List UInt8) × List UInt8)} (h : DescOut p [] q) {l : Bool} : (p.bind fun r => readT l depth r.2 r.1) = some (descRes q) := by
  cases q with
  | none => obtain ⟨H', rfl⟩ := h; rfl
  | some q =>
    obtain ⟨d', H', rfl, hA⟩ := h
    simp only [List.nil_append] at hA
    have hp : plainRows (q.1.map rStr) := by
      intro r hr l n H; obtain ⟨x, _, rfl⟩ := List.mem_map.mp hr; simp [rStr]
    simp only [Option.bind_some, readT_tup9, optAll_cons, optAll_nil, readT_str, readT_bool, hA.read hp l 7, descRes, Option.map_some]
theorem c81o (s : List UInt8) (hs : s.length ≤ 140737488351232) : DescOut (ent E 81 [.str s] []) [] (descOf s) := by
  rw [e81, bsl_zero _ _ _ rfl]
  cases s with
  | nil => exact ⟨[], by simp⟩
  | cons c r =>
    have h40 := byte_int c 40 (by omega)
    have hx : ix (.str (c :: r)) (.int .i64 0) = some (.int .u8 c.toNat) := rfl
    simp only [lnS_str, Option.bind_some, bI_eql, asB_bool, show ¬ (((c :: r).length : Nat) : Int) = 0 by simp; omega, decide_false, cond_false, hx, bI_neq, descOf]
    by_cases h1 : c = 40
    · have e40 : (c.toNat : Int) = 40 := h40.mpr h1
      simp only [e40, decide_true, Bool.not_true, cond_false, h1, if_true]
      have := c81_5 (c :: r) hs 4 1 [] .sl0 [] (by simp) (by simp) (by simp) (Acc.nil _ _)
      subst h1
      simp only [List.length_nil, List.drop_succ_cons, List.drop_zero, Int.natCast_one] at this
      exact this
    · have n40 : ¬ ((c.toNat : Int) = 40) := fun e => h1 (h40.mp e)
      simp only [n40, decide_false, Bool.not_false, cond_true, h1, if_false]
      exact ⟨[], rfl⟩
theorem c81 (s : List UInt8) (hs : s.length ≤ 140737488351232) (l : Bool) : run E (exec E) l 81 [.str s] = some (descRes (descOf s)) := by
  rw [run_ent]; exact (c81o s hs).read
theorem c40 (s : List UInt8) (hs : s.length ≤ 140737488351232) : run E (exec E) true 40 [.str s] = some (descRes (descOf s)) := by
  rw [run_ent, e40]
  simp only [call_view, optAll_cons, optAll_nil, readT_str, Option.bind_some, c81 s hs]
  cases descOf s <;> simp [descRes]
theorem c114 (s : List UInt8) (hs : s.length ≤ 140737488351232) : run E (exec E) false 114 [.str s] = some (.bool (descOf s).isSome) := by
  rw [run_ent, e114]
  simp only [call_view, optAll_cons, optAll_nil, readT_str, Option.bind_some, c81 s hs]
  cases descOf s <;> simp [descRes]
/-! The program's way. -/
def nextCut (s : List UInt8) : Nat := match s with
  | [] => 0
  | b :: r => if b = 73 then 1 else match cutAt 59 (b :: r) with | some (a, _) => a.length + 1 | none => 0
theorem typeOk_cut (s : List UInt8) (hs : s ≠ []) : nextCut s ≤ s.length ∧ match takeType s with
    | some (t, rest) => typeOk (s.take (nextCut s)) = true ∧ s.take (nextCut s) = t ∧ s.drop (nextCut s) = rest
    | none => typeOk (s.take (nextCut s)) = false := by
  cases s with
  | nil => exact absurd rfl hs
  | cons b r =>
    by_cases h1 : b = 73
    · subst h1
      have hn : nextCut (73 :: r) = 1 := by simp [nextCut]
      rw [hn]
      exact ⟨by simp, rfl, by simp, by simp⟩
    · cases hc : cutAt 59 (b :: r) with
      | none =>
        have hn : nextCut (b :: r) = 0 := by simp [nextCut, h1, hc]
        rw [hn]
        refine ⟨by simp, ?_⟩
        have h59 := cutAt_none hc
        have : takeType (b :: r) = none := by
          have h59' : (59 : UInt8) ∉ r := fun e => h59 (by simp [e])
          simp [takeType, h1, cutAt_not h59']
        rw [this]; rfl
      | some q =>
        obtain ⟨a, t⟩ := q
        obtain ⟨e1, e2⟩ := cutAt_eq hc
        have hn : nextCut (b :: r) = a.length + 1 := by simp [nextCut, h1, hc]
        rw [hn]
        have hl : (b :: r).length = a.length + t.length + 1 := by rw [e1]; simp; omega
        have htk : (b :: r).take (a.length + 1) = a ++ [59] := by
          rw [e1, List.take_append, List.take_of_length_le (by omega)]; simp
        have hdr : (b :: r).drop (a.length + 1) = t := by
          rw [e1, List.drop_append]; simp
        rw [htk, hdr]
        refine ⟨by omega, ?_⟩
        cases a with
        | nil =>
          simp only [List.nil_append, List.cons.injEq] at e1
          obtain ⟨rfl, rfl⟩ := e1
          have : takeType (59 :: r) = none := by simp [takeType]
          rw [this]; rfl
        | cons b' a =>
          simp only [List.cons_append, List.cons.injEq] at e1
          obtain ⟨rfl, e1⟩ := e1
          have h3 : cutAt 59 r = some (a, t) := by rw [e1]; exact cutAt_of _ fun e => e2 (by simp [e])
          simp only [takeType, h1, if_false, h3, List.cons_append]
          by_cases h2 : b = 76
          · subst h2
            simp only [if_true]
            by_cases hk : nameOk a = true
            · simp [hk, typeOk, clsName]
            · simp [hk, typeOk, clsName]
          · simp [h2, typeOk, clsName, h1]
theorem c39_6 (back : List UInt8) (hb : descOk ([], back) = true) : ∀ (k : Nat) (s : List UInt8) (acc : List (List UInt8)) (d : D) (H : Heap), 4 - acc.length ≤ k → s.length ≤ 140737488351232 → acc.length ≤ 4 → Acc 1 H d (acc.map rStr) → DescOut (J E 39 6 [.str back, .str s, d] H) acc ((takeAll acc.length s).map fun q => (q, back))
  | k, s, acc, d, H, hk, hs, hacc, hA => by
    rw [j39_6]
    cases s with
    | nil =>
      rw [takeAll]
      simp only [bS_neq, decide_true, Bool.not_true, Option.bind_some, asB_bool, cond_false, Option.map_some]
      exact ⟨d, H, rfl, by simpa using hA⟩
    | cons b r =>
      have hx : ix (.str (b :: r)) (.int .i64 0) = some (.int .u8 b.toNat) := rfl
      have h73 := byte_int b 73 (by omega)
      obtain ⟨hn, hT⟩ := typeOk_cut (b :: r) (by simp)
      have tail : DescOut (J E 39 10 [.str back, .str (b :: r), d, .int .i64 (nextCut (b :: r))] H) acc ((takeAll acc.length (b :: r)).map fun q => (q, back)) := by
        rw [j39_10, slS_to (by omega) (by omega), slS_from (by omega) (by omega)]
        simp only [Int.toNat_natCast, Option.bind_some, call_pure, optAll_cons, optAll_nil, readT_str]
        rw [c18 _ (by simp at hs ⊢; omega), takeAll]
        cases ht : takeType (b :: r) with
        | none =>
          rw [ht] at hT
          simp only at hT
          simp only [hT, Option.bind_some, unOp_not, Bool.not_false, asB_bool, cond_true]
          exact ⟨H, rfl⟩
        | some q =>
          obtain ⟨t, rest⟩ := q
          rw [ht] at hT
          simp only at hT
          obtain ⟨t1, t2, t3⟩ := hT
          rw [t2] at t1
          simp only [t1, t2, t3, Option.bind_some, unOp_not, Bool.not_true, asB_bool, cond_false, hA.len, List.length_map, bI_eql]
          by_cases h4 : 4 ≤ acc.length
          · simp only [h4, show (acc.length : Int) = 4 by omega, decide_true, cond_true, dif_pos]
            exact ⟨H, rfl⟩
          · simp only [h4, show ¬ (acc.length : Int) = 4 by omega, decide_false, cond_false, dif_neg, not_false_eq_true]
            rw [bsl_one (esz := 1) (by omega) rfl rfl rfl]
            simp only [Option.bind_some]
            obtain ⟨d', H', h5, h6, h7⟩ := app_one (eb := 16) (c := rStr t) hA rfl (by simp [maxLen]; omega)
            rw [show (D.str t).cells = rStr t from rfl, h5]
            simp only [Option.bind_some]
            have hl := takeType_eq ht
            have hl2 := congrArg List.length hl.1
            simp only [List.length_append] at hl2
            have := c39_6 back hb (k - 1) rest (acc ++ [t]) d' H' (by simp; omega) (by omega) (by simp; omega) (by simpa using h6)
            rw [List.length_append, List.length_singleton] at this
            cases htk : takeAll (acc.length + 1) rest with
            | none => rw [htk] at this; exact this
            | some ts =>
              rw [htk] at this
              obtain ⟨d2, H2, g1, g2⟩ := this
              exact ⟨d2, H2, g1, by simpa using g2⟩
      simp only [bS_neq, show ¬ (b :: r) = [] by simp, decide_false, Bool.not_false, Option.bind_some, asB_bool, cond_true, hx, bI_neq]
      by_cases h1 : b = 73
      · have e73 : (b.toNat : Int) = 73 := h73.mpr h1
        simp only [e73, decide_true, Bool.not_true, cond_false]
        have hn1 : nextCut (b :: r) = 1 := by simp [nextCut, h1]
        rw [hn1] at tail
        exact tail
      · have n73 : ¬ ((b.toNat : Int) = 73) := fun e => h1 (h73.mp e)
        have hi := c80 (b :: r) 59
        simp only [n73, decide_false, Bool.not_false, cond_true, call_pure, optAll_cons, optAll_nil, readT_str, readT_int, Option.bind_some]
        rw [show D.int .u8 59 = D.int .u8 (((59 : UInt8).toNat : Nat) : Int) from rfl, hi]
        simp only [Option.bind_some, bI_add]
        have e : IntKind.wrap .i64 (Go.Lib.indexByte (b :: r) 59 + 1) = (nextCut (b :: r) : Int) := by
          rw [indexByte_cut]
          simp only [nextCut, h1, if_false]
          cases hc : cutAt 59 (b :: r) with
          | none => exact wrap_i64 (by decide) (by decide)
          | some q =>
            obtain ⟨a, t⟩ := q
            have := congrArg List.length (cutAt_eq hc).1
            simp only [List.length_append, List.length_cons] at this hs
            simp only
            rw [wrap_i64 (by omega) (by omega)]
            simp
        rw [e]
        exact tail
  termination_by k => k
  decreasing_by omega
theorem c39o (s : List UInt8) (hs : s.length ≤ 140737488351232) : DescOut (ent E 39 [.str s] []) [] (descOf s) := by
  rw [e39]
  simp only [call_pure, optAll_cons, optAll_nil, readT_str, Option.bind_some, c78 s 41 hs, cutRes]
  cases hc : cutAt 41 s with
  | none =>
    have hn := cutAt_none hc
    have e : descOf s = none := by
      cases s with
      | nil => rfl
      | cons c r =>
        have : descGo 0 r = none := descGo_none 0 r fun e => hn (by simp [e])
        simp [descOf, this]
    rw [e]
    simp only [extract_tup, List.getElem?_cons_zero, List.getElem?_cons_succ, Option.bind_some, readT_str, c79]
    cases s with
    | nil => exact ⟨[], by simp [cutPre]⟩
    | cons c r => by_cases h : c = 40 <;> exact ⟨[], by simp [cutPre, h]⟩
  | some q =>
    obtain ⟨inner, back⟩ := q
    obtain ⟨e1, e2⟩ := cutAt_eq hc
    have hl := congrArg List.length e1
    simp only [List.length_append, List.length_cons] at hl
    simp only [extract_tup, List.getElem?_cons_zero, List.getElem?_cons_succ, Option.bind_some, readT_str, c79, unOp_not, Bool.not_true, asB_bool, cond_false]
    cases inner with
    | nil =>
      have e : descOf s = none := by rw [e1]; simp [descOf]
      rw [e]
      exact ⟨[], by simp [cutPre]⟩
    | cons c r =>
      by_cases h : c = 40
      · have e41 : (41 : UInt8) ∉ r := fun e => e2 (by simp [e])
        have e : descOf s = match (takeAll 0 r).map (fun q => (q, back)) with | some q => if descOk q = true then some q else none | none => none := by
          rw [e1, List.cons_append, descOf]; simp only [h, if_true, descGo_app back 0 r e41]
        rw [e]
        simp only [cutPre, h, if_true, extract_tup, List.getElem?_cons_zero, List.getElem?_cons_succ, Option.bind_some, unOp_not, Bool.not_true, asB_bool, cond_false, bS_neq]
        rw [c18 back (by omega)]
        simp only [Option.bind_some, unOp_not, asB_bool]
        have hgo : ∀ hb : descOk ([], back) = true, DescOut (J E 39 6 [.str back, .str r, .sl0] []) [] (match (takeAll 0 r).map (fun q => (q, back)) with | some q => if descOk q = true then some q else none | none => none) := by
          intro hb
          have := c39_6 back hb 4 r [] .sl0 [] (by simp) (by simp only [List.length_cons] at hl; omega) (by simp) (Acc.nil _ _)
          rw [List.length_nil] at this
          cases ht : takeAll 0 r with
          | none => rw [ht] at this; exact this
          | some ts =>
            rw [ht] at this
            have hb' : descOk (ts, back) = true := hb
            simp only [Option.map_some, hb', if_true]
            exact this
        have hbad : descOk ([], back) = false → (match (takeAll 0 r).map (fun q => (q, back)) with | some q => if descOk q = true then some q else none | none => none) = (none : Option (List (List UInt8) × List UInt8)) := by
          intro hb
          cases takeAll 0 r with
          | none => rfl
          | some ts =>
            have hb' : descOk (ts, back) = false := hb
            simp [hb']
        by_cases hv : back = [86]
        · simp only [hv, decide_true, Bool.not_true, cond_false]
          rw [← hv]
          exact hgo (by simp [descOk, hv])
        · simp only [hv, decide_false, Bool.not_false, cond_true]
          cases ht : typeOk back with
          | true =>
            simp only [Bool.not_true, cond_false]
            exact hgo (by simp [descOk, ht])
          | false =>
            rw [hbad (by simp [descOk, hv, ht])]
            simp only [Bool.not_false, cond_true]
            exact ⟨[], rfl⟩
      · have e : descOf s = none := by rw [e1]; simp [descOf, h]
        rw [e]
        exact ⟨[], by simp [cutPre, h]⟩
theorem p39 (s : List UInt8) (hs : s.length ≤ 140737488351232) : run E (exec E) false 39 [.str s] = some (descRes (descOf s)) := by
  rw [run_ent]; exact (c39o s hs).read
theorem c120 (s : List UInt8) (hs : s.length ≤ 140737488351232) : run E (exec E) false 120 [.str s] = some (.bool (descOf s).isSome) := by
  rw [run_ent, e120]
  simp only [call_pure, optAll_cons, optAll_nil, readT_str, Option.bind_some, p39 s hs]
  cases descOf s <;> simp [descRes]
theorem c39 (s : List UInt8) (hs : s.length ≤ 140737488351232) : OwnC E 2 39 [.str s] (descRes (descOf s)) := by
  have h := c39o s hs
  cases hq : descOf s with
  | none =>
    rw [hq] at h
    obtain ⟨H, h⟩ := h
    exact ⟨_, H, [], h, .tup (.cons (B := []) (B' := []) .sl0 (.cons (B := []) (B' := []) (.sc rfl) (.cons (B := []) (B' := []) (.sc rfl) .nil))), List.nodup_nil⟩
  | some q =>
    rw [hq] at h
    obtain ⟨d, H, h, hA⟩ := h
    simp only [List.nil_append] at hA
    obtain ⟨B, r1, r2, -⟩ := hA.rep (o := true) (n := 0) (fun r hr => by obtain ⟨x, _, rfl⟩ := List.mem_map.mp hr; rfl)
    refine ⟨_, H, B, h, ?_, r2⟩
    have := RepT.tup (RepR.cons r1 (RepR.cons (B := []) (B' := []) (.sc (d := .str q.2) rfl) (RepR.cons (B := []) (B' := []) (.sc (d := .bool true) rfl) .nil)))
    simpa [descRes] using this

theorem descGo_join : ∀ (n : Nat) (s : List UInt8) (q : List (List UInt8) × List UInt8), n ≤ 4 → descGo n s = some q → s = q.1.flatten ++ 41 :: q.2 ∧ (∀ t ∈ q.1, typeOk t = true) ∧ n + q.1.length ≤ 4
  | n, [], q, hn, h => by rw [descGo] at h; cases h
  | n, c :: r, q, hn, h => by
    rw [descGo] at h
    by_cases hc : c = 41
    · simp only [hc, if_true] at h
      cases h
      exact ⟨by simp [hc], by simp, by simpa using hn⟩
    · simp only [hc, if_false] at h
      cases hk : takeType (c :: r) with
      | none => rw [hk] at h; cases h
      | some p =>
        obtain ⟨t, rest⟩ := p
        rw [hk] at h
        simp only at h
        by_cases h4 : 4 ≤ n
        · simp [h4] at h
        · simp only [h4, dif_neg, not_false_eq_true] at h
          obtain ⟨q', hq, rfl⟩ := Option.map_eq_some_iff.mp h
          obtain ⟨e1, e2, e3⟩ := descGo_join (n + 1) rest q' (by omega) hq
          have ht := typeOk_cut (c :: r) (by simp)
          rw [hk] at ht
          simp only at ht
          obtain ⟨-, t1, t2, -⟩ := ht
          rw [t2] at t1
          refine ⟨by rw [(takeType_eq hk).1, e1]; simp, ?_, by simp; omega⟩
          intro x hx
          rcases List.mem_cons.mp hx with rfl | hx
          · exact t1
          · exact e2 x hx
  termination_by n => 4 - n
  decreasing_by omega
theorem descOf_join {s : List UInt8} {q : List (List UInt8) × List UInt8} (h : descOf s = some q) : s = 40 :: (q.1.flatten ++ 41 :: q.2) ∧ (∀ t ∈ q.1, typeOk t = true) ∧ q.1.length ≤ 4 ∧ descOk q = true := by
  cases s with
  | nil => cases h
  | cons c r =>
    simp only [descOf] at h
    split at h
    · rename_i hc
      split at h
      · rename_i q' hq
        split at h
        · rename_i hd
          cases h
          obtain ⟨e1, e2, e3⟩ := descGo_join 0 r q (by omega) hq
          exact ⟨by rw [hc, e1], e2, by omega, hd⟩
        · cases h
      · cases h
    · cases h
def dTakes (s : List UInt8) : List (List UInt8) := match descOf s with | some q => q.1 | none => []
def dBack (s : List UInt8) : List UInt8 := match descOf s with | some q => q.2 | none => []
def dOk (s : List UInt8) : Bool := match descOf s with | some q => true | none => false
theorem descRes_eq (s : List UInt8) : descRes (descOf s) = .tup [.list ((dTakes s).map rStr), .str (dBack s), .bool (dOk s)] := by
  unfold dTakes dBack dOk descRes
  cases descOf s <;> rfl
theorem dTakes_len (s : List UInt8) : (dTakes s).length ≤ 4 := by
  unfold dTakes
  cases h : descOf s with
  | none => simp
  | some q => exact (descOf_join h).2.2.1

end Go.Ev.Ytohkcloiokhglaa
