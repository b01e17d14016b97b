/- Contracts. -/
import Derived.Test.YtohkcloiokhglaaC2S0
namespace Go.Ev.Ytohkcloiokhglaa
set_option linter.unusedVariables false
set_option linter.unusedSimpArgs false
open Go.Ev
/-! Names and types. -/
def isLet (b : UInt8) : Bool := (decide ((97 : Int) ≤ b.toNat) && decide ((b.toNat : Int) ≤ 122)) || (decide ((65 : Int) ≤ b.toNat) && decide ((b.toNat : Int) ≤ 90))
def isDig (b : UInt8) : Bool := decide ((48 : Int) ≤ b.toNat) && decide ((b.toNat : Int) ≤ 57)
def isAl (b : UInt8) : Bool := isLet b || isDig b
def fstDig : List UInt8 → Bool
  | [] => false
  | a :: _ => isDig a
def nameOk (s : List UInt8) : Bool := inR s.length 1 8 && s.all isAl && !(fstDig s)
theorem let_dig (b : UInt8) (h : isLet b = true) : isDig b = false := by
  cases hd : isDig b with
  | false => rfl
  | true => simp [isLet, isDig] at h hd; omega
theorem c94 (b : UInt8) : run E (exec E) false 94 [.int .u8 b.toNat] = some (.bool (isLet b)) := by
  rw [run_ent, e94]
  simp only [bI_geq, bI_leq, Option.bind_some, asB_bool, isLet]
  by_cases h1 : (97 : Int) ≤ b.toNat <;> by_cases h2 : (b.toNat : Int) ≤ 122 <;> by_cases h3 : (65 : Int) ≤ b.toNat <;> by_cases h4 : (b.toNat : Int) ≤ 90 <;> simp [h1, h2, h3, h4]
theorem all_step (p : UInt8 → Bool) (s : List UInt8) {i : Nat} (hi : i < s.length) : (s.drop i).all p = (p s[i] && (s.drop (i + 1)).all p) := by
  rw [List.drop_eq_getElem_cons hi]; rfl
theorem c57_2 (s : List UInt8) (hs : s.length ≤ 140737488351232) (H : Heap) : ∀ i, i ≤ s.length → J E 57 2 [.str s, .int .i64 i] H = some (.bool (inR s.length 1 8 && (s.drop i).all isAl && !(decide (i = 0) && fstDig s)), H) := by
  refine loop_up (P := fun i => _) ?_ fun i hi ih => ?_
  · rw [j57_2]
    simp [call_pure, c66]
    cases hr : inR s.length 1 8 with
    | false => simp
    | true =>
      have : ¬ s.length = 0 := by simp [inR] at hr; omega
      have hne : ¬ s = [] := by rintro rfl; simp at this
      simp [hne]
  · rw [j57_2]
    have hlt : ((i : Nat) : Int) < (s.length : Int) := by omega
    simp only [lnS_str, bI_lss, hlt, decide_true, cond_true, asB_bool, Option.bind_some, ix_nat, List.getElem?_eq_getElem hi, Option.map_some, call_pure, optAll_cons, optAll_nil, readT_int, c94, unOp_not, bI_eql, bI_gtr, bI_add]
    rw [wrap_i64 (n := (i : Int) + 1) (by omega) (by omega)]
    rw [show (i : Int) + 1 = ((i + 1 : Nat) : Int) from rfl, ih, all_step isAl s hi]
    have hn : ¬ i + 1 = 0 := by omega
    have hz : ((i : Int) = 0) ↔ i = 0 := by omega
    cases hl : isLet s[i] with
    | true =>
      have := let_dig _ hl
      by_cases h0 : i = 0
      · subst h0
        have hh : fstDig s = isDig s[0] := by cases s with | nil => simp at hi | cons a t => rfl
        by_cases h1 : (s[0].toNat : Int) < 48 <;> simp [isAl, hl, this, hh, h1]
      · by_cases h1 : (s[i].toNat : Int) < 48 <;> simp [isAl, hl, hn, h0, h1]
    | false =>
      by_cases h0 : i = 0
      · subst h0
        have hh : fstDig s = isDig s[0] := by cases s with | nil => simp at hi | cons a t => rfl
        simp only [Bool.not_false, cond_true, Int.natCast_zero, decide_true, ret_one, isAl, hl, Bool.false_or, hh]
        cases isDig s[0] <;> simp
      · have hd : isDig s[i] = (!decide ((s[i].toNat : Int) < 48) && !decide ((57 : Int) < s[i].toNat)) := by
          simp only [isDig]
          by_cases h1 : (48 : Int) ≤ s[i].toNat <;> by_cases h2 : (s[i].toNat : Int) ≤ 57 <;> simp [h1, h2] <;> omega
        have hi0 : ¬ ((i : Int) = 0) := by omega
        simp only [Bool.not_false, cond_true, hi0, decide_false, cond_false, isAl, hl, Bool.false_or, hd, h0, hn, Bool.false_and, Bool.not_false, Bool.and_true]
        by_cases h1 : (s[i].toNat : Int) < 48 <;> by_cases h2 : (57 : Int) < s[i].toNat <;> simp [h1, h2]
theorem c57 (s : List UInt8) (hs : s.length ≤ 140737488351232) : run E (exec E) false 57 [.str s] = some (.bool (nameOk s)) := by
  rw [run_ent, e57]
  have := c57_2 s hs [] 0 (by omega)
  simp only [Int.natCast_zero] at this
  rw [this]; simp [nameOk]
theorem c15 (s : List UInt8) (hs : s.length ≤ 140737488351232) : run E (exec E) false 15 [.str s] = some (.bool (nameOk s)) := by
  rw [run_ent, e15]
  simp [call_pure, c57 s hs]
theorem c16_4 (s : List UInt8) (hs : s.length ≤ 140737488351232) (H : Heap) : ∀ i, i ≤ s.length → J E 16 4 [.str s, .int .i64 s.length, .int .i64 i] H = some (.bool ((s.drop i).all isAl), H) := by
  refine loop_up (P := fun i => _) ?_ fun i hi ih => ?_
  · rw [j16_4]; simp
  · rw [j16_4]
    have hlt : ((i : Nat) : Int) < (s.length : Int) := by omega
    simp only [bI_lss, hlt, decide_true, cond_true, asB_bool, Option.bind_some, ix_nat, List.getElem?_eq_getElem hi, Option.map_some, bI_geq, bI_leq, unOp_not, bI_add, Bool.not_true, Bool.not_false, cond_false]
    rw [wrap_i64 (n := (i : Int) + 1) (by omega) (by omega)]
    rw [show (i : Int) + 1 = ((i + 1 : Nat) : Int) from rfl, ih, all_step isAl s hi]
    simp only [isAl, isLet, isDig]
    by_cases h1 : (97 : Int) ≤ s[i].toNat <;> by_cases h2 : (s[i].toNat : Int) ≤ 122 <;> by_cases h3 : (65 : Int) ≤ s[i].toNat <;> by_cases h4 : (s[i].toNat : Int) ≤ 90 <;> by_cases h5 : (48 : Int) ≤ s[i].toNat <;> by_cases h6 : (s[i].toNat : Int) ≤ 57 <;> simp [h1, h2, h3, h4, h5, h6]
theorem c16 (s : List UInt8) (hs : s.length ≤ 140737488351232) : run E (exec E) false 16 [.str s] = some (.bool (nameOk s)) := by
  rw [run_ent, e16]
  simp only [lnS_str, Option.bind_some, call_pure, optAll_cons, optAll_nil, readT_int, c58, unOp_not, asB_bool]
  cases hr : inR s.length 1 8 with
  | false => simp [nameOk, hr]
  | true =>
    have hl : 0 < s.length := by simp [inR] at hr; omega
    have := c16_4 s hs [] 0 (by omega)
    simp only [Int.natCast_zero, List.drop_zero] at this
    obtain ⟨a, t, rfl⟩ : ∃ a t, s = a :: t := by cases s with | nil => simp at hl | cons a t => exact ⟨a, t, rfl⟩
    have hx : ix (.str (a :: t)) (.int .i64 0) = some (.int .u8 a.toNat) := rfl
    simp only [Bool.not_true, cond_false, hx, Option.bind_some, bI_geq, bI_leq, asB_bool, this, nameOk, hr, fstDig, isDig]
    by_cases h5 : (48 : Int) ≤ a.toNat <;> by_cases h6 : (a.toNat : Int) ≤ 57 <;> simp [h5, h6]
/-! Texts that are cut. -/
def cutAt (c : UInt8) : List UInt8 → Option (List UInt8 × List UInt8)
  | [] => none
  | b :: l => if b = c then some ([], l) else (cutAt c l).map fun q => (b :: q.1, q.2)
theorem cutAt_eq {c : UInt8} : ∀ {s a r : List UInt8}, cutAt c s = some (a, r) → s = a ++ c :: r ∧ c ∉ a
  | [], a, r, h => by simp [cutAt] at h
  | b :: l, a, r, h => by
    rw [cutAt] at h
    split at h
    · rename_i hb; cases h; subst hb; simp
    · rename_i hb
      obtain ⟨⟨a', r'⟩, h', e⟩ := Option.map_eq_some_iff.mp h
      cases e
      obtain ⟨e1, e2⟩ := cutAt_eq h'
      exact ⟨by rw [e1]; rfl, by simp [e2]; exact fun e => hb e.symm⟩
theorem cutAt_none {c : UInt8} : ∀ {s : List UInt8}, cutAt c s = none → c ∉ s
  | [], h => by simp
  | b :: l, h => by
    rw [cutAt] at h
    split at h
    · cases h
    · rename_i hb
      have := cutAt_none (Option.map_eq_none_iff.mp h)
      simp [this]; exact fun e => hb e.symm
theorem cutAt_of {c : UInt8} : ∀ {a : List UInt8} (r : List UInt8), c ∉ a → cutAt c (a ++ c :: r) = some (a, r)
  | [], r, _ => by simp [cutAt]
  | b :: a, r, h => by
    have h1 : ¬ b = c := fun e => h (by simp [e])
    have h2 : c ∉ a := fun e => h (by simp [e])
    simp [cutAt, h1, cutAt_of r h2]
theorem cutAt_not {c : UInt8} {s : List UInt8} (h : c ∉ s) : cutAt c s = none := by
  cases hc : cutAt c s with
  | none => rfl
  | some q => obtain ⟨a, r⟩ := q; have := (cutAt_eq hc).1; rw [this] at h; simp at h
theorem indexByte_cut (c : UInt8) : ∀ s : List UInt8, Go.Lib.indexByte s c = match cutAt c s with | some (a, _) => (a.length : Int) | none => -1
  | [] => rfl
  | b :: l => by
    have ih := indexByte_cut c l
    rw [Go.Lib.indexByte, cutAt, ih]
    by_cases h : b = c
    · simp [h]
    · cases hc : cutAt c l with
      | none => simp [h]
      | some q => obtain ⟨a, r⟩ := q; simp [h] <;> omega
theorem c103 (s : List UInt8) (c : UInt8) : run E (exec E) false 103 [.str s, .int .u8 c.toNat] = some (.int .i64 (Go.Lib.indexByte s c)) := by
  rw [run_ent, e103]
  have h : callFn E (exec E) .ext 128 [.str s, .int .u8 c.toNat] [] = some (.int .i64 (Go.Lib.indexByte s c), []) := by
    have e1 : E.ext 128 [.str s, .int .u8 c.toNat] = some (.int .i64 (Go.Lib.indexByte s c)) := by
      show some (D.int .i64 (Go.Lib.indexByte s ((c.toNat : Int)).toNat.toUInt8)) = _
      simp
    simp only [callFn, optAll_cons, optAll_nil, readT_str, readT_int, Option.bind_some, e1]
    rfl
  rw [h]; simp
theorem slS_to {s : List UInt8} {n : Int} (h0 : 0 ≤ n) (h1 : n ≤ s.length) : slS (.str s) none (some (.int .i64 n)) none = some (.str (s.take n.toNat)) := by
  simp [slS, bound, sliceStr, h0, h1]
theorem slS_from {s : List UInt8} {n : Int} (h0 : 0 ≤ n) (h1 : n ≤ s.length) : slS (.str s) (some (.int .i64 n)) none none = some (.str (s.drop n.toNat)) := by
  simp [slS, bound, sliceStr, h0, h1]
def ib (c : UInt8) (s : List UInt8) : Int := Go.Lib.indexByte s c
theorem c80 (s : List UInt8) (c : UInt8) : run E (exec E) false 80 [.str s, .int .u8 c.toNat] = some (.int .i64 (Go.Lib.indexByte s c)) := by
  rw [run_ent, e80]
  simp [call_pure, c103]
theorem c126 (s : List UInt8) (c : UInt8) : run E (exec E) false 126 [.str s, .str [c]] = some (.int .i64 (Go.Lib.indexByte s c)) := by
  rw [run_ent, e126]
  have hx : ix (.str [c]) (.int .i64 0) = some (.int .u8 c.toNat) := rfl
  simp only [lnS_str, Option.bind_some, bI_eql, List.length_singleton, asB_bool, show ¬ ((1 : Nat) : Int) = 0 by decide, decide_false, cond_false, bS_eql]
  by_cases h : [c] = s
  · subst h
    have : Go.Lib.indexByte [c] c = 0 := by simp [Go.Lib.indexByte]
    simp [this]
  · simp only [h, decide_false, cond_false, show ((1 : Nat) : Int) = 1 from rfl, decide_true, cond_true, hx, Option.bind_some, call_pure, optAll_cons, optAll_nil, readT_str, readT_int, c103, ret_one]
def cutRes (c : UInt8) (s : List UInt8) : D := match cutAt c s with | some (a, r) => .tup [.str a, .str r, .bool true] | none => .tup [.str s, .str [], .bool false]
theorem c101 (s : List UInt8) (c : UInt8) (hs : s.length ≤ 140737488351232) : run E (exec E) false 101 [.str s, .str [c]] = some (cutRes c s) := by
  rw [run_ent, e101]
  simp only [call_pure, optAll_cons, optAll_nil, readT_str, Option.bind_some, c126, bI_geq, asB_bool, indexByte_cut, cutRes]
  cases hc : cutAt c s with
  | none => simp
  | some q =>
    obtain ⟨a, r⟩ := q
    have e := (cutAt_eq hc).1
    have hl : s.length = a.length + r.length + 1 := by rw [e]; simp; omega
    simp only [show (0 : Int) ≤ (a.length : Int) by omega, decide_true, cond_true]
    rw [slS_to (by omega) (by omega)]
    simp only [Option.bind_some, lnS_str, List.length_singleton, bI_add]
    rw [wrap_i64 (n := (a.length : Int) + ((1 : Nat) : Int)) (by omega) (by omega), slS_from (by omega) (by omega)]
    have e1 : s.take ((a.length : Int)).toNat = a := by rw [e]; simp
    have e2 : s.drop ((a.length : Int) + ((1 : Nat) : Int)).toNat = r := by
      rw [show ((a.length : Int) + ((1 : Nat) : Int)).toNat = a.length + 1 by omega, e]; simp
    rw [e1, e2]; simp
theorem c78 (s : List UInt8) (c : UInt8) (hs : s.length ≤ 140737488351232) : run E (exec E) false 78 [.str s, .str [c]] = some (cutRes c s) := by
  rw [run_ent, e78]
  simp only [call_pure, optAll_cons, optAll_nil, readT_str, Option.bind_some, c101 s c hs, cutRes]
  cases cutAt c s with
  | none => simp
  | some q => simp
theorem c127 (s : List UInt8) (c : UInt8) : run E (exec E) false 127 [.str s, .str [c]] = some (.bool (decide (s.head? = some c))) := by
  rw [run_ent, e127]
  cases s with
  | nil => simp
  | cons a t =>
    simp only [lnS_str, Option.bind_some, bI_geq, asB_bool, show ((([c] : List UInt8).length : Nat) : Int) ≤ ((a :: t).length : Int) by simp; omega, decide_true, cond_true]
    rw [slS_to (by simp) (by simp; omega)]
    simp
def cutPre (c : UInt8) : List UInt8 → D
  | [] => .tup [.str [], .bool false]
  | b :: r => if b = c then .tup [.str r, .bool true] else .tup [.str (b :: r), .bool false]
theorem c102 (s : List UInt8) (c : UInt8) : run E (exec E) false 102 [.str s, .str [c]] = some (cutPre c s) := by
  rw [run_ent, e102]
  simp only [call_pure, optAll_cons, optAll_nil, readT_str, Option.bind_some, c127, unOp_not, asB_bool]
  cases s with
  | nil => simp [cutPre]
  | cons a t =>
    by_cases h : a = c
    · subst h
      simp only [List.head?_cons, decide_true, Bool.not_true, cond_false, lnS_str, Option.bind_some]
      rw [slS_from (by simp) (by simp; omega)]
      simp [cutPre]
    · simp [cutPre, h]
theorem c79 (s : List UInt8) (c : UInt8) : run E (exec E) false 79 [.str s, .str [c]] = some (cutPre c s) := by
  rw [run_ent, e79]
  simp only [call_pure, optAll_cons, optAll_nil, readT_str, Option.bind_some, c102]
  cases s with
  | nil => simp [cutPre]
  | cons a t => by_cases h : a = c <;> simp [cutPre, h]
theorem c146 (s : List UInt8) (c : UInt8) (hs : s.length ≤ 140737488351232) : run E (exec E) false 146 [.str s, .str [c]] = some (.bool (decide (s.getLast? = some c))) := by
  rw [run_ent, e146]
  rcases List.eq_nil_or_concat s with rfl | ⟨t, a, rfl⟩
  · simp
  · simp only [List.concat_eq_append] at hs ⊢
    simp only [lnS_str, Option.bind_some, bI_geq, asB_bool, show ((([c] : List UInt8).length : Nat) : Int) ≤ ((t ++ [a]).length : Int) by simp; omega, decide_true, cond_true, bI_sub]
    rw [wrap_i64 (by simp <;> omega) (by simp at hs ⊢ <;> omega), slS_from (by simp) (by simp; omega)]
    simp
def cutSuf (c : UInt8) (s : List UInt8) : D := if s.getLast? = some c then .tup [.str s.dropLast, .bool true] else .tup [.str s, .bool false]
theorem c125 (s : List UInt8) (c : UInt8) (hs : s.length ≤ 140737488351232) : run E (exec E) false 125 [.str s, .str [c]] = some (cutSuf c s) := by
  rw [run_ent, e125]
  simp only [call_pure, optAll_cons, optAll_nil, readT_str, Option.bind_some, c146 s c hs, unOp_not, asB_bool, cutSuf]
  by_cases h : s.getLast? = some c
  · rcases List.eq_nil_or_concat s with rfl | ⟨t, a, rfl⟩
    · simp at h
    · simp only [List.concat_eq_append] at hs h ⊢
      simp only [h, decide_true, Bool.not_true, cond_false, lnS_str, Option.bind_some, bI_sub, if_true]
      rw [wrap_i64 (by simp <;> omega) (by simp at hs ⊢ <;> omega), slS_to (by simp) (by simp; omega)]
      simp
  · simp [h]
theorem c96 (s : List UInt8) (c : UInt8) (hs : s.length ≤ 140737488351232) : run E (exec E) false 96 [.str s, .str [c]] = some (cutSuf c s) := by
  rw [run_ent, e96]
  simp only [call_pure, optAll_cons, optAll_nil, readT_str, Option.bind_some, c125 s c hs, cutSuf]
  by_cases h : s.getLast? = some c <;> simp [h]
/-! Types. -/
def clsName : List UInt8 → Option (List UInt8)
  | [] => none
  | b :: r => if b = 76 ∧ r.getLast? = some 59 ∧ nameOk r.dropLast = true then some r.dropLast else none
def typeOk (s : List UInt8) : Bool := (clsName s).isSome || decide (s = [73])
theorem c60 (s : List UInt8) (hs : s.length ≤ 140737488351232) : ∃ n, run E (exec E) false 60 [.str s] = some (.tup [.str n, .bool (clsName s).isSome]) ∧ ∀ m, clsName s = some m → n = m := by
  rw [run_ent, e60]
  simp only [call_pure, optAll_cons, optAll_nil, readT_str, Option.bind_some, c79]
  cases s with
  | nil =>
    simp only [cutPre, extract_tup, List.getElem?_cons_zero, List.getElem?_cons_succ, Option.bind_some, readT_str]
    rw [c96 _ _ (by simp)]
    simp [cutSuf, clsName]
  | cons b r =>
    simp only [List.length_cons] at hs
    by_cases hb : b = 76
    · subst hb
      simp only [cutPre, if_true, extract_tup, List.getElem?_cons_zero, List.getElem?_cons_succ, Option.bind_some, readT_str]
      rw [c96 _ _ (by omega)]
      by_cases hl : r.getLast? = some 59
      · simp only [cutSuf, hl, if_true, extract_tup, List.getElem?_cons_zero, List.getElem?_cons_succ, Option.bind_some, asB_bool, cond_true, readT_str]
        rw [c16 _ (by simp; omega)]
        cases hn : nameOk r.dropLast <;> simp [clsName, hl, hn]
      · simp only [cutSuf, hl, if_false, extract_tup, List.getElem?_cons_zero, List.getElem?_cons_succ, Option.bind_some, asB_bool, cond_true, cond_false]
        simp [clsName, hl]
    · simp only [cutPre, hb, if_false, extract_tup, List.getElem?_cons_zero, List.getElem?_cons_succ, Option.bind_some, readT_str]
      rw [c96 _ _ (by simp; omega)]
      by_cases hl : (b :: r).getLast? = some 59
      · simp [cutSuf, hl, clsName, hb]
      · simp [cutSuf, hl, clsName, hb]
theorem c18 (s : List UInt8) (hs : s.length ≤ 140737488351232) : run E (exec E) false 18 [.str s] = some (.bool (typeOk s)) := by
  rw [run_ent, e18]
  obtain ⟨n, h1, -⟩ := c60 s hs
  simp only [call_pure, optAll_cons, optAll_nil, readT_str, Option.bind_some, h1, extract_tup, List.getElem?_cons_zero, List.getElem?_cons_succ, asB_bool, typeOk]
  cases (clsName s).isSome <;> simp
def takeType : List UInt8 → Option (List UInt8 × List UInt8)
  | [] => none
  | b :: r => if b = 73 then some ([73], r) else if b = 76 then match cutAt 59 r with | some (n, rest) => if nameOk n = true then some (76 :: (n ++ [59]), rest) else none | none => none else none
theorem takeType_eq {s t r : List UInt8} (h : takeType s = some (t, r)) : s = t ++ r ∧ 0 < t.length := by
  cases s with
  | nil => cases h
  | cons b l =>
    simp only [takeType] at h
    split at h
    · rename_i hb; cases h; subst hb; simp
    · split at h
      · rename_i hb
        subst hb
        split at h
        · rename_i n rest hc
          split at h
          · cases h
            have := (cutAt_eq hc).1
            rw [this]; simp
          · cases h
        · cases h
      · cases h
def endOf (at_ : Nat) : Option (List UInt8 × List UInt8) → Int
  | some (t, _) => ((at_ + t.length : Nat) : Int)
  | none => -1
theorem take_snoc {s : List UInt8} {k i : Nat} (hk : k ≤ i) (hi : i < s.length) : (s.take (i + 1)).drop k = (s.take i).drop k ++ [s[i]] := by
  rw [List.take_add_one, List.getElem?_eq_getElem hi, List.drop_append_of_le_length (by simp; omega)]; rfl
theorem c95_6 (s : List UInt8) (hs : s.length ≤ 140737488351232) (at_ : Nat) (H : Heap) : ∀ i, i ≤ s.length → at_ + 1 ≤ i → J E 95 6 [.str s, .int .i64 at_, .int .i64 i] H = some (.int .i64 (match cutAt 59 (s.drop i) with | some (a, _) => if nameOk ((s.take i).drop (at_ + 1) ++ a) = true then ((i + a.length + 1 : Nat) : Int) else -1 | none => -1), H) := by
  refine loop_up (P := fun i => _) ?_ fun i hi ih hat => ?_
  · intro hat
    rw [j95_6]
    simp [cutAt]
  · rw [j95_6]
    have hlt : ((i : Nat) : Int) < (s.length : Int) := by omega
    simp only [lnS_str, bI_lss, hlt, decide_true, cond_true, asB_bool, Option.bind_some, ix_nat, List.getElem?_eq_getElem hi, Option.map_some, bI_eql, bI_add]
    rw [wrap_i64 (n := (at_ : Int) + 1) (by omega) (by omega), wrap_i64 (n := (i : Int) + 1) (by omega) (by omega)]
    rw [List.drop_eq_getElem_cons hi]
    have hb : ((s[i].toNat : Int) = 59) ↔ s[i] = 59 := by
      constructor
      · intro h
        have : s[i].toNat = (59 : UInt8).toNat := by simpa using (by exact_mod_cast h : s[i].toNat = 59)
        exact UInt8.toNat_inj.mp this
      · intro h; rw [h]; rfl
    by_cases h : s[i] = 59
    · simp only [hb.mpr h, decide_true, cond_true]
      rw [slS_mid (by omega) (by omega) (by omega)]
      simp only [Option.bind_some, call_pure, optAll_cons, optAll_nil, readT_str]
      rw [c57 _ (by simp; omega)]
      rw [show ((i : Int)).toNat = i by omega, show ((at_ : Int) + 1).toNat = at_ + 1 by omega]
      simp only [Option.bind_some, asB_bool, cutAt, h, if_true, List.append_nil]
      cases nameOk ((s.take i).drop (at_ + 1)) <;> simp
    · have hb' : ¬ ((s[i].toNat : Int) = 59) := fun e => h (hb.mp e)
      simp only [hb', decide_false, cond_false]
      rw [show (i : Int) + 1 = ((i + 1 : Nat) : Int) from rfl, ih (by omega)]
      simp only [cutAt, h, if_false]
      cases hc : cutAt 59 (s.drop (i + 1)) with
      | none => rfl
      | some q =>
        obtain ⟨a, r⟩ := q
        simp only [Option.map_some]
        rw [take_snoc (by omega) hi]
        simp only [List.append_assoc, List.singleton_append, List.length_cons]
        rw [show i + 1 + a.length + 1 = i + (a.length + 1) + 1 by omega]
theorem byte_int (b : UInt8) (n : Nat) (hn : n < 256) : ((b.toNat : Int) = (n : Int)) ↔ b = UInt8.ofNat n := by
  constructor
  · intro h
    have h : b.toNat = n := by exact_mod_cast h
    rw [← h]; simp
  · intro h; rw [h]; simp; omega
theorem c95 (s : List UInt8) (hs : s.length ≤ 140737488351232) (at_ : Nat) (hat : at_ ≤ s.length) : run E (exec E) false 95 [.str s, .int .i64 at_] = some (.int .i64 (endOf at_ (takeType (s.drop at_)))) := by
  rw [run_ent, e95]
  by_cases he : at_ = s.length
  · subst he
    simp [takeType, endOf]
  · have hlt : at_ < s.length := by omega
    have hlt' : ((at_ : Nat) : Int) < (s.length : Int) := by omega
    have h73 := byte_int s[at_] 73 (by omega)
    have h76 := byte_int s[at_] 76 (by omega)
    simp only [lnS_str, bI_lss, hlt', decide_true, cond_true, asB_bool, Option.bind_some, ix_nat, List.getElem?_eq_getElem hlt, Option.map_some, bI_eql, bI_add, bI_geq, bI_neq, show ¬ (s.length : Int) ≤ at_ by omega, decide_false, cond_false]
    rw [wrap_i64 (n := (at_ : Int) + 1) (by omega) (by omega), List.drop_eq_getElem_cons hlt]
    by_cases h1 : s[at_] = 73
    · have := h73.mpr h1
      have this : (s[at_].toNat : Int) = 73 := this
      simp [this, takeType, h1, endOf]
    · have n73 : ¬ ((s[at_].toNat : Int) = 73) := fun e => h1 (h73.mp e)
      simp only [n73, decide_false, cond_false]
      by_cases h2 : s[at_] = 76
      · have e76 : (s[at_].toNat : Int) = 76 := h76.mpr h2
        simp only [e76, decide_true, Bool.not_true, cond_false]
        have := c95_6 s hs at_ [] (at_ + 1) (by omega) (by omega)
        simp only [Int.natCast_add, Int.natCast_one] at this
        rw [this]
        have e0 : (s.take (at_ + 1)).drop (at_ + 1) = [] := by simp
        simp only [Option.bind_some, readT_int, takeType, h2, if_true, show ¬ (76 : UInt8) = 73 by decide, if_false, e0, List.nil_append]
        cases hc : cutAt 59 (s.drop (at_ + 1)) with
        | none => rfl
        | some q =>
          obtain ⟨a, r⟩ := q
          simp only
          split
          · simp only [endOf, List.length_cons, List.length_append, List.length_nil]
            congr 2; omega
          · rfl
      · have n76 : ¬ ((s[at_].toNat : Int) = 76) := fun e => h2 (h76.mp e)
        simp [n76, takeType, h1, h2, endOf]
theorem semi_name {a b : List UInt8} : nameOk (a ++ 59 :: b) = false := by
  have : isAl 59 = false := by decide
  simp [nameOk, this]
theorem takeType_full (s : List UInt8) : decide (endOf 0 (takeType s) = (s.length : Int)) = typeOk s := by
  cases s with
  | nil => simp [takeType, endOf, typeOk, clsName]
  | cons b r =>
    by_cases h1 : b = 73
    · subst h1
      simp only [takeType, if_true, endOf, typeOk, clsName, show ¬ (73 : UInt8) = 76 by decide, false_and, if_false, Option.isSome_none, Bool.false_or]
      cases r <;> simp <;> omega
    · by_cases h2 : b = 76
      · subst h2
        simp only [takeType, show ¬ (76 : UInt8) = 73 by decide, if_false, if_true, typeOk, clsName, true_and, List.cons.injEq, false_and, decide_false, Bool.or_false]
        cases hc : cutAt 59 r with
        | none =>
          have hn := cutAt_none hc
          have : ¬ r.getLast? = some 59 := fun e => hn (List.mem_of_getLast? e)
          have hx : ¬ endOf 0 none = (((76 : UInt8) :: r).length : Int) := by simp only [endOf, List.length_cons]; omega
          simp only [this, false_and, if_false, Option.isSome_none, hx, decide_false]
        | some q =>
          obtain ⟨a, t⟩ := q
          have e := (cutAt_eq hc).1
          simp only
          cases t with
          | nil =>
            have e1 : r.getLast? = some 59 := by rw [e]; simp
            have e2 : r.dropLast = a := by rw [e]; simp
            have e3 : r.length = a.length + 1 := by rw [e]; simp
            simp only [e1, e2, true_and, List.length_cons, e3]
            by_cases hn : nameOk a = true
            · simp [hn, endOf]
            · simp [hn, endOf]; omega
          | cons c t =>
            have e2 : r.dropLast = a ++ 59 :: (c :: t).dropLast := by rw [e]; simp [List.dropLast_append_of_ne_nil]
            have e3 : r.length = a.length + t.length + 2 := by rw [e]; simp; omega
            simp only [e2, semi_name, Bool.false_eq_true, and_false, if_false, Option.isSome_none, List.length_cons, e3]
            split
            · have hx : ¬ endOf 0 (some (76 :: (a ++ [59]), c :: t)) = ((a.length + t.length + 2 + 1 : Nat) : Int) := by simp only [endOf, List.length_cons, List.length_append, List.length_nil]; omega
              simp only [hx, decide_false]
            · have hx : ¬ endOf 0 none = ((a.length + t.length + 2 + 1 : Nat) : Int) := by simp only [endOf]; omega
              simp only [hx, decide_false]
      · simp [takeType, h1, h2, endOf, typeOk, clsName]; omega
theorem c59 (s : List UInt8) (hs : s.length ≤ 140737488351232) : run E (exec E) false 59 [.str s] = some (.bool (typeOk s)) := by
  rw [run_ent, e59]
  have h := c95 s hs 0 (by omega)
  simp only [Int.natCast_zero, List.drop_zero] at h
  cases s with
  | nil => simp [typeOk, clsName]
  | cons b r =>
    simp only [lnS_str, Option.bind_some, bI_gtr, asB_bool, show (0 : Int) < ((b :: r).length : Int) by simp <;> omega, decide_true, cond_true, call_pure, optAll_cons, optAll_nil, readT_str, readT_int, h, bI_eql, takeType_full, ret_one, readT_bool]
theorem c17 (s : List UInt8) (hs : s.length ≤ 140737488351232) : run E (exec E) false 17 [.str s] = some (.bool (typeOk s)) := by
  rw [run_ent, e17]
  simp [call_pure, c59 s hs]

end Go.Ev.Ytohkcloiokhglaa
