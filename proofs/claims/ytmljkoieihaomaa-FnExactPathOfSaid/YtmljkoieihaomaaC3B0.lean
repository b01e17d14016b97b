/- Contracts. -/
import Derived.Test.YtmljkoieihaomaaC2S0
namespace Go.Ev.Ytmljkoieihaomaa
set_option linter.unusedVariables false
set_option linter.unusedSimpArgs false
open Go.Ev
/-! Names and types. -/
def isLet (b : UInt8) : Bool := (decide ((97 : Int) ≤ b.toNat) && decide ((b.toNat : Int) ≤ 122)) || (decide ((65 : Int) ≤ b.toNat) && decide ((b.toNat : Int) ≤ 90))
def isDig (b : UInt8) : Bool := decide ((48 : Int) ≤ b.toNat) && decide ((b.toNat : Int) ≤ 57)
def isAl (b : UInt8) : Bool := isLet b || isDig b
def fstDig : List UInt8 → Bool
  | [] => false
  | a :: _ => isDig a
def nameOk (s : List UInt8) : Bool := inR s.length 1 8 && s.all isAl && !(fstDig s)
theorem let_dig (b : UInt8) (h : isLet b = true) : isDig b = false := by
  cases hd : isDig b with
  | false => rfl
  | true => simp [isLet, isDig] at h hd; omega
theorem c115 (b : UInt8) : run E (exec E) false 115 [.int .u8 b.toNat] = some (.bool (isLet b)) := by
  rw [run_ent, e115]
  simp only [bI_geq, bI_leq, Option.bind_some, asB_bool, isLet]
  by_cases h1 : (97 : Int) ≤ b.toNat <;> by_cases h2 : (b.toNat : Int) ≤ 122 <;> by_cases h3 : (65 : Int) ≤ b.toNat <;> by_cases h4 : (b.toNat : Int) ≤ 90 <;> simp [h1, h2, h3, h4]
theorem all_step (p : UInt8 → Bool) (s : List UInt8) {i : Nat} (hi : i < s.length) : (s.drop i).all p = (p s[i] && (s.drop (i + 1)).all p) := by
  rw [List.drop_eq_getElem_cons hi]; rfl
theorem c67_2 (s : List UInt8) (hs : s.length ≤ 140737488351232) (H : Heap) : ∀ i, i ≤ s.length → J E 67 2 [.str s, .int .i64 i] H = some (.bool (inR s.length 1 8 && (s.drop i).all isAl && !(decide (i = 0) && fstDig s)), H) := by
  refine loop_up (P := fun i => _) ?_ fun i hi ih => ?_
  · rw [j67_2]
    simp [call_pure, c66]
    cases hr : inR s.length 1 8 with
    | false => simp
    | true =>
      have : ¬ s.length = 0 := by simp [inR] at hr; omega
      have hne : ¬ s = [] := by rintro rfl; simp at this
      simp [hne]
  · rw [j67_2]
    have hlt : ((i : Nat) : Int) < (s.length : Int) := by omega
    simp only [lnS_str, bI_lss, hlt, decide_true, cond_true, asB_bool, Option.bind_some, ix_nat, List.getElem?_eq_getElem hi, Option.map_some, call_pure, optAll_cons, optAll_nil, readT_int, c115, unOp_not, bI_eql, bI_gtr, bI_add]
    rw [wrap_i64 (n := (i : Int) + 1) (by omega) (by omega)]
    rw [show (i : Int) + 1 = ((i + 1 : Nat) : Int) from rfl, ih, all_step isAl s hi]
    have hn : ¬ i + 1 = 0 := by omega
    have hz : ((i : Int) = 0) ↔ i = 0 := by omega
    cases hl : isLet s[i] with
    | true =>
      have := let_dig _ hl
      by_cases h0 : i = 0
      · subst h0
        have hh : fstDig s = isDig s[0] := by cases s with | nil => simp at hi | cons a t => rfl
        by_cases h1 : (s[0].toNat : Int) < 48 <;> simp [isAl, hl, this, hh, h1]
      · by_cases h1 : (s[i].toNat : Int) < 48 <;> simp [isAl, hl, hn, h0, h1]
    | false =>
      by_cases h0 : i = 0
      · subst h0
        have hh : fstDig s = isDig s[0] := by cases s with | nil => simp at hi | cons a t => rfl
        simp only [Bool.not_false, cond_true, Int.natCast_zero, decide_true, ret_one, isAl, hl, Bool.false_or, hh]
        cases isDig s[0] <;> simp
      · have hd : isDig s[i] = (!decide ((s[i].toNat : Int) < 48) && !decide ((57 : Int) < s[i].toNat)) := by
          simp only [isDig]
          by_cases h1 : (48 : Int) ≤ s[i].toNat <;> by_cases h2 : (s[i].toNat : Int) ≤ 57 <;> simp [h1, h2] <;> omega
        have hi0 : ¬ ((i : Int) = 0) := by omega
        simp only [Bool.not_false, cond_true, hi0, decide_false, cond_false, isAl, hl, Bool.false_or, hd, h0, hn, Bool.false_and, Bool.not_false, Bool.and_true]
        by_cases h1 : (s[i].toNat : Int) < 48 <;> by_cases h2 : (57 : Int) < s[i].toNat <;> simp [h1, h2]
theorem c67 (s : List UInt8) (hs : s.length ≤ 140737488351232) : run E (exec E) false 67 [.str s] = some (.bool (nameOk s)) := by
  rw [run_ent, e67]
  have := c67_2 s hs [] 0 (by omega)
  simp only [Int.natCast_zero] at this
  rw [this]; simp [nameOk]
theorem c76_4 (s : List UInt8) (hs : s.length ≤ 140737488351232) (H : Heap) : ∀ i, i ≤ s.length → J E 76 4 [.str s, .int .i64 s.length, .int .i64 i] H = some (.bool ((s.drop i).all isAl), H) := by
  refine loop_up (P := fun i => _) ?_ fun i hi ih => ?_
  · rw [j76_4]; simp
  · rw [j76_4]
    have hlt : ((i : Nat) : Int) < (s.length : Int) := by omega
    simp only [bI_lss, hlt, decide_true, cond_true, asB_bool, Option.bind_some, ix_nat, List.getElem?_eq_getElem hi, Option.map_some, bI_geq, bI_leq, unOp_not, bI_add, Bool.not_true, Bool.not_false, cond_false]
    rw [wrap_i64 (n := (i : Int) + 1) (by omega) (by omega)]
    rw [show (i : Int) + 1 = ((i + 1 : Nat) : Int) from rfl, ih, all_step isAl s hi]
    simp only [isAl, isLet, isDig]
    by_cases h1 : (97 : Int) ≤ s[i].toNat <;> by_cases h2 : (s[i].toNat : Int) ≤ 122 <;> by_cases h3 : (65 : Int) ≤ s[i].toNat <;> by_cases h4 : (s[i].toNat : Int) ≤ 90 <;> by_cases h5 : (48 : Int) ≤ s[i].toNat <;> by_cases h6 : (s[i].toNat : Int) ≤ 57 <;> simp [h1, h2, h3, h4, h5, h6]
theorem c76 (s : List UInt8) (hs : s.length ≤ 140737488351232) : run E (exec E) false 76 [.str s] = some (.bool (nameOk s)) := by
  rw [run_ent, e76]
  simp only [lnS_str, Option.bind_some, call_pure, optAll_cons, optAll_nil, readT_int, c118, unOp_not, asB_bool]
  cases hr : inR s.length 1 8 with
  | false => simp [nameOk, hr]
  | true =>
    have hl : 0 < s.length := by simp [inR] at hr; omega
    have := c76_4 s hs [] 0 (by omega)
    simp only [Int.natCast_zero, List.drop_zero] at this
    obtain ⟨a, t, rfl⟩ : ∃ a t, s = a :: t := by cases s with | nil => simp at hl | cons a t => exact ⟨a, t, rfl⟩
    have hx : ix (.str (a :: t)) (.int .i64 0) = some (.int .u8 a.toNat) := rfl
    simp only [Bool.not_true, cond_false, hx, Option.bind_some, bI_geq, bI_leq, asB_bool, this, nameOk, hr, fstDig, isDig]
    by_cases h5 : (48 : Int) ≤ a.toNat <;> by_cases h6 : (a.toNat : Int) ≤ 57 <;> simp [h5, h6]
/-! Texts that are cut. -/
def cutAt (c : UInt8) : List UInt8 → Option (List UInt8 × List UInt8)
  | [] => none
  | b :: l => if b = c then some ([], l) else (cutAt c l).map fun q => (b :: q.1, q.2)
theorem cutAt_eq {c : UInt8} : ∀ {s a r : List UInt8}, cutAt c s = some (a, r) → s = a ++ c :: r ∧ c ∉ a
  | [], a, r, h => by simp [cutAt] at h
  | b :: l, a, r, h => by
    rw [cutAt] at h
    split at h
    · rename_i hb; cases h; subst hb; simp
    · rename_i hb
      obtain ⟨⟨a', r'⟩, h', e⟩ := Option.map_eq_some_iff.mp h
      cases e
      obtain ⟨e1, e2⟩ := cutAt_eq h'
      exact ⟨by rw [e1]; rfl, by simp [e2]; exact fun e => hb e.symm⟩
theorem cutAt_none {c : UInt8} : ∀ {s : List UInt8}, cutAt c s = none → c ∉ s
  | [], h => by simp
  | b :: l, h => by
    rw [cutAt] at h
    split at h
    · cases h
    · rename_i hb
      have := cutAt_none (Option.map_eq_none_iff.mp h)
      simp [this]; exact fun e => hb e.symm
theorem cutAt_of {c : UInt8} : ∀ {a : List UInt8} (r : List UInt8), c ∉ a → cutAt c (a ++ c :: r) = some (a, r)
  | [], r, _ => by simp [cutAt]
  | b :: a, r, h => by
    have h1 : ¬ b = c := fun e => h (by simp [e])
    have h2 : c ∉ a := fun e => h (by simp [e])
    simp [cutAt, h1, cutAt_of r h2]
theorem cutAt_not {c : UInt8} {s : List UInt8} (h : c ∉ s) : cutAt c s = none := by
  cases hc : cutAt c s with
  | none => rfl
  | some q => obtain ⟨a, r⟩ := q; have := (cutAt_eq hc).1; rw [this] at h; simp at h
theorem indexByte_cut (c : UInt8) : ∀ s : List UInt8, Go.Lib.indexByte s c = match cutAt c s with | some (a, _) => (a.length : Int) | none => -1
  | [] => rfl
  | b :: l => by
    have ih := indexByte_cut c l
    rw [Go.Lib.indexByte, cutAt, ih]
    by_cases h : b = c
    · simp [h]
    · cases hc : cutAt c l with
      | none => simp [h]
      | some q => obtain ⟨a, r⟩ := q; simp [h] <;> omega
theorem slS_to {s : List UInt8} {n : Int} (h0 : 0 ≤ n) (h1 : n ≤ s.length) : slS (.str s) none (some (.int .i64 n)) none = some (.str (s.take n.toNat)) := by
  simp [slS, bound, sliceStr, h0, h1]
theorem slS_from {s : List UInt8} {n : Int} (h0 : 0 ≤ n) (h1 : n ≤ s.length) : slS (.str s) (some (.int .i64 n)) none none = some (.str (s.drop n.toNat)) := by
  simp [slS, bound, sliceStr, h0, h1]
def ib (c : UInt8) (s : List UInt8) : Int := Go.Lib.indexByte s c
def cutRes (c : UInt8) (s : List UInt8) : D := match cutAt c s with | some (a, r) => .tup [.str a, .str r, .bool true] | none => .tup [.str s, .str [], .bool false]
def cutPre (c : UInt8) : List UInt8 → D
  | [] => .tup [.str [], .bool false]
  | b :: r => if b = c then .tup [.str r, .bool true] else .tup [.str (b :: r), .bool false]
def cutSuf (c : UInt8) (s : List UInt8) : D := if s.getLast? = some c then .tup [.str s.dropLast, .bool true] else .tup [.str s, .bool false]
def clsName : List UInt8 → Option (List UInt8)
  | [] => none
  | b :: r => if b = 76 ∧ r.getLast? = some 59 ∧ nameOk r.dropLast = true then some r.dropLast else none
def typeOk (s : List UInt8) : Bool := (clsName s).isSome || decide (s = [73])
def takeType : List UInt8 → Option (List UInt8 × List UInt8)
  | [] => none
  | b :: r => if b = 73 then some ([73], r) else if b = 76 then match cutAt 59 r with | some (n, rest) => if nameOk n = true then some (76 :: (n ++ [59]), rest) else none | none => none else none
theorem takeType_eq {s t r : List UInt8} (h : takeType s = some (t, r)) : s = t ++ r ∧ 0 < t.length := by
  cases s with
  | nil => cases h
  | cons b l =>
    simp only [takeType] at h
    split at h
    · rename_i hb; cases h; subst hb; simp
    · split at h
      · rename_i hb
        subst hb
        split at h
        · rename_i n rest hc
          split at h
          · cases h
            have := (cutAt_eq hc).1
            rw [this]; simp
          · cases h
        · cases h
      · cases h
def endOf (at_ : Nat) : Option (List UInt8 × List UInt8) → Int
  | some (t, _) => ((at_ + t.length : Nat) : Int)
  | none => -1
theorem take_snoc {s : List UInt8} {k i : Nat} (hk : k ≤ i) (hi : i < s.length) : (s.take (i + 1)).drop k = (s.take i).drop k ++ [s[i]] := by
  rw [List.take_add_one, List.getElem?_eq_getElem hi, List.drop_append_of_le_length (by simp; omega)]; rfl
theorem byte_int (b : UInt8) (n : Nat) (hn : n < 256) : ((b.toNat : Int) = (n : Int)) ↔ b = UInt8.ofNat n := by
  constructor
  · intro h
    have h : b.toNat = n := by exact_mod_cast h
    rw [← h]; simp
  · intro h; rw [h]; simp; omega
theorem semi_name {a b : List UInt8} : nameOk (a ++ 59 :: b) = false := by
  have : isAl 59 = false := by decide
  simp [nameOk, this]
theorem takeType_full (s : List UInt8) : decide (endOf 0 (takeType s) = (s.length : Int)) = typeOk s := by
  cases s with
  | nil => simp [takeType, endOf, typeOk, clsName]
  | cons b r =>
    by_cases h1 : b = 73
    · subst h1
      simp only [takeType, if_true, endOf, typeOk, clsName, show ¬ (73 : UInt8) = 76 by decide, false_and, if_false, Option.isSome_none, Bool.false_or]
      cases r <;> simp <;> omega
    · by_cases h2 : b = 76
      · subst h2
        simp only [takeType, show ¬ (76 : UInt8) = 73 by decide, if_false, if_true, typeOk, clsName, true_and, List.cons.injEq, false_and, decide_false, Bool.or_false]
        cases hc : cutAt 59 r with
        | none =>
          have hn := cutAt_none hc
          have : ¬ r.getLast? = some 59 := fun e => hn (List.mem_of_getLast? e)
          have hx : ¬ endOf 0 none = (((76 : UInt8) :: r).length : Int) := by simp only [endOf, List.length_cons]; omega
          simp only [this, false_and, if_false, Option.isSome_none, hx, decide_false]
        | some q =>
          obtain ⟨a, t⟩ := q
          have e := (cutAt_eq hc).1
          simp only
          cases t with
          | nil =>
            have e1 : r.getLast? = some 59 := by rw [e]; simp
            have e2 : r.dropLast = a := by rw [e]; simp
            have e3 : r.length = a.length + 1 := by rw [e]; simp
            simp only [e1, e2, true_and, List.length_cons, e3]
            by_cases hn : nameOk a = true
            · simp [hn, endOf]
            · simp [hn, endOf]; omega
          | cons c t =>
            have e2 : r.dropLast = a ++ 59 :: (c :: t).dropLast := by rw [e]; simp [List.dropLast_append_of_ne_nil]
            have e3 : r.length = a.length + t.length + 2 := by rw [e]; simp; omega
            simp only [e2, semi_name, Bool.false_eq_true, and_false, if_false, Option.isSome_none, List.length_cons, e3]
            split
            · have hx : ¬ endOf 0 (some (76 :: (a ++ [59]), c :: t)) = ((a.length + t.length + 2 + 1 : Nat) : Int) := by simp only [endOf, List.length_cons, List.length_append, List.length_nil]; omega
              simp only [hx, decide_false]
            · have hx : ¬ endOf 0 none = ((a.length + t.length + 2 + 1 : Nat) : Int) := by simp only [endOf]; omega
              simp only [hx, decide_false]
      · simp [takeType, h1, h2, endOf, typeOk, clsName]; omega
end Go.Ev.Ytmljkoieihaomaa
