/- Contracts. -/
import Derived.Test.YtmljkoieihaomaaC2S0
namespace Go.Ev.Ytmljkoieihaomaa
set_option linter.unusedVariables false
set_option linter.unusedSimpArgs false
open Go.Ev
/-! Names and types. -/
def isLet (b : UInt8) : Bool := (decide ((97 : Int) ≤ b.toNat) && decide ((b.toNat : Int) ≤ 122)) || (decide ((65 : Int) ≤ b.toNat) && decide ((b.toNat : Int) ≤ 90))
def isDig (b : UInt8) : Bool := decide ((48 : Int) ≤ b.toNat) && decide ((b.toNat : Int) ≤ 57)
def isAl (b : UInt8) : Bool := isLet b || isDig b
def fstDig : List UInt8 → Bool
  | [] => false
  | a :: _ => isDig a
def nameOk (s : List UInt8) : Bool := inR s.length 1 8 && s.all isAl && !(fstDig s)
theorem let_dig (b : UInt8) (h : isLet b = true) : isDig b = false := by
  cases hd : isDig b with
  | false => rfl
  | true => simp [isLet, isDig] at h hd; omega
theorem all_step (p : UInt8 → Bool) (s : List UInt8) {i : Nat} (hi : i < s.length) : (s.drop i).all p = (p s[i] && (s.drop (i + 1)).all p) := by
  rw [List.drop_eq_getElem_cons hi]; rfl
def cutAt (c : UInt8) : List UInt8 → Option (List UInt8 × List UInt8)
  | [] => none
  | b :: l => if b = c then some ([], l) else (cutAt c l).map fun q => (b :: q.1, q.2)
theorem cutAt_eq {c : UInt8} : ∀ {s a r : List UInt8}, cutAt c s = some (a, r) → s = a ++ c :: r ∧ c ∉ a
  | [], a, r, h => by simp [cutAt] at h
  | b :: l, a, r, h => by
    rw [cutAt] at h
    split at h
    · rename_i hb; cases h; subst hb; simp
    · rename_i hb
      obtain ⟨⟨a', r'⟩, h', e⟩ := Option.map_eq_some_iff.mp h
      cases e
      obtain ⟨e1, e2⟩ := cutAt_eq h'
      exact ⟨by rw [e1]; rfl, by simp [e2]; exact fun e => hb e.symm⟩
theorem cutAt_none {c : UInt8} : ∀ {s : List UInt8}, cutAt c s = none → c ∉ s
  | [], h => by simp
  | b :: l, h => by
    rw [cutAt] at h
    split at h
    · cases h
    · rename_i hb
      have := cutAt_none (Option.map_eq_none_iff.mp h)
      simp [this]; exact fun e => hb e.symm
theorem cutAt_of {c : UInt8} : ∀ {a : List UInt8} (r : List UInt8), c ∉ a → cutAt c (a ++ c :: r) = some (a, r)
  | [], r, _ => by simp [cutAt]
  | b :: a, r, h => by
    have h1 : ¬ b = c := fun e => h (by simp [e])
    have h2 : c ∉ a := fun e => h (by simp [e])
    simp [cutAt, h1, cutAt_of r h2]
theorem cutAt_not {c : UInt8} {s : List UInt8} (h : c ∉ s) : cutAt c s = none := by
  cases hc : cutAt c s with
  | none => rfl
  | some q => obtain ⟨a, r⟩ := q; have := (cutAt_eq hc).1; rw [this] at h; simp at h
theorem indexByte_cut (c : UInt8) : ∀ s : List UInt8, Go.Lib.indexByte s c = match cutAt c s with | some (a, _) => (a.length : Int) | none => -1
  | [] => rfl
  | b :: l => by
    have ih := indexByte_cut c l
    rw [Go.Lib.indexByte, cutAt, ih]
    by_cases h : b = c
    · simp [h]
    · cases hc : cutAt c l with
      | none => simp [h]
      | some q => obtain ⟨a, r⟩ := q; simp [h] <;> omega
theorem slS_to {s : List UInt8} {n : Int} (h0 : 0 ≤ n) (h1 : n ≤ s.length) : slS (.str s) none (some (.int .i64 n)) none = some (.str (s.take n.toNat)) := by
  simp [slS, bound, sliceStr, h0, h1]
theorem slS_from {s : List UInt8} {n : Int} (h0 : 0 ≤ n) (h1 : n ≤ s.length) : slS (.str s) (some (.int .i64 n)) none none = some (.str (s.drop n.toNat)) := by
  simp [slS, bound, sliceStr, h0, h1]
def ib (c : UInt8) (s : List UInt8) : Int := Go.Lib.indexByte s c
def cutRes (c : UInt8) (s : List UInt8) : D := match cutAt c s with | some (a, r) => .tup [.str a, .str r, .bool true] | none => .tup [.str s, .str [], .bool false]
def cutPre (c : UInt8) : List UInt8 → D
  | [] => .tup [.str [], .bool false]
  | b :: r => if b = c then .tup [.str r, .bool true] else .tup [.str (b :: r), .bool false]
def cutSuf (c : UInt8) (s : List UInt8) : D := if s.getLast? = some c then .tup [.str s.dropLast, .bool true] else .tup [.str s, .bool false]
def clsName : List UInt8 → Option (List UInt8)
  | [] => none
  | b :: r => if b = 76 ∧ r.getLast? = some 59 ∧ nameOk r.dropLast = true then some r.dropLast else none
def typeOk (s : List UInt8) : Bool := (clsName s).isSome || decide (s = [73])
def takeType : List UInt8 → Option (List UInt8 × List UInt8)
  | [] => none
  | b :: r => if b = 73 then some ([73], r) else if b = 76 then match cutAt 59 r with | some (n, rest) => if nameOk n = true then some (76 :: (n ++ [59]), rest) else none | none => none else none
theorem takeType_eq {s t r : List UInt8} (h : takeType s = some (t, r)) : s = t ++ r ∧ 0 < t.length := by
  cases s with
  | nil => cases h
  | cons b l =>
    simp only [takeType] at h
    split at h
    · rename_i hb; cases h; subst hb; simp
    · split at h
      · rename_i hb
        subst hb
        split at h
        · rename_i n rest hc
          split at h
          · cases h
            have := (cutAt_eq hc).1
            rw [this]; simp
          · cases h
        · cases h
      · cases h
def endOf (at_ : Nat) : Option (List UInt8 × List UInt8) → Int
  | some (t, _) => ((at_ + t.length : Nat) : Int)
  | none => -1
theorem take_snoc {s : List UInt8} {k i : Nat} (hk : k ≤ i) (hi : i < s.length) : (s.take (i + 1)).drop k = (s.take i).drop k ++ [s[i]] := by
  rw [List.take_add_one, List.getElem?_eq_getElem hi, List.drop_append_of_le_length (by simp; omega)]; rfl
theorem byte_int (b : UInt8) (n : Nat) (hn : n < 256) : ((b.toNat : Int) = (n : Int)) ↔ b = UInt8.ofNat n := by
  constructor
  · intro h
    have h : b.toNat = n := by exact_mod_cast h
    rw [← h]; simp
  · intro h; rw [h]; simp; omega
theorem semi_name {a b : List UInt8} : nameOk (a ++ 59 :: b) = false := by
  have : isAl 59 = false := by decide
  simp [nameOk, this]
theorem takeType_full (s : List UInt8) : decide (endOf 0 (takeType s) = (s.length : Int)) = typeOk s := by
  cases s with
  | nil => simp [takeType, endOf, typeOk, clsName]
  | cons b r =>
    by_cases h1 : b = 73
    · subst h1
      simp only [takeType, if_true, endOf, typeOk, clsName, show ¬ (73 : UInt8) = 76 by decide, false_and, if_false, Option.isSome_none, Bool.false_or]
      cases r <;> simp <;> omega
    · by_cases h2 : b = 76
      · subst h2
        simp only [takeType, show ¬ (76 : UInt8) = 73 by decide, if_false, if_true, typeOk, clsName, true_and, List.cons.injEq, false_and, decide_false, Bool.or_false]
        cases hc : cutAt 59 r with
        | none =>
          have hn := cutAt_none hc
          have : ¬ r.getLast? = some 59 := fun e => hn (List.mem_of_getLast? e)
          have hx : ¬ endOf 0 none = (((76 : UInt8) :: r).length : Int) := by simp only [endOf, List.length_cons]; omega
          simp only [this, false_and, if_false, Option.isSome_none, hx, decide_false]
        | some q =>
          obtain ⟨a, t⟩ := q
          have e := (cutAt_eq hc).1
          simp only
          cases t with
          | nil =>
            have e1 : r.getLast? = some 59 := by rw [e]; simp
            have e2 : r.dropLast = a := by rw [e]; simp
            have e3 : r.length = a.length + 1 := by rw [e]; simp
            simp only [e1, e2, true_and, List.length_cons, e3]
            by_cases hn : nameOk a = true
            · simp [hn, endOf]
            · simp [hn, endOf]; omega
          | cons c t =>
            have e2 : r.dropLast = a ++ 59 :: (c :: t).dropLast := by rw [e]; simp [List.dropLast_append_of_ne_nil]
            have e3 : r.length = a.length + t.length + 2 := by rw [e]; simp; omega
            simp only [e2, semi_name, Bool.false_eq_true, and_false, if_false, Option.isSome_none, List.length_cons, e3]
            split
            · have hx : ¬ endOf 0 (some (76 :: (a ++ [59]), c :: t)) = ((a.length + t.length + 2 + 1 : Nat) : Int) := by simp only [endOf, List.length_cons, List.length_append, List.length_nil]; omega
              simp only [hx, decide_false]
            · have hx : ¬ endOf 0 none = ((a.length + t.length + 2 + 1 : Nat) : Int) := by simp only [endOf]; omega
              simp only [hx, decide_false]
      · simp [takeType, h1, h2, endOf, typeOk, clsName]; omega
end Go.Ev.Ytmljkoieihaomaa
