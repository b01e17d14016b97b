/- Contracts. -/
import Derived.Test.YtohkcloiokhglaaC1A4
namespace Go.Ev.Ytohkcloiokhglaa
set_option linter.unusedVariables false
set_option linter.unusedSimpArgs false
open Go.Ev
def inR (n lo hi : Int) : Bool := decide (lo ≤ n) && decide (n ≤ hi)
theorem c66 (n lo hi : Int) : run E (exec E) false 66 [.int .i64 n, .int .i64 lo, .int .i64 hi] = some (.bool (inR n lo hi)) := by
  rw [run_ent, e66]
  simp [inR]
  by_cases h : lo ≤ n <;> simp [h]
theorem c58 (n lo hi : Int) : run E (exec E) false 58 [.int .i64 n, .int .i64 lo, .int .i64 hi] = some (.bool (inR n lo hi)) := by
  rw [run_ent, e58]
  simp [inR]
  by_cases h : lo ≤ n <;> simp [h]
def opArgs (op : Int) : Int := if op = 1 then 2 else if inR op 3 6 then 1 else if inR op 14 29 then 2 else if inR op 0 34 then 0 else -1
theorem c62 (op : Int) : run E (exec E) false 62 [.int .i64 op] = some (.int .i64 (opArgs op)) := by
  rw [run_ent, e62]
  simp [call_pure, c58, opArgs]
  by_cases h1 : op = 1
  · subst h1; simp [inR]
  · cases h2 : inR op 3 6 <;> cases h3 : inR op 14 29 <;> cases h4 : inR op 0 34 <;> simp [h1]
theorem c97 (op : Int) : run E (exec E) false 97 [.int .i64 op] = some (.int .i64 (opArgs op)) := by
  rw [run_ent, e97]
  simp [call_pure, c66, opArgs, j97_8, j97_9]
  by_cases h1 : op = 1
  · subst h1; simp [inR]
  · by_cases h2 : op = 3
    · subst h2; simp [inR]
    · by_cases h3 : op = 4
      · subst h3; simp [inR]
      · by_cases h4 : op = 5
        · subst h4; simp [inR]
        · by_cases h5 : op = 6
          · subst h5; simp [inR]
          · have : inR op 3 6 = false := by simp [inR]; omega
            have h29 : inR op 14 29 = (inR op 14 18 || inR op 19 29) := by 
              simp only [inR]
              by_cases a1 : 14 ≤ op <;> by_cases a2 : op ≤ 29 <;> by_cases a3 : op ≤ 18 <;> by_cases a4 : 19 ≤ op <;> simp [a1, a2, a3, a4] <;> omega
            simp [h1, h2, h3, h4, h5, this, h29]
            cases inR op 14 18 <;> cases inR op 19 29 <;> cases inR op 0 34 <;> simp

def numBytes (s : List UInt8) : Int := s.foldl (fun n b => 256 * n + b.toNat) 0
def numFix (op n : Int) : Int := if op = 1 ∧ 32767 < n then n - 65536 else n
theorem opArgs_le (op : Int) : opArgs op ≤ 2 := by
  unfold opArgs; split
  · omega
  · split
    · omega
    · split
      · omega
      · split <;> omega
theorem opArgs_ge (op : Int) : -1 ≤ opArgs op := by
  unfold opArgs; split
  · omega
  · split
    · omega
    · split
      · omega
      · split <;> omega
def opsGo (at_ : Nat) : List UInt8 → Option (List SIns)
  | [] => some []
  | b :: rest =>
    let n := opArgs b.toNat
    if n < 0 ∨ (rest.length : Int) < n then none
    else (opsGo (at_ + 1 + n.toNat) (rest.drop n.toNat)).map (⟨at_, b.toNat, numFix b.toNat (numBytes (rest.take n.toNat))⟩ :: ·)
  termination_by s => s.length
  decreasing_by simp; omega
theorem c98 (s : List UInt8) (op : Int) (h : s.length ≤ 2) : run E (exec E) false 98 [.str s, .int .i64 op] = some (.int .i64 (numFix op (numBytes s))) := by
  rw [run_ent, e98]
  match s, h with
  | [], _ => simp [numFix, numBytes]
  | [a], _ =>
    have ha := a.toNat_lt
    simp [ix, numFix, numBytes, j98_6, wrap_i64, (show ¬ (32767 : Int) < a.toNat by omega), (show ¬ (32768 : Int) ≤ a.toNat by omega), (show (a.toNat : Int) ≤ 9223372036854775807 by omega), (show -9223372036854775808 ≤ (a.toNat : Int) by omega)]
  | [a, b], _ =>
    have ha := a.toNat_lt
    have hb := b.toNat_lt
    simp [ix, numFix, numBytes, j98_6]
    rw [wrap_i64 (n := a.toNat) (by omega) (by omega), wrap_i64 (n := b.toNat) (by omega) (by omega), wrap_i64 (n := a.toNat * 256) (by omega) (by omega), wrap_i64 (n := a.toNat * 256 + b.toNat) (by omega) (by omega)]
    have e : (a.toNat : Int) * 256 + b.toNat = 256 * a.toNat + b.toNat := by omega
    rw [e]
    by_cases h1 : op = 1
    · by_cases h2 : (32767 : Int) < 256 * a.toNat + b.toNat
      · simp [h1, h2, (show (32768 : Int) ≤ 256 * a.toNat + b.toNat by omega)]
        rw [wrap_i64 (by omega) (by omega)]
      · simp [h1, h2, (show ¬ (32768 : Int) ≤ 256 * a.toNat + b.toNat by omega)]
    · simp [h1]
theorem slS_mid {s : List UInt8} {a b : Int} (h0 : 0 ≤ a) (h1 : a ≤ b) (h2 : b ≤ s.length) : slS (.str s) (some (.int .i64 a)) (some (.int .i64 b)) none = some (.str ((s.take b.toNat).drop a.toNat)) := by
  simp [slS, bound, sliceStr, h0, h1, h2]
def opsRes : Option (List SIns) → D
  | some l => .tup [.list (l.map SIns.row), .bool (decide (0 < l.length))]
  | none => .tup [.list [], .bool false]
theorem c61_3 (s : List UInt8) (hs : s.length ≤ 1000000) : ∀ (k at_ : Nat) (acc : List SIns) (d : D) (H : Heap), s.length - at_ ≤ k → at_ ≤ s.length → acc.length ≤ at_ → Acc 3 H d (acc.map SIns.row) →
    ∃ q, J E 61 3 [.str s, d, .int .i64 at_] H = some q ∧ readT true depth q.2 q.1 = some (opsRes ((opsGo at_ (s.drop at_)).map (acc ++ ·)))
  | k, at_, acc, d, H, hk, hat, hlen, hA => by
    rw [j61_3]
    by_cases hend : at_ = s.length
    · subst hend
      simp [hA.len, opsGo, opsRes, hA.read (SIns.plain acc)]
    · have hlt : at_ < s.length := by omega
      have hd : s.drop at_ = s[at_] :: s.drop (at_ + 1) := List.drop_eq_getElem_cons hlt
      have hb := s[at_].toNat_lt
      have h2 := opArgs_le s[at_].toNat
      have h3 := opArgs_ge s[at_].toNat
      have hrl : ((s.drop (at_ + 1)).length : Int) = s.length - at_ - 1 := by simp; omega
      rw [hd, opsGo]
      simp only [hrl]
      have hw1 : IntKind.wrap .i64 (at_ + 1) = at_ + 1 := wrap_i64 (by omega) (by omega)
      have hw2 : IntKind.wrap .i64 (at_ + 1 + opArgs s[at_].toNat) = at_ + 1 + opArgs s[at_].toNat := wrap_i64 (by omega) (by omega)
      have hw3 : IntKind.wrap .i64 (s[at_].toNat : Int) = s[at_].toNat := wrap_i64 (by omega) (by omega)
      simp only [lnS_str, Option.bind_some, bI_lss, asB_bool, ix_nat, List.getElem?_eq_getElem hlt, Option.map_some, cI_int, hw3, call_pure, optAll_cons, optAll_nil, readT_int, c97, bI_add, hw1, hw2, bI_gtr]
      have hlt' : (at_ : Int) < s.length := by omega
      simp only [hlt', decide_true, cond_true]
      by_cases hn : opArgs s[at_].toNat < 0
      · simp [hn, opsRes]
      · simp only [hn, decide_false, cond_false, false_or]
        by_cases hg : (s.length : Int) < at_ + 1 + opArgs s[at_].toNat
        · have : (s.length : Int) - at_ - 1 < opArgs s[at_].toNat := by omega
          simp [hg, this, opsRes]
        · have hg' : ¬ (s.length : Int) - at_ - 1 < opArgs s[at_].toNat := by omega
          simp only [hg, hg', decide_false, cond_false, if_false]
          rw [slS_mid (by omega) (by omega) (by omega)]
          have harg : ((s.take ((at_ : Int) + 1 + opArgs s[at_].toNat).toNat).drop ((at_ : Int) + 1).toNat) = (s.drop (at_ + 1)).take (opArgs s[at_].toNat).toNat := by
            rw [List.take_drop]; congr 2; omega
          rw [harg]
          simp only [Option.bind_some, readT_str, optAll_cons, optAll_nil]
          rw [c98 _ _ (by simp; omega)]
          simp only [Option.bind_some]
          generalize hx : (⟨at_, s[at_].toNat, numFix s[at_].toNat (numBytes ((s.drop (at_ + 1)).take (opArgs s[at_].toNat).toNat))⟩ : SIns) = x
          have hbld : bld [.int .i64 0, .int .i64 0, .int .i64 0] [(0, 1, false), (1, 1, false), (2, 1, false)] [(0, .int .i64 at_), (1, .int .i64 s[at_].toNat), (2, .int .i64 (numFix s[at_].toNat (numBytes ((s.drop (at_ + 1)).take (opArgs s[at_].toNat).toNat))))] = some (.agg x.row) := by subst hx; rfl
          rw [hbld]
          simp only [Option.bind_some]
          rw [bsl_one (esz := 3) (by omega) rfl rfl rfl]
          simp only [Option.bind_some]
          obtain ⟨d', H', h4, h5, h6⟩ := app_one (eb := 24) (c := x.row) hA rfl (by simp [maxLen]; omega)
          rw [show (D.agg x.row).cells = x.row from rfl, h4]
          simp only [Option.bind_some]
          have hnat : (at_ : Int) + 1 + opArgs s[at_].toNat = ((at_ + 1 + (opArgs s[at_].toNat).toNat : Nat) : Int) := by omega
          rw [hnat]
          have := c61_3 s hs (k - 1) (at_ + 1 + (opArgs s[at_].toNat).toNat) (acc ++ [x]) d' H' (by omega) (by omega) (by simp; omega) (by simpa using h5)
          obtain ⟨q, q1, q2⟩ := this
          refine ⟨q, q1, ?_⟩
          rw [q2]
          congr 2
          rw [List.drop_drop]
          cases opsGo (at_ + 1 + (opArgs s[at_].toNat).toNat) (s.drop (at_ + 1 + (opArgs s[at_].toNat).toNat)) <;> simp
  termination_by k => k
  decreasing_by omega

@[simp] theorem ix_at (s : List UInt8) (n : Int) (h0 : 0 ≤ n) (h : n < s.length) : ix (.str s) (.int .i64 n) = some (.int .u8 (s[n.toNat]'(by omega)).toNat) := ix_get h0 (by omega)
theorem c20_11 (s : List UInt8) (out : D) (at_ n : Int) (bx bb : Nat) (A O : Int) (hne : bx ≠ bb) : ∀ (k i : Nat) (l : List UInt8) (num : Int) (H : Heap), l.length - i = k → i ≤ l.length → l.length ≤ 2 → 0 ≤ num → num < 256 ^ i →
    getBlk H bx = some [[.int .i64 A, .int .i64 O, .int .i64 num]] → getBlk H bb = some (l.map fun c => [.int .u8 c.toNat]) →
    ∃ H', H'.length = H.length ∧ (∀ b, b ≠ bx → getBlk H' b = getBlk H b) ∧ getBlk H' bx = some [[.int .i64 A, .int .i64 O, .int .i64 ((l.drop i).foldl (fun n b => 256 * n + (b.toNat : Int)) num)]] ∧
      J E 20 11 [.str s, out, .int .i64 at_, .ptr bx 0 0, .int .i64 n, .sl bb 0 l.length, .int .i64 l.length, .int .i64 i] H =
      J E 20 11 [.str s, out, .int .i64 at_, .ptr bx 0 0, .int .i64 n, .sl bb 0 l.length, .int .i64 l.length, .int .i64 l.length] H'
  | 0, i, l, num, H, hk, hi, hl, h0, hn, hx, hb => by
    have : i = l.length := by omega
    subst this
    exact ⟨H, rfl, fun _ _ => rfl, by simpa using hx, rfl⟩
  | k + 1, i, l, num, H, hk, hi, hl, h0, hn, hx, hb => by
    have hlt : i < l.length := by omega
    have hc := l[i].toNat_lt
    have hnum : num ≤ 256 := by
      have : i = 0 ∨ i = 1 := by omega
      rcases this with rfl | rfl <;> simp at hn <;> omega
    obtain ⟨H', e1, e3, e4, e2⟩ := c20_11 s out at_ n bx bb A O hne k (i + 1) l (256 * num + (l[i].toNat : Int)) (H.set bx (some [[.int .i64 A, .int .i64 O, .int .i64 (256 * num + (l[i].toNat : Int))]])) (by omega) (by omega) hl (by omega) (by rw [Int.pow_succ]; omega) (getBlk_set_self (getBlk_lt' hx)) (by rw [getBlk_ne (Ne.symm hne)]; exact hb)
    refine ⟨H', by simpa using e1, fun b hb => by rw [e3 b hb, getBlk_ne hb], by rw [e4, List.drop_eq_getElem_cons hlt]; rfl, ?_⟩
    rw [← e2, j20_11]
    simp [ia, ld, st, getRow, rowLen, storeRow, part, D.cells, D.isCell, hx, hb, hlt]
    simp (disch := omega) only [wrap_i64]
theorem c20_17 (s : List UInt8) (d : D) (at_ n : Int) (bx : Nat) (x : SIns) (acc : List SIns) (H : Heap) (hA : Acc 3 H d (acc.map SIns.row)) (hx : getBlk H bx = some [x.row]) (ha : acc.length ≤ 1000) (hat : 0 ≤ at_ ∧ at_ ≤ 1000) (hn : 0 ≤ n ∧ n ≤ 1000) :
    ∃ d' H', J E 20 17 [.str s, d, .int .i64 at_, .ptr bx 0 0, .int .i64 n] H = J E 20 5 [.str s, d', .int .i64 (at_ + (1 + n))] H' ∧ Acc 3 H' d' ((acc ++ [x]).map SIns.row) := by
  obtain ⟨d', H', h4, h5, h6⟩ := app_one (eb := 24) (c := x.row) hA rfl (by simp [maxLen]; omega)
  refine ⟨d', H', ?_, by simpa using h5⟩
  rw [j20_17]
  rw [ld_ptr hx rfl, show part x.row (0, 3, true) = some (.agg x.row) from rfl]
  simp only [Option.bind_some]
  rw [bsl_one (esz := 3) (by omega) rfl rfl rfl]
  simp only [Option.bind_some, show (D.agg x.row).cells = x.row from rfl, h4, bI_add]
  simp (disch := omega) only [wrap_i64]
theorem c20_tail (s l : List UInt8) (d : D) (at_ A O : Nat) (n : Int) (bx bb : Nat) (hne : bx ≠ bb) (hl : l.length ≤ 2) (acc : List SIns) (H : Heap) (hA : Acc 3 H d (acc.map SIns.row)) (hx : getBlk H bx = some [[.int .i64 A, .int .i64 O, .int .i64 0]]) (hd : ∀ o n, d ≠ .sl bx o n)
    (hb : getBlk H bb = some (l.map fun c => [.int .u8 c.toNat])) (ha : acc.length ≤ 1000) (hat : at_ ≤ 1000) (hn : 0 ≤ n ∧ n ≤ 1000) :
    ∃ d' H', J E 20 11 [.str s, d, .int .i64 at_, .ptr bx 0 0, .int .i64 n, .sl bb 0 l.length, .int .i64 l.length, .int .i64 (0 : Nat)] H = J E 20 5 [.str s, d', .int .i64 (at_ + (1 + n))] H' ∧ Acc 3 H' d' ((acc ++ [(⟨A, O, numFix O (numBytes l)⟩ : SIns)]).map SIns.row) := by
  obtain ⟨H', e1, e3, e4, e2⟩ := c20_11 s d at_ n bx bb A O hne l.length 0 l 0 H rfl (by omega) hl (by omega) (by simp) hx hb
  have hA' : Acc 3 H' d (acc.map SIns.row) := ⟨hA.1, hA.2.imp id fun ⟨h1, b, h2, h3⟩ => ⟨h1, b, h2, by rw [e3 b fun e => hd _ _ (e ▸ h2)]; exact h3⟩⟩
  simp only [List.drop_zero] at e4
  have hnum : ([] : List UInt8).length = 0 → (l.foldl (fun n b => 256 * n + (b.toNat : Int)) 0) = numBytes l := fun _ => rfl
  rw [hnum rfl] at e4
  have hr : 0 ≤ numBytes l ∧ numBytes l ≤ 65535 := by
    match l, hl with
    | [], _ => simp [numBytes]
    | [a], _ => have := a.toNat_lt; simp [numBytes]; omega
    | [a, b], _ => have := a.toNat_lt; have := b.toNat_lt; simp [numBytes]; omega
  rw [e2, j20_11]
  simp [ia, ld, st, getRow, rowLen, storeRow, part, D.cells, D.isCell, bld, fillC, bsl, fillR, slS, slL, sliceStr, bound, cut0, srcRows, rowsFit, call_pure, call_view, nilCheck, rInt, rStr, rBool, rByte, e4]
  by_cases h1 : (O : Int) = 1
  · by_cases h2 : 32767 < numBytes l
    · have h2' : ¬ numBytes l ≤ 32767 := by omega
      simp only [h1, h2, decide_true, cond_true]
      rw [wrap_i64 (by omega) (by omega)]
      have hs : getBlk (H'.set bx (some [[D.int .i64 A, .int .i64 1, .int .i64 (numBytes l - 65536)]])) bx = some [SIns.row ⟨A, O, numFix O (numBytes l)⟩] := by
        rw [getBlk_set_self (getBlk_lt' e4)]; simp [SIns.row, numFix, h1, h2]
      have hA2 : Acc 3 (H'.set bx (some [[D.int .i64 A, .int .i64 1, .int .i64 (numBytes l - 65536)]])) d (acc.map SIns.row) := ⟨hA'.1, hA'.2.imp id fun ⟨h1, b, h2, h3⟩ => ⟨h1, b, h2, by rw [getBlk_ne fun e => hd _ _ (e ▸ h2)]; exact h3⟩⟩
      have := c20_17 s d at_ n bx ⟨A, O, numFix O (numBytes l)⟩ acc _ hA2 hs ha (by omega) hn
      rw [h1] at this
      simpa using this
    · simp only [h1, h2, decide_true, decide_false, cond_true, cond_false]
      have := c20_17 s d at_ n bx ⟨A, O, numFix O (numBytes l)⟩ acc _ hA' (by rw [e4]; simp [SIns.row, numFix, h1, h2]) ha (by omega) hn
      rw [h1] at this
      simpa using this
  · simp only [h1, decide_false, cond_false]
    have := c20_17 s d at_ n bx ⟨A, O, numFix O (numBytes l)⟩ acc _ hA' (by rw [e4]; simp [SIns.row, numFix, h1]) ha (by omega) hn
    simpa using this
theorem c20_5 (s : List UInt8) (hs : s.length ≤ 120) : ∀ (k at_ : Nat) (acc : List SIns) (d : D) (H : Heap), s.length - at_ ≤ k → at_ ≤ s.length → acc.length ≤ at_ → Acc 3 H d (acc.map SIns.row) →
    match (opsGo at_ (s.drop at_)).map (acc ++ ·) with
    | some l => ∃ d' H', J E 20 5 [.str s, d, .int .i64 at_] H = some (.tup [d', .bool true], H') ∧ Acc 3 H' d' (l.map SIns.row)
    | none => ∃ H', J E 20 5 [.str s, d, .int .i64 at_] H = some (.tup [.sl0, .bool false], H')
  | k, at_, acc, d, H, hk, hat, hlen, hA => by
    by_cases hend : at_ = s.length
    · subst hend
      rw [j20_5]
      simp only [List.drop_length, opsGo, Option.map_some, List.append_nil, lnS_str, Option.bind_some, bI_lss, asB_bool, Int.lt_irrefl, decide_false, cond_false, ret_two]
      exact ⟨d, H, rfl, hA⟩
    · have hlt : at_ < s.length := by omega
      have hd : s.drop at_ = s[at_] :: s.drop (at_ + 1) := List.drop_eq_getElem_cons hlt
      have hb := s[at_].toNat_lt
      have h2 := opArgs_le s[at_].toNat
      have h3 := opArgs_ge s[at_].toNat
      have hrl : ((s.drop (at_ + 1)).length : Int) = s.length - at_ - 1 := by simp; omega
      rw [hd, opsGo, j20_5]
      simp only [hrl]
      have hw3 : IntKind.wrap .i64 (s[at_].toNat : Int) = s[at_].toNat := wrap_i64 (by omega) (by omega)
      have hw4 : IntKind.wrap .i64 ((s.length : Int) - at_) = s.length - at_ := wrap_i64 (by omega) (by omega)
      simp [ix_nat, ia, ld, st, getRow, rowLen, storeRow, part, D.cells, D.isCell, bld, fillC, hlt, call_pure, c62, hw3, hw4]
      by_cases hn : opArgs s[at_].toNat < 0
      · simp [hn]
      · by_cases hg : (s.length : Int) - at_ ≤ opArgs s[at_].toNat
        · have : (s.length : Int) - at_ - 1 < opArgs s[at_].toNat := by omega
          simp [hn, hg, this]
        · have hg' : ¬ (s.length : Int) - at_ - 1 < opArgs s[at_].toNat := by omega
          simp only [hn, hg, hg', decide_false, cond_false, if_false, or_self]
          rw [wrap_i64 (n := (at_ : Int) + 1) (by omega) (by omega), wrap_i64 (n := (at_ : Int) + 1 + _) (by omega) (by omega), slS_mid (by omega) (by omega) (by omega)]
          have harg : ((s.take ((at_ : Int) + 1 + opArgs s[at_].toNat).toNat).drop ((at_ : Int) + 1).toNat) = (s.drop (at_ + 1)).take (opArgs s[at_].toNat).toNat := by
            rw [List.take_drop]; congr 2; omega
          rw [harg, show s.drop (at_ + 1 + (opArgs s[at_].toNat).toNat) = (s.drop (at_ + 1)).drop (opArgs s[at_].toNat).toNat by rw [List.drop_drop]]
          generalize hl : (s.drop (at_ + 1)).take (opArgs s[at_].toNat).toNat = l
          have hll : l.length = (opArgs s[at_].toNat).toNat := by rw [← hl]; simp; omega
          simp only [Option.bind_some, cSB, show l.length ≤ maxLen by (unfold maxLen; omega), if_true, lnL_sl]
          have hlen2 : (H ++ [some [[D.int .i64 at_, .int .i64 s[at_].toNat, .int .i64 0]]]).length = H.length + 1 := by simp
          obtain ⟨d', H', e1, e2⟩ := c20_tail s l d at_ at_ s[at_].toNat (opArgs s[at_].toNat) H.length (H.length + 1) (by omega) (by omega) acc (H ++ [some [[D.int .i64 at_, .int .i64 s[at_].toNat, .int .i64 0]]] ++ [some (l.map fun c => [.int .u8 c.toNat])])
            ((hA.app _).app _) (by simp) (fun o n e => by
              rcases hA.2 with ⟨_, rfl⟩ | ⟨_, b, rfl, h⟩
              · cases e
              · cases e; have := getBlk_lt' h; omega) (by rw [← hlen2]; exact getBlk_self _ _ _) (by omega) (by omega) (by omega)
          have hnat : (at_ : Int) + (1 + opArgs s[at_].toNat) = ((at_ + 1 + (opArgs s[at_].toNat).toNat : Nat) : Int) := by omega
          rw [hnat] at e1
          have ih := c20_5 s hs (k - 1) (at_ + 1 + (opArgs s[at_].toNat).toNat) _ d' H' (by omega) (by omega) (by simp; omega) e2
          rw [List.drop_drop, show at_ + 1 + (opArgs s[at_].toNat).toNat = at_ + 1 + (opArgs s[at_].toNat).toNat from rfl]
          simp only [hlen2] at e1 ⊢
          rw [← e1] at ih
          simpa [Function.comp_def] using ih
  termination_by k => k
  decreasing_by omega
theorem c61 (s : List UInt8) (hs : s.length ≤ 1000000) : run E (exec E) true 61 [.str s] = some (opsRes (opsGo 0 s)) := by
  rw [run_ent, e61, bsl_zero _ _ _ rfl]
  obtain ⟨q, q1, q2⟩ := c61_3 s hs s.length 0 [] .sl0 [] (by omega) (by omega) (by simp) (Acc.nil _ _)
  simp only [Option.bind_some]
  simp only [Int.natCast_zero] at q1
  rw [q1]
  simp only [Option.bind_some, q2, List.drop_zero]
  cases opsGo 0 s <;> simp
def opsGet (s : List UInt8) : Option (List SIns) := if 1 ≤ s.length ∧ s.length ≤ 120 then opsGo 0 s else none
def resIns : Option (List SIns) → D
  | some l => .tup [.list (l.map SIns.row), .bool true]
  | none => .tup [.list [], .bool false]
theorem opsGo_pos {s : List UInt8} {l : List SIns} {a : Nat} (h : opsGo a s = some l) (hs : s ≠ []) : 0 < l.length := by
  cases s with
  | nil => exact absurd rfl hs
  | cons b rest =>
    rw [opsGo] at h
    split at h
    · cases h
    · obtain ⟨l', _, rfl⟩ := Option.map_eq_some_iff.mp h
      simp
theorem opsGo_len : ∀ {s : List UInt8} {l : List SIns} {a : Nat}, opsGo a s = some l → l.length ≤ s.length
  | [], l, a, h => by rw [opsGo] at h; cases h; simp
  | b :: rest, l, a, h => by
    rw [opsGo] at h
    split at h
    · cases h
    · obtain ⟨l', h', rfl⟩ := Option.map_eq_some_iff.mp h
      have := opsGo_len h'
      simp at this ⊢
      omega
  termination_by s => s.length
  decreasing_by simp; omega
theorem opsGet_pos {s : List UInt8} {l : List SIns} (h : opsGet s = some l) : 0 < l.length := by
  unfold opsGet at h
  split at h
  · rename_i hc
    exact opsGo_pos h (by rintro rfl; simp at hc)
  · cases h
theorem c19 (s : List UInt8) : run E (exec E) true 19 [.str s] = some (resIns (opsGet s)) := by
  rw [run_ent, e19]
  by_cases h : 120 < s.length
  · simp [h, opsGet, resIns, show ¬ s.length ≤ 120 by omega, show (120 : Int) < s.length by omega]
  · simp only [lnS_str, Option.bind_some, bI_gtr, asB_bool, show ¬ (120 : Int) < s.length by omega, decide_false, cond_false, call_view, optAll_cons, optAll_nil, readT_str]
    rw [c61 s (by omega)]
    cases hs : s with
    | nil => simp [opsGo, opsRes, opsGet, resIns]
    | cons a t =>
      rw [hs] at h
      have hc : 1 ≤ (a :: t).length ∧ (a :: t).length ≤ 120 := ⟨by simp, by omega⟩
      simp only [opsGet, hc, if_true, and_self]
      cases hg : opsGo 0 (a :: t) with
      | none => simp [opsRes, resIns]
      | some l =>
        have := opsGo_pos hg (by simp)
        simp [opsRes, resIns, this]
theorem c20 (s : List UInt8) : match opsGet s with
    | some l => ∃ d H, ent E 20 [.str s] [] = some (.tup [d, .bool true], H) ∧ Acc 3 H d (l.map SIns.row)
    | none => ∃ H, ent E 20 [.str s] [] = some (.tup [.sl0, .bool false], H) := by
  rw [e20]
  simp only [lnS_str, Option.bind_some, call_pure, optAll_cons, optAll_nil, readT_int, c58, unOp_not, asB_bool]
  unfold opsGet
  by_cases h : 1 ≤ s.length ∧ s.length ≤ 120
  · rw [if_pos h, show inR (s.length : Int) 1 120 = true by simp [inR]; omega]
    have := c20_5 s (by omega) s.length 0 [] .sl0 [] (by omega) (by omega) (by simp) (Acc.nil _ _)
    simp only [Bool.not_true, cond_false]
    simpa using this
  · rw [if_neg h, show inR (s.length : Int) 1 120 = false by simp [inR]; omega]
    simp
def markIns : Int → List SIns → List SIns
  | _, [] => []
  | m, _ :: l => ⟨m, m + 1, m + 2⟩ :: markIns (m + 3) l
theorem c22_2 (b n : Nat) : ∀ (l : List SIns) (pre : Rows) (m : Int) (H : Heap), 0 ≤ m → m + 3 * l.length ≤ 1000000000 → pre.length + l.length = n → n ≤ 1000000000 → getBlk H b = some (pre ++ l.map SIns.row) →
    J E 22 2 [.sl b 0 n, .int .i64 m, .int .i64 pre.length] H = some (.int .i64 (m + 3 * l.length), H.set b (some (pre ++ (markIns m l).map SIns.row)))
  | [], pre, m, H, h0, hm, hn, hn2, hb => by
    rw [j22_2]
    have : pre.length = n := by simpa using hn
    simp [this, markIns]
    simp at hb
    exact (heap_same hb).symm
  | x :: l, pre, m, H, h0, hm, hn, hn2, hb => by
    have hlt : (pre.length : Int) < n := by simp at hn; omega
    have hlt' := getBlk_lt' hb
    simp at hm
    rw [j22_2]
    simp [ia, ld, st, getRow, rowLen, storeRow, part, D.cells, D.isCell, bld, fillC, bsl, fillR, slS, slL, sliceStr, bound, cut0, srcRows, rowsFit, call_pure, call_view, nilCheck, rInt, rStr, rBool, rByte, hlt, hb, SIns.row, getBlk_set_self, hlt']
    simp (disch := omega) only [wrap_i64]
    have := c22_2 b n l (pre ++ [[.int .i64 m, .int .i64 (m + 1), .int .i64 (m + 2)]]) (m + 3) (H.set b (some (pre ++ [.int .i64 m, .int .i64 (m + 1), .int .i64 (m + 2)] :: l.map SIns.row))) (by omega) (by omega) (by simp at hn ⊢; omega) hn2 (by simp [getBlk_set_self, hlt'])
    simp only [List.length_append, List.length_singleton, Int.natCast_add, Int.natCast_one, List.append_assoc, List.singleton_append] at this
    have e1 : m + 1 + 1 = m + 2 := by omega
    have e2 : m + 2 + 1 = m + 3 := by omega
    simp only [e1, e2]
    rw [this]
    simp [markIns, SIns.row]
    omega
theorem c23_2 (H : Heap) (l0 : List SIns) : ∀ (l : List SIns) (pre : List SIns) (m : Int), l0 = pre ++ markIns m l → 0 ≤ m → m + 3 * l.length ≤ 1000000000 → l0.length ≤ 1000000000 →
    J E 23 2 [.list (l0.map SIns.row), .int .i64 m, .int .i64 pre.length] H = some (.int .i64 (m + 3 * l.length), H)
  | [], pre, m, hl, h0, hm, hn => by
    rw [j23_2]
    simp [hl, markIns]
  | x :: l, pre, m, hl, h0, hm, hn => by
    have hlt : (pre.length : Int) < l0.length := by rw [hl]; simp [markIns]; omega
    have hget : l0[pre.length]? = some ⟨m, m + 1, m + 2⟩ := by rw [hl]; simp [markIns]
    simp at hm
    rw [j23_2]
    simp [ia, ld, st, getRow, rowLen, storeRow, part, D.cells, D.isCell, bld, fillC, bsl, fillR, slS, slL, sliceStr, bound, cut0, srcRows, rowsFit, call_pure, call_view, nilCheck, rInt, rStr, rBool, rByte, hlt, hget, SIns.row]
    simp (disch := omega) only [wrap_i64]
    have e1 : m + 1 + 1 = m + 2 := by omega
    have e2 : m + 2 + 1 = m + 3 := by omega
    simp only [e1, e2]
    have := c23_2 H l0 l (pre ++ [⟨m, m + 1, m + 2⟩]) (m + 3) (by rw [hl]; simp [markIns]) (by omega) (by omega) hn
    simp only [List.length_append, List.length_singleton, Int.natCast_add, Int.natCast_one] at this
    simp [this]
    omega

theorem o20 (s : List UInt8) : runO E (exec E) 20 [.str s] = some (match opsGet s with | some l => .tup [.list (l.map SIns.row), .bool true] | none => .tup [.sl0, .bool false]) := by
  have h := c20 s
  cases hg : opsGet s with
  | none =>
    rw [hg] at h
    obtain ⟨H, h⟩ := h
    rw [runO_ent, h]
    rfl
  | some l =>
    rw [hg] at h
    obtain ⟨d, H, h, hA⟩ := h
    have := opsGet_pos hg
    obtain ⟨H', ht⟩ := hA.take (by rw [ne_eq, List.map_eq_nil_iff]; rintro rfl; simp at this) (SIns.scalar l) 7
    rw [runO_ent, h]
    simp [ht]
theorem c22 (b n : Nat) (l : List SIns) (m : Int) (H : Heap) (h0 : 0 ≤ m) (hm : m + 3 * l.length ≤ 1000000000) (hn : n = l.length) (hb : getBlk H b = some (l.map SIns.row)) :
    ent E 22 [.sl b 0 n, .int .i64 m] H = some (.int .i64 (m + 3 * l.length), H.set b (some ((markIns m l).map SIns.row))) := by
  rw [e22]
  have := c22_2 b n l [] m H h0 hm (by simp [hn]) (by omega) (by simpa using hb)
  simpa using this
theorem markIns_length : ∀ (m : Int) (l : List SIns), (markIns m l).length = l.length
  | _, [] => rfl
  | m, _ :: l => by simp [markIns, markIns_length (m + 3) l]
theorem c23 (l : List SIns) (m : Int) (h0 : 0 ≤ m) (hm : m + 3 * l.length ≤ 1000000000) : run E (exec E) false 23 [.list ((markIns m l).map SIns.row), .int .i64 m] = some (.int .i64 (m + 3 * l.length)) := by
  rw [run_ent, e23]
  have := c23_2 [] (markIns m l) l [] m rfl h0 hm (by rw [markIns_length]; omega)
  simp only [List.length_nil, Int.natCast_zero] at this
  simp [this]
theorem c6 (s : List UInt8) (hs : s.length ≤ 140737488351232) : run E (exec E) true 6 [.str s] = some (.bool true) := by
  rw [run_ent, e6]
  by_cases hbig : (1048576 : Int) < s.length
  · simp [hbig]
  · simp only [lnS_str, Option.bind_some, bI_gtr, asB_bool, hbig, decide_false, cond_false, call_view, call_own, call_pure, call_raw, optAll_cons, optAll_nil, readT_str, c19, o20]
    have he := c21 [] [] (by simp)
    cases hg : opsGet s with
    | none =>
      have hm : ent E 22 [.sl0, .int .i64 1] [] = some (.int .i64 1, []) := by
        rw [e22, j22_2]
        simp
      have hh := c23 [] 1 (by omega) (by simp)
      simp [markIns] at he hh
      simp [resIns, he, hm, hh]
    | some l =>
      have hl : l.length ≤ 1000000 := by
        unfold opsGet at hg
        split at hg
        · have := opsGo_len hg; omega
        · cases hg
      have he := c21 l l (by omega)
      have hm := c22 0 l.length l 1 [some (l.map SIns.row)] (by omega) (by omega) rfl rfl
      have hh := c23 l 1 (by omega) (by omega)
      have hml := markIns_length 1 l
      have ht := take_map_len SIns.row (markIns 1 l)
      rw [hml] at ht
      simp [resIns, he, hm, hh, readT_slE9, hml, ht]
      simp [show ¬ (1 + 3 * (l.length : Int) < 0) by omega, he, hh]

end Go.Ev.Ytohkcloiokhglaa
