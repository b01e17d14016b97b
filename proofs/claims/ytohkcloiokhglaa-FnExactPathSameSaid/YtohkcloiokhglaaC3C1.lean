/- Contracts. -/
import Derived.Test.YtohkcloiokhglaaC3C0
namespace Go.Ev.Ytohkcloiokhglaa
set_option linter.unusedVariables false
set_option linter.unusedSimpArgs false
open Go.Ev
/-! Drawn names, types and the types of methods; two laws. -/
theorem bsl_lit {esz : Nat} {zero : List D} {H : Heap} {len : Nat} {ps : List (Nat × D)} {rows : Rows} (h : fillR esz (List.replicate len zero) ps = some rows) (h1 : len * esz ≤ 65536) (hz : zero.all D.isCell = true) (hl : len ≠ 0) :
    bsl esz zero H len ps = some (.sl H.length 0 len, H ++ [some rows]) := by
  simp [bsl, h1, hz, h, hl]
theorem repR_eq {o : Bool} {H : Heap} {n : Nat} : ∀ {ds ts : List D} {B : List Nat}, RepR o H n ds ts B → ts.all D.scalar = true → ds = ts
  | _, _, _, .nil, _ => rfl
  | _, _, _, .cons h hs, ht => by
    simp only [List.all_cons, Bool.and_eq_true] at ht
    rw [(h.val ht.1).1, repR_eq hs ht.2]
theorem repRR_eq {o : Bool} {H : Heap} {n : Nat} : ∀ {ds ts : Rows} {B : List Nat}, RepRR o H n ds ts B → scalarRows ts → ds = ts
  | _, _, _, .nil, _ => rfl
  | _, _, _, .cons h hs, ht => by rw [repR_eq h (ht _ (by simp)), repRR_eq hs fun r hr => ht r (by simp [hr])]
/-- A slice of plain rows that is one's own: how it is read. -/
theorem repT_flat {H : Heap} {n : Nat} {d : D} {rows : Rows} {B : List Nat} (h : RepT true H n d (.list rows) B) (hs : scalarRows rows) :
    lnL d = some (.int .i64 rows.length) ∧ ∀ (esz i : Nat) (row : List D), rows[i]? = some row → row.length = esz → ∃ v, ia esz H d (.int .i64 i) = some v ∧ ∀ a z, ld a z H v = part row (0, z, a) := by
  cases h with
  | sc h => cases h
  | sl0 => exact ⟨rfl, fun esz i row hr => by cases hr⟩
  | fz h => cases h
  | sl hb h =>
    have := repRR_eq h hs
    subst this
    refine ⟨rfl, fun esz i row hr he => ⟨_, ia_sl (i := (i : Int)) (row := row) hb (by omega) (by have := (List.getElem?_eq_some_iff.mp hr).1; omega) (by simpa using hr) he, fun a z => ld_ptr hb (by simpa using hr)⟩⟩
theorem c77lit (xs : List (List UInt8)) (hx : 0 < xs.length) (hx2 : xs.length ≤ 1000) (bytes : List UInt8) (p : Int) (H : Heap) (b : Nat) (hR : Rd H b bytes p) (hl : bytes.length ≤ 2000) (h0 : 0 ≤ p) (h1 : p ≤ 1099511627776) {n : Nat} {ps : List (Nat × D)} (hn : n = xs.length) (hf : fillR 1 (List.replicate n [.str []]) ps = some (xs.map rStr)) :
    ∃ s ∈ xs, ∃ H', (∀ k : D × Heap → R, ((bsl 1 [.str []] H n ps).bind fun r => (callFn E (exec E) .raw 77 [.ptr b 0 0, r.1] r.2).bind k) = k (.str s, H')) ∧ Rd H' b bytes (p + 1) := by
  subst hn
  have hb := hR.ne
  obtain ⟨s, hs, e⟩ := c77 xs hx hx2 bytes p (H ++ [some (xs.map rStr)]) b H.length (hR.app _) hl h0 h1 (getBlk_self H _ []) (by omega)
  refine ⟨s, hs, (H ++ [some (xs.map rStr)]).set b (some [[.list (bytes.map rByte), .int .i64 (p + 1)]]), fun k => ?_, ?_⟩
  · rw [bsl_lit hf (by omega) rfl (by omega)]
    simp only [Option.bind_some, call_raw, e]
  · exact getBlk_set_self (by simp; omega)
def drawName : List (List UInt8) := [[], [97], [65, 98, 99], [97, 49], [49, 97], [97, 98, 99, 100, 101, 102, 103, 104], [97, 98, 99, 100, 101, 102, 103, 104, 105], [97, 95, 98], [73], [195, 169]]
def drawType : List (List UInt8) := [[], [73], [73, 73], [76, 65, 59], [76, 65], [76, 59], [76, 49, 59], [76, 65, 59, 73], [86], [76, 97, 98, 99, 100, 101, 102, 103, 104, 59], [76, 97, 98, 99, 100, 101, 102, 103, 104, 105, 59]]
theorem rd_open (H : Heap) (bytes : List UInt8) : Rd (H ++ [some [[.list (bytes.map rByte), .int .i64 0]]]) H.length bytes 0 := getBlk_self H _ []
theorem c37 (code : List UInt8) (hc : code.length ≤ 140737488351232) : ∃ s ∈ drawName, run E (exec E) false 37 [.list (code.map rByte)] = some (.str s) := by
  obtain ⟨s, hs, H', e, -⟩ := c77lit drawName (by decide) (by decide) (code.take 2000) 0 _ _ (rd_open [] (code.take 2000)) (by simp; omega) (by omega) (by omega) (n := 10) (ps := [(0, (D.str [])), (1, (D.str [97])), (2, (D.str [65, 98, 99])), (3, (D.str [97, 49])), (4, (D.str [49, 97])), (5, (D.str [97, 98, 99, 100, 101, 102, 103, 104])), (6, (D.str [97, 98, 99, 100, 101, 102, 103, 104, 105])), (7, (D.str [97, 95, 98])), (8, (D.str [73])), (9, (D.str [195, 169]))]) rfl rfl
  refine ⟨s, hs, ?_⟩
  rw [run_ent, e37]
  simp only [call_raw, c76 code hc, Option.bind_some]
  simp only [call_raw] at e
  rw [e]
  rfl
theorem c38 (code : List UInt8) (hc : code.length ≤ 140737488351232) : ∃ s ∈ drawType, run E (exec E) false 38 [.list (code.map rByte)] = some (.str s) := by
  obtain ⟨s, hs, H', e, -⟩ := c77lit drawType (by decide) (by decide) (code.take 2000) 0 _ _ (rd_open [] (code.take 2000)) (by simp; omega) (by omega) (by omega) (n := 11) (ps := [(0, (D.str [])), (1, (D.str [73])), (2, (D.str [73, 73])), (3, (D.str [76, 65, 59])), (4, (D.str [76, 65])), (5, (D.str [76, 59])), (6, (D.str [76, 49, 59])), (7, (D.str [76, 65, 59, 73])), (8, (D.str [86])), (9, (D.str [76, 97, 98, 99, 100, 101, 102, 103, 104, 59])), (10, (D.str [76, 97, 98, 99, 100, 101, 102, 103, 104, 105, 59]))]) rfl rfl
  refine ⟨s, hs, ?_⟩
  rw [run_ent, e38]
  simp only [call_raw, c76 code hc, Option.bind_some]
  simp only [call_raw] at e
  rw [e]
  rfl
theorem typeOk_L (s : List UInt8) : typeOk (76 :: (s ++ [59])) = nameOk s := by
  simp [typeOk, clsName]
  cases nameOk s <;> rfl
theorem takeType_ok {t : List UInt8} (h : typeOk t = true) : takeType t = some (t, []) := by
  have h1 := takeType_full t
  rw [h] at h1
  have h1 := of_decide_eq_true h1
  cases hk : takeType t with
  | none => rw [hk] at h1; simp only [endOf] at h1; omega
  | some q =>
    obtain ⟨a, r⟩ := q
    rw [hk] at h1
    obtain ⟨e1, -⟩ := takeType_eq hk
    have := congrArg List.length e1
    simp only [endOf, List.length_append] at h1 this
    have : r = [] := List.eq_nil_of_length_eq_zero (by omega)
    subst this
    simp at e1
    rw [e1]
theorem descOf_self {t : List UInt8} (h : (41 : UInt8) ∉ t) : descOf (40 :: (t ++ 41 :: t)) = if typeOk t = true then some ([t], t) else none := by
  simp only [descOf, if_true, descGo_app t 0 t h]
  by_cases ht : typeOk t = true
  · have hk := takeType_ok ht
    have : takeAll 0 t = some [t] := by
      cases t with
      | nil => cases ht
      | cons c r => rw [takeAll, hk]; simp [takeAll]
    rw [this]
    simp [descOk, ht]
  · rw [if_neg ht]
    cases ha : takeAll 0 t with
    | none => rfl
    | some q =>
      have hd : descOk (q, t) = false := by
        cases t with
        | nil => simp [descOk, ht]
        | cons c r =>
          have : ¬ c :: r = [86] := by
            intro e
            rw [e, takeAll] at ha
            simp [takeType] at ha
          simp only [descOk, this, decide_false, Bool.false_or]
          simpa using ht
      simp [hd]
theorem c9 (code more : List UInt8) (w1 : code.length ≤ 140737488351232 ∧ ∀ x ∈ code, True) (w2 : more.length ≤ 140737488351232 ∧ ∀ x ∈ more, True) : run E (exec E) true 9 [.list (code.map rByte), .list (more.map rByte)] = some (.bool true) := by
  rw [run_ent, e9]
  simp only [lnL_list, List.length_map, Option.bind_some, bI_gtr, asB_bool]
  by_cases h1 : (1048576 : Int) < code.length
  · simp [h1]
  by_cases h2 : (1048576 : Int) < more.length
  · simp [h1, h2]
  simp only [h1, h2, decide_false, cond_false]
  obtain ⟨s, hs, e1⟩ := c37 code w1.1
  obtain ⟨t, ht, e2⟩ := c38 more w2.1
  have hsl : s.length ≤ 100 := (show ∀ x ∈ drawName, x.length ≤ 100 by decide) s hs
  have htl : t.length ≤ 100 := (show ∀ x ∈ drawType, x.length ≤ 100 by decide) t ht
  have h41 : (41 : UInt8) ∉ t := (show ∀ x ∈ drawType, (41 : UInt8) ∉ x by decide) t ht
  simp only [call_pure, optAll_cons, optAll_nil, readT_list9, readT_str, Option.bind_some, e1, e2, c16 s (by omega), c15 s (by omega), c18 t (by omega), c17 t (by omega), bB_neq, beq_self_eq_true, Bool.not_true, asB_bool, cond_false]
  rw [bS_add _ _ (by simp; omega)]
  simp only [Option.bind_some]
  rw [bS_add _ _ (by simp; omega)]
  simp only [Option.bind_some, readT_str]
  rw [c18 _ (by simp; omega), show ([76] ++ s ++ [59] : List UInt8) = 76 :: (s ++ [59]) by simp, typeOk_L]
  simp only [Option.bind_some, bB_neq, beq_self_eq_true, Bool.not_true, asB_bool, cond_false]
  rw [bS_add _ _ (by simp; omega)]
  simp only [Option.bind_some]
  rw [bS_add _ _ (by simp; omega)]
  simp only [Option.bind_some]
  rw [bS_add _ _ (by simp; omega)]
  simp only [Option.bind_some]
  rw [show ([40] ++ t ++ [41] ++ t : List UInt8) = 40 :: (t ++ 41 :: t) by simp]
  have L0 : Live [] [] := Live.nil []
  obtain ⟨d1, H1, B1, q1, P1⟩ := L0.own (c39 (40 :: (t ++ 41 :: t)) (by simp; omega)) (by decide) (ds := [.str (40 :: (t ++ 41 :: t))]) (by simp only [optAll_cons, optAll_nil, readT_str, Option.bind_some])
  rw [q1]; simp only [Option.bind_some]
  rw [descOf_self h41] at P1
  have hT : ∀ (H : Heap), (optAll (readT true depth H) [D.str t]) = some [.str t] := fun H => by simp
  by_cases hk : typeOk t = true
  · rw [if_pos hk] at P1
    simp only [descRes] at P1
    obtain ⟨d0, dd1, dd2, B0, BB1, BB2, e, L⟩ := P1.tup3
    subst e
    obtain ⟨v1, -⟩ := L.val' (d := dd1) (t := .str t) (B := BB1) (by simp) rfl
    obtain ⟨v2, -⟩ := L.val' (d := dd2) (t := .bool true) (B := BB2) (by simp) rfl
    subst v1 v2
    have hr : RepT true H1 8 d0 (.list ([t].map rStr)) B0 := L.rep (d0, _, B0) (by simp)
    obtain ⟨f1, f2⟩ := repT_flat hr (fun r hr => by obtain ⟨x, _, rfl⟩ := List.mem_map.mp hr; rfl)
    obtain ⟨v, f3, f4⟩ := f2 1 0 (rStr t) rfl rfl
    simp only [extract_tup, List.getElem?_cons_zero, List.getElem?_cons_succ, Option.bind_some]
    rw [j9_8]
    simp only [call_pure, hT, Option.bind_some, c18 t (by omega), hk, bB_eql, beq_self_eq_true, asB_bool, cond_true, unOp_not, Bool.not_true, cond_false, f1, List.map_cons, List.map_nil, List.length_cons, List.length_nil]
    simp only [Int.ofNat_eq_natCast, Int.natCast_zero] at f3
    simp only [Nat.zero_add, Int.natCast_one, bI_eql, decide_true, Option.bind_some, asB_bool, cond_true, f3, f4, rStr, part_cell, List.getElem?_cons_zero, bS_eql, ret_one, readT_bool]
  · rw [if_neg hk] at P1
    simp only [descRes] at P1
    obtain ⟨d0, dd1, dd2, B0, BB1, BB2, e, L⟩ := P1.tup3
    subst e
    obtain ⟨v2, -⟩ := L.val' (d := dd2) (t := .bool false) (B := BB2) (by simp) rfl
    subst v2
    simp only [extract_tup, List.getElem?_cons_zero, List.getElem?_cons_succ, Option.bind_some]
    rw [j9_8]
    have hk : typeOk t = false := by simpa using hk
    simp only [call_pure, hT, Option.bind_some, c18 t (by omega), hk, bB_eql, beq_self_eq_true, asB_bool, cond_true, unOp_not, Bool.not_false, ret_one, readT_bool]
/-! A drawn type of a method. -/
theorem c44_4 (bytes : List UInt8) (hl : bytes.length ≤ 2000) (b : Nat) : ∀ (k : Nat) (p : Int) (s : List UInt8) (H : Heap), Rd H b bytes p → 0 ≤ p → p + k ≤ 1000 → k ≤ 5 → s.length + 5 * k ≤ 100 → ∃ s' H', s'.length ≤ 120 ∧ J E 44 4 [.ptr b 0 0, .str s, .int .i64 k] H = some (.str s', H')
  | 0, p, s, H, hR, h0, h1, hk, hs => by
    rw [j44_4]
    simp only [bI_gtr, Int.natCast_zero, Int.lt_irrefl, decide_false, Option.bind_some, asB_bool, cond_false]
    rw [bS_add _ _ (by simp; omega)]
    simp only [Option.bind_some]
    obtain ⟨s1, m1, H1, e1, R1⟩ := c77lit [[86], [73], [76, 65, 59]] (by decide) (by decide) bytes p H b hR hl h0 (by omega) (n := 3) (ps := [(0, (D.str [86])), (1, (D.str [73])), (2, (D.str [76, 65, 59]))]) rfl rfl
    have l1 : s1.length ≤ 3 := (show ∀ x ∈ ([[86], [73], [76, 65, 59]] : List (List UInt8)), x.length ≤ 3 by decide) s1 m1
    rw [e1, bS_add _ _ (by simp; omega)]
    obtain ⟨r2, e2, r20, r21⟩ := c83 bytes (p + 1) 4 H1 b R1 hl (by omega) (by omega) (by omega)
    simp only [Option.bind_some, call_raw, e2, bI_eql, asB_bool]
    generalize ht : s ++ [41] ++ s1 = t
    have hT : t.length ≤ 104 := by rw [← ht]; simp; omega
    by_cases hr : r2 = 0
    · simp only [hr, decide_true, cond_true, lnS_str, Option.bind_some, bI_add]
      rw [wrap_i64 (n := (t.length : Int) + 1) (by omega) (by omega)]
      have hb := R1.ne
      have R2 : Rd (H1.set b (some [[.list (bytes.map rByte), .int .i64 (p + 1 + 1)]])) b bytes (p + 1 + 1) := getBlk_set_self hb
      generalize H1.set b (some [[.list (bytes.map rByte), .int .i64 (p + 1 + 1)]]) = H2 at R2
      obtain ⟨r3, e3, r30, r31⟩ := c83 bytes (p + 1 + 1) (t.length + 1) H2 b R2 hl (by omega) (by omega) (by omega)
      have r31 := r31 (by omega)
      simp only [e3, Option.bind_some]
      rw [slS_to r30 (by omega)]
      simp only [Option.bind_some]
      have hb2 := R2.ne
      have R3 : Rd (H2.set b (some [[.list (bytes.map rByte), .int .i64 (p + 1 + 1 + 1)]])) b bytes (p + 1 + 1 + 1) := getBlk_set_self hb2
      generalize H2.set b (some [[.list (bytes.map rByte), .int .i64 (p + 1 + 1 + 1)]]) = H3 at R3
      obtain ⟨s4, m4, H4, e4, R4⟩ := c77lit [[73], [41], [40], [59], [86], [76]] (by decide) (by decide) bytes (p + 1 + 1 + 1) H3 b R3 hl (by omega) (by omega) (n := 6) (ps := [(0, (D.str [73])), (1, (D.str [41])), (2, (D.str [40])), (3, (D.str [59])), (4, (D.str [86])), (5, (D.str [76]))]) rfl rfl
      have l4 : s4.length ≤ 1 := (show ∀ x ∈ ([[73], [41], [40], [59], [86], [76]] : List (List UInt8)), x.length ≤ 1 by decide) s4 m4
      simp only [call_raw] at e4
      rw [e4, bS_add _ _ (by simp; omega)]
      simp only [Option.bind_some]
      rw [slS_from r30 (by omega)]
      simp only [Option.bind_some]
      rw [bS_add _ _ (by simp; omega)]
      exact ⟨_, _, by simp; omega, rfl⟩
    · simp only [hr, decide_false, cond_false]
      exact ⟨_, _, by omega, rfl⟩
  | k + 1, p, s, H, hR, h0, h1, hk, hs => by
    rw [j44_4]
    have hgt : (0 : Int) < ((k + 1 : Nat) : Int) := by omega
    simp only [bI_gtr, hgt, decide_true, Option.bind_some, asB_bool, cond_true]
    obtain ⟨s1, m1, H1, e1, R1⟩ := c77lit [[73], [76, 65, 59], [76, 66, 99, 49, 59]] (by decide) (by decide) bytes p H b hR hl h0 (by omega) (n := 3) (ps := [(0, (D.str [73])), (1, (D.str [76, 65, 59])), (2, (D.str [76, 66, 99, 49, 59]))]) rfl rfl
    have l1 : s1.length ≤ 5 := (show ∀ x ∈ ([[73], [76, 65, 59], [76, 66, 99, 49, 59]] : List (List UInt8)), x.length ≤ 5 by decide) s1 m1
    rw [e1, bS_add _ _ (by omega)]
    simp only [Option.bind_some, bI_sub]
    rw [wrap_i64 (n := ((k + 1 : Nat) : Int) - 1) (by omega) (by omega), show ((k + 1 : Nat) : Int) - 1 = (k : Int) by omega]
    exact c44_4 bytes hl b k (p + 1) (s ++ s1) H1 R1 (by omega) (by omega) (by omega) (by simp; omega)
theorem c44 (code : List UInt8) (hc : code.length ≤ 140737488351232) : ∃ s : List UInt8, s.length ≤ 120 ∧ run E (exec E) false 44 [.list (code.map rByte)] = some (.str s) := by
  rw [run_ent, e44]
  simp only [call_raw, c76 code hc, Option.bind_some]
  rw [bsl_lit (rows := [0, 1, 2, 3, 4, 4, 5].map rInt) rfl (by decide) rfl (by decide)]
  simp only [Option.bind_some]
  have hR := rd_open [] (code.take 2000)
  obtain ⟨n, m, e⟩ := c82 [0, 1, 2, 3, 4, 4, 5] (by decide) (by decide) (code.take 2000) 0 _ _ (([] : Heap) ++ [some [[D.list ((code.take 2000).map rByte), D.int .i64 0]]]).length (hR.app [some ([0, 1, 2, 3, 4, 4, 5].map rInt)]) (by simp; omega) (by omega) (by omega) (getBlk_self _ _ []) (by simp)
  rw [show (7 : Nat) = ([0, 1, 2, 3, 4, 4, 5] : List Int).length from rfl, e]
  simp only [Option.bind_some]
  have hn : 0 ≤ n ∧ n ≤ 5 := (show ∀ x ∈ ([0, 1, 2, 3, 4, 4, 5] : List Int), 0 ≤ x ∧ x ≤ 5 by decide) n m
  obtain ⟨k, rfl⟩ : ∃ k : Nat, n = k := ⟨n.toNat, by omega⟩
  obtain ⟨s, H', hs, e2⟩ := c44_4 (code.take 2000) (by simp; omega) _ k (0 + 1) [40] _ (getBlk_set_self (hR.app [some ([0, 1, 2, 3, 4, 4, 5].map rInt)]).ne) (by omega) (by omega) (by omega) (by simp; omega)
  rw [e2]
  exact ⟨s, hs, by simp⟩
theorem c11_10 (s : List UInt8) (hs : s.length ≤ 140737488351232) (q : List (List UInt8) × List UInt8) (hq : descOf s = some q) (d : D) (n : Nat) (B : List Nat) (H : Heap) (hr : RepT true H n d (.list (q.1.map rStr)) B) : ∀ i, i ≤ q.1.length → J E 11 10 [.str s, d, .str q.2, .list (q.1.map rStr), .str (40 :: (q.1.take i).flatten), .int .i64 i] H = some (.bool true, H) := by
  obtain ⟨e1, e2, e3, e4⟩ := descOf_join hq
  obtain ⟨f1, f2⟩ := repT_flat hr (fun r hr => by obtain ⟨x, _, rfl⟩ := List.mem_map.mp hr; rfl)
  have hl := congrArg List.length e1
  simp only [List.length_cons, List.length_append] at hl
  apply loop_up
  · rw [j11_10, f1]
    simp only [List.length_map, bI_lss, Int.lt_irrefl, decide_false, Option.bind_some, asB_bool, cond_false, List.take_length]
    rw [bS_add _ _ (by simp only [List.length_cons, List.length_nil]; omega)]
    simp only [Option.bind_some]
    rw [bS_add _ _ (by simp only [List.length_append, List.length_cons, List.length_nil]; omega)]
    have h4 : (q.1.length : Int) ≤ 4 := by omega
    have es : 40 :: q.1.flatten ++ [41] ++ q.2 = s := by rw [e1]; simp
    simp only [Option.bind_some, es, bS_eql, decide_true, asB_bool, cond_true, List.length_map, bI_leq, h4]
    by_cases hv : q.2 = [86]
    · simp only [hv, decide_true, cond_true, ret_one]
    · have ht : typeOk q.2 = true := by simpa [descOk, hv] using e4
      simp only [hv, decide_false, cond_false, call_pure, optAll_cons, optAll_nil, readT_str, Option.bind_some]
      rw [c18 q.2 (by omega)]
      simp only [Option.bind_some, ht, asB_bool, cond_true, ret_one]
  · intro i hi ih
    have hlt : ((i : Nat) : Int) < (q.1.length : Int) := by omega
    obtain ⟨v, g1, g2⟩ := f2 1 i (rStr q.1[i]) (by simp [hi]) rfl
    have ht := e2 _ (List.getElem_mem hi)
    have hfl : (q.1.take (i + 1)).flatten = (q.1.take i).flatten ++ q.1[i] := by
      rw [List.take_succ_eq_append_getElem hi, List.flatten_append]; simp
    have hlen : (q.1.take i).flatten.length + q.1[i].length ≤ q.1.flatten.length := by
      have h1 : q.1.flatten = (q.1.take (i + 1)).flatten ++ (q.1.drop (i + 1)).flatten := by rw [← List.flatten_append, List.take_append_drop]
      have := congrArg List.length h1
      rw [hfl] at this
      simp only [List.length_append] at this
      omega
    rw [j11_10, f1]
    simp only [List.length_map, bI_lss, hlt, decide_true, Option.bind_some, asB_bool, cond_true, g1, g2]
    rw [ia_list (n := (i : Int)) (esz := 1) (by omega) (by simpa using hi) (by simp [rStr])]
    simp only [Option.bind_some, ld_el, Int.toNat_natCast, List.getElem_map, show part (rStr q.1[i]) (0, 1, false) = some (.str q.1[i]) from rfl, bS_neq, decide_true, Bool.not_true, asB_bool, cond_false, call_pure, optAll_cons, optAll_nil, readT_str]
    rw [c18 _ (by omega)]
    simp only [Option.bind_some, ht, unOp_not, Bool.not_true, asB_bool, cond_false, g1, g2, show part (rStr q.1[i]) (0, 1, false) = some (.str q.1[i]) from rfl]
    rw [bS_add _ _ (by simp only [List.length_cons]; omega)]
    simp only [Option.bind_some, bI_add]
    rw [wrap_i64 (n := (i : Int) + 1) (by omega) (by omega)]
    rw [hfl] at ih
    exact ih
theorem c11 (code : List UInt8) (w1 : code.length ≤ 140737488351232 ∧ ∀ x ∈ code, True) : run E (exec E) true 11 [.list (code.map rByte)] = some (.bool true) := by
  rw [run_ent, e11]
  simp only [lnL_list, List.length_map, Option.bind_some, bI_gtr, asB_bool]
  by_cases h1 : (1048576 : Int) < code.length
  · simp [h1]
  simp only [h1, decide_false, cond_false]
  obtain ⟨s, hs, e1⟩ := c44 code w1.1
  simp only [call_pure, optAll_cons, optAll_nil, readT_list9, Option.bind_some, e1]
  have L0 : Live [] [] := Live.nil []
  obtain ⟨d1, H1, B1, q1, P1⟩ := L0.own (c39 s (by omega)) (by decide) (ds := [.str s]) (by simp only [optAll_cons, optAll_nil, readT_str, Option.bind_some])
  rw [q1]; simp only [Option.bind_some]
  have hv : ∀ H, callFn E (exec E) .view 40 [.str s] H = some (descRes (descOf s), H) := by
    intro H
    rw [call_view]
    simp only [optAll_cons, optAll_nil, readT_str, Option.bind_some, c40 s (by omega)]
    rfl
  cases hq : descOf s with
  | none =>
    rw [hq] at P1 hv
    simp only [descRes] at P1 hv
    obtain ⟨d0, dd1, dd2, B0, BB1, BB2, e, L⟩ := P1.tup3
    subst e
    obtain ⟨v1, -⟩ := L.val' (d := dd1) (t := .str []) (B := BB1) (by simp) rfl
    obtain ⟨v2, -⟩ := L.val' (d := dd2) (t := .bool false) (B := BB2) (by simp) rfl
    subst v1 v2
    have hr : RepT true H1 8 d0 (.list []) B0 := L.rep (d0, _, B0) (by simp)
    obtain ⟨f1, f2⟩ := repT_flat hr (fun r hr => by cases hr)
    simp only [extract_tup, List.getElem?_cons_zero, List.getElem?_cons_succ, Option.bind_some, hv, f1, bB_neq, bB_eql, beq_self_eq_true, Bool.not_true, asB_bool, cond_false, cond_true, bS_neq, bS_eql, decide_true, lnL_list, bI_neq, bI_eql, unOp_not, Bool.not_false, ret_one, readT_bool]
  | some q =>
    rw [hq] at P1 hv
    simp only [descRes] at P1 hv
    obtain ⟨d0, dd1, dd2, B0, BB1, BB2, e, L⟩ := P1.tup3
    subst e
    obtain ⟨v1, -⟩ := L.val' (d := dd1) (t := .str q.2) (B := BB1) (by simp) rfl
    obtain ⟨v2, -⟩ := L.val' (d := dd2) (t := .bool true) (B := BB2) (by simp) rfl
    subst v1 v2
    have hr : RepT true H1 8 d0 (.list (q.1.map rStr)) B0 := L.rep (d0, _, B0) (by simp)
    obtain ⟨f1, f2⟩ := repT_flat hr (fun r hr => by obtain ⟨x, _, rfl⟩ := List.mem_map.mp hr; rfl)
    simp only [extract_tup, List.getElem?_cons_zero, List.getElem?_cons_succ, Option.bind_some, hv, f1, bB_neq, bB_eql, beq_self_eq_true, Bool.not_true, asB_bool, cond_false, cond_true, bS_neq, bS_eql, decide_true, lnL_list, bI_neq, bI_eql, unOp_not, Bool.not_false]
    have := c11_10 s (by omega) q hq d0 8 B0 H1 hr 0 (by omega)
    simp only [List.take_zero, List.flatten_nil, Int.natCast_zero] at this
    rw [this]
    simp

end Go.Ev.Ytohkcloiokhglaa
