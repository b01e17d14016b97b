/- Contracts. -/
import Derived.Test.YtohkcloiokhglaaC3E2
namespace Go.Ev.Ytohkcloiokhglaa
set_option linter.unusedVariables false
set_option linter.unusedSimpArgs false
open Go.Ev
theorem c7 (l : List SLine) (w : l.length ≤ 140737488351232 ∧ ∀ x ∈ l, x.wf) : run E (exec E) true 7 [.list (l.map SLine.row)] = some (.bool true) := by
  rw [run_ent, e7]
  rw [pure_call (ds := [.list (l.map SLine.row), .int .i64 ((1048576 : Int))]) (by simp only [optAll_cons, optAll_nil, readT_int, readT_list9, Option.bind_some]) (c24 l ((1048576 : Int)) w (by omega) (by omega))]
  simp only [Option.bind_some, bI_lss, asB_bool]
  by_cases gsl : ¬ ((szL SLine.sz l : Nat) : Int) ≤ (1048576 : Int)
  · rw [szR_neg gsl]; simp
  have gsl := Decidable.not_not.mp gsl
  rw [szR_pos gsl]
  simp only [show ¬ (1048576 : Int) - ((szL SLine.sz l : Nat) : Int) < 0 by omega, decide_false, cond_false]
  have gnl := szL_len (n := 1048576) (f := SLine.sz) (l := l) (by omega)
  have L0 : Live [] [] := Live.nil []
  have hf := (traceMost_few l).1
  have hN : mkN SLine.marks l = 6 * l.length := mkN_const 6 l
  have hM : mkN (fun _ => 1) (traceMost l) = 35 := (mkN_one _).trans hf
  obtain ⟨d2, H2, B2, q2, L2⟩ := L0.own (c26 l (by omega)) (by decide) (ds := [.list (l.map SLine.row)]) (by simp only [optAll_cons, optAll_nil, readT_int, readT_str, readT_bool, readT_list9, Option.bind_some])
  rw [q2]; simp only [Option.bind_some]
  have r2 := L2.reads; simp only [Reads, and_true] at r2
  obtain ⟨H3, q3, L3⟩ := L2.view (dead := [(d2, .list (l.map SLine.row), B2)]) (rest := []) (c25 l (by omega)) (ds := [d2]) (by simp only [optAll_cons, optAll_nil, r2, readT_int, readT_str, readT_bool, readT_list9, Option.bind_some]) (by simp)
  rw [q3]; simp only [Option.bind_some]
  obtain ⟨d5, H5, B5, q5, L5⟩ := L3.own (c26 l (by omega)) (by decide) (ds := [.list (l.map SLine.row)]) (by simp only [optAll_cons, optAll_nil, readT_int, readT_str, readT_bool, readT_list9, Option.bind_some])
  rw [q5]; simp only [Option.bind_some]
  have r5 := L5.reads; simp only [Reads, and_true] at r5
  obtain ⟨d6, H6, B6, q6, L6⟩ := L5.own (c27 l (by omega)) (by decide) (ds := [d5]) (by simp only [optAll_cons, optAll_nil, r5, readT_int, readT_str, readT_bool, readT_list9, Option.bind_some])
  rw [q6]; simp only [Option.bind_some]
  have r6 := L6.reads; simp only [Reads, and_true] at r6
  rw [pure_call (ds := [d6, .list (((traceMost l)).map rInt)]) (by simp only [optAll_cons, optAll_nil, r6, readT_int, readT_str, readT_bool, readT_list9, Option.bind_some]) (c28 ((traceMost l)) ((traceMost l)) (by omega))]
  simp only [Option.bind_some, unOp_not, asB_bool, decide_true, Bool.not_true, cond_false, cond_true]
  obtain ⟨d8, H8, B8, q8, L8⟩ := L6.own (c26 l (by omega)) (by decide) (ds := [.list (l.map SLine.row)]) (by simp only [optAll_cons, optAll_nil, r6, readT_int, readT_str, readT_bool, readT_list9, Option.bind_some])
  rw [q8]; simp only [Option.bind_some]
  have r8 := L8.reads; simp only [Reads, and_true] at r8
  rw [pure_call (ds := [d5, d8]) (by simp only [optAll_cons, optAll_nil, r8, readT_int, readT_str, readT_bool, readT_list9, Option.bind_some]) (c29 l l (by omega))]
  simp only [Option.bind_some, unOp_not, asB_bool, decide_true, Bool.not_true, cond_false, cond_true]
  obtain ⟨H9, q9, L9⟩ := L8.mark (pre := [(d8, .list (l.map SLine.row), B8), (d6, .list (((traceMost l)).map rInt), B6)]) (post := []) (xs := l) (m30) (k := (1 : Int)) (by omega) (by omega)
  simp only [List.nil_append, List.cons_append] at L9
  rw [call_raw, q9]; simp only [Option.bind_some]
  have r9 := L9.reads; simp only [Reads, and_true] at r9
  simp only [bI_lss, Option.bind_some, asB_bool, show ¬ (1 : Int) + ((mkN SLine.marks l : Nat) : Int) < 0 by omega, decide_false, cond_false]
  rw [pure_call (ds := [d6, .list (((traceMost l)).map rInt)]) (by simp only [optAll_cons, optAll_nil, r9, readT_int, readT_str, readT_bool, readT_list9, Option.bind_some]) (c28 ((traceMost l)) ((traceMost l)) (by omega))]
  simp only [Option.bind_some, unOp_not, asB_bool, decide_true, Bool.not_true, cond_false, cond_true]
  obtain ⟨H10, q10, L10⟩ := L9.mark (pre := [(d8, .list (l.map SLine.row), B8)]) (post := [(d5, .list ((mkL SLine.mark SLine.marks ((1 : Int)) l).map SLine.row), B5)]) (xs := ((traceMost l))) (m31) (k := (1 : Int)) (by omega) (by omega)
  simp only [List.nil_append, List.cons_append] at L10
  rw [call_raw, q10]; simp only [Option.bind_some]
  have r10 := L10.reads; simp only [Reads, and_true] at r10
  rw [pure_call (ds := [d6, .int .i64 ((1 : Int))]) (by simp only [optAll_cons, optAll_nil, r10, readT_int, readT_str, readT_bool, readT_list9, Option.bind_some]) (h32 ((traceMost l)) ((1 : Int)) (by omega) (by omega))]; simp only [Option.bind_some]
  simp only [bI_lss, Option.bind_some, asB_bool, show ¬ (1 : Int) + ((mkN (fun _ => 1) ((traceMost l)) : Nat) : Int) < 0 by omega, decide_false, cond_false]
  try simp only [bI_neq, bS_neq, bB_neq, beq_self_eq_true, decide_true, Bool.not_true, Option.bind_some, asB_bool, cond_false]
  obtain ⟨d13, H13, B13, q13, L13⟩ := L10.own (c26 l (by omega)) (by decide) (ds := [.list (l.map SLine.row)]) (by simp only [optAll_cons, optAll_nil, r10, readT_int, readT_str, readT_bool, readT_list9, Option.bind_some])
  rw [q13]; simp only [Option.bind_some]
  have r13 := L13.reads; simp only [Reads, and_true] at r13
  obtain ⟨d14, H14, B14, q14, L14⟩ := L13.own (c27 l (by omega)) (by decide) (ds := [d13]) (by simp only [optAll_cons, optAll_nil, r13, readT_int, readT_str, readT_bool, readT_list9, Option.bind_some])
  rw [q14]; simp only [Option.bind_some]
  have r14 := L14.reads; simp only [Reads, and_true] at r14
  rw [pure_call (ds := [d14, .list (((traceMost l)).map rInt)]) (by simp only [optAll_cons, optAll_nil, r14, readT_int, readT_str, readT_bool, readT_list9, Option.bind_some]) (c28 ((traceMost l)) ((traceMost l)) (by omega))]
  simp only [Option.bind_some, unOp_not, asB_bool, decide_true, Bool.not_true, cond_false, cond_true]
  rw [pure_call (ds := [d6, .int .i64 ((1 : Int))]) (by simp only [optAll_cons, optAll_nil, r14, readT_int, readT_str, readT_bool, readT_list9, Option.bind_some]) (h32 ((traceMost l)) ((1 : Int)) (by omega) (by omega))]; simp only [Option.bind_some]
  simp only [bI_lss, Option.bind_some, asB_bool, show ¬ (1 : Int) + ((mkN (fun _ => 1) ((traceMost l)) : Nat) : Int) < 0 by omega, decide_false, cond_false]
  try simp only [bI_neq, bS_neq, bB_neq, beq_self_eq_true, decide_true, Bool.not_true, Option.bind_some, asB_bool, cond_false]
  simp only [ret_one, Option.bind_some, readT_bool]
theorem c8 (l : List SIns) (w : l.length ≤ 140737488351232 ∧ ∀ x ∈ l, x.wf) : run E (exec E) true 8 [.list (l.map SIns.row)] = some (.bool true) := by
  rw [run_ent, e8]
  rw [pure_call (ds := [.list (l.map SIns.row), .int .i64 ((1048576 : Int))]) (by simp only [optAll_cons, optAll_nil, readT_int, readT_list9, Option.bind_some]) (c33 l ((1048576 : Int)) w (by omega) (by omega))]
  simp only [Option.bind_some, bI_lss, asB_bool]
  by_cases gsl : ¬ ((szL (fun _ => 0) l : Nat) : Int) ≤ (1048576 : Int)
  · rw [szR_neg gsl]; simp
  have gsl := Decidable.not_not.mp gsl
  rw [szR_pos gsl]
  simp only [show ¬ (1048576 : Int) - ((szL (fun _ => 0) l : Nat) : Int) < 0 by omega, decide_false, cond_false]
  have gnl := szL_len (n := 1048576) (f := (fun _ => 0)) (l := l) (by omega)
  have L0 : Live [] [] := Live.nil []
  obtain ⟨d2, H2, B2, q2, L2⟩ := L0.own (c35 l (by omega)) (by decide) (ds := [.list (l.map SIns.row)]) (by simp only [optAll_cons, optAll_nil, readT_int, readT_str, readT_bool, readT_list9, Option.bind_some])
  rw [q2]; simp only [Option.bind_some]
  have r2 := L2.reads; simp only [Reads, and_true] at r2
  rw [pure_call (ds := [d2]) (by simp only [optAll_cons, optAll_nil, r2, readT_int, readT_str, readT_bool, readT_list9, Option.bind_some]) (c34 l)]; simp only [Option.bind_some]
  obtain ⟨d4, H4, B4, q4, L4⟩ := L2.own (c35 l (by omega)) (by decide) (ds := [.list (l.map SIns.row)]) (by simp only [optAll_cons, optAll_nil, r2, readT_int, readT_str, readT_bool, readT_list9, Option.bind_some])
  rw [q4]; simp only [Option.bind_some]
  have r4 := L4.reads; simp only [Reads, and_true] at r4
  rw [pure_call (ds := [d4]) (by simp only [optAll_cons, optAll_nil, r4, readT_int, readT_str, readT_bool, readT_list9, Option.bind_some]) (c36 l)]; simp only [Option.bind_some]
  try simp only [bI_neq, bS_neq, bB_neq, beq_self_eq_true, decide_true, Bool.not_true, Option.bind_some, asB_bool, cond_false]
  obtain ⟨d6, H6, B6, q6, L6⟩ := L4.own (c35 l (by omega)) (by decide) (ds := [.list (l.map SIns.row)]) (by simp only [optAll_cons, optAll_nil, r4, readT_int, readT_str, readT_bool, readT_list9, Option.bind_some])
  rw [q6]; simp only [Option.bind_some]
  have r6 := L6.reads; simp only [Reads, and_true] at r6
  rw [pure_call (ds := [d4, d6]) (by simp only [optAll_cons, optAll_nil, r6, readT_int, readT_str, readT_bool, readT_list9, Option.bind_some]) (c21 l l (by omega))]
  simp only [Option.bind_some, unOp_not, asB_bool, decide_true, Bool.not_true, cond_false, cond_true]
  simp only [ret_one, Option.bind_some, readT_bool]
theorem c10 (s : List UInt8) (w : s.length ≤ 140737488351232) : run E (exec E) true 10 [.str s] = some (.bool true) := by
  rw [run_ent, e10]
  by_cases gls : (1048576 : Int) < s.length
  · simp [gls]
  simp only [lnS_str, Option.bind_some, bI_gtr, asB_bool, gls, decide_false, cond_false]
  have L0 : Live [] [] := Live.nil []
  have hf := dTakes_len s
  have hM : mkN (fun _ => 1) (dTakes s) = (dTakes s).length := mkN_one _
  obtain ⟨H1, q1, L1⟩ := L0.view (dead := []) (rest := []) (descRes_eq s ▸ c40 s w) (ds := [.str s]) (by simp only [optAll_cons, optAll_nil, readT_int, readT_str, readT_bool, readT_list9, Option.bind_some]) (by simp)
  rw [q1]; simp only [Option.bind_some, extract_tup, List.getElem?_cons_zero, List.getElem?_cons_succ]
  obtain ⟨d2, H2, B2, q2, P2⟩ := L1.own (descRes_eq s ▸ c39 s w) (by decide) (ds := [.str s]) (by simp only [optAll_cons, optAll_nil, readT_int, readT_str, readT_bool, readT_list9, Option.bind_some])
  rw [q2]; simp only [Option.bind_some]
  obtain ⟨d2_0, d2_1, d2_2, B2_0, B2_1, B2_2, e2, L2⟩ := P2.tup3
  subst e2
  obtain ⟨e2_1, f2_1⟩ := L2.val' (d := d2_1) (t := .str (dBack s)) (B := B2_1) (by simp) rfl; subst e2_1; subst f2_1
  obtain ⟨e2_2, f2_2⟩ := L2.val' (d := d2_2) (t := .bool (dOk s)) (B := B2_2) (by simp) rfl; subst e2_2; subst f2_2
  simp only [extract_tup, List.getElem?_cons_zero, List.getElem?_cons_succ, Option.bind_some]
  have r2 := L2.reads; simp only [Reads, and_true] at r2
  rw [pure_call (ds := [d2_0, .list (((dTakes s)).map rStr)]) (by simp only [optAll_cons, optAll_nil, r2, readT_int, readT_str, readT_bool, readT_list9, Option.bind_some]) (c41 ((dTakes s)) ((dTakes s)) (by omega))]
  simp only [Option.bind_some, unOp_not, asB_bool, decide_true, Bool.not_true, cond_false, cond_true]
  try simp only [bI_neq, bS_neq, bB_neq, beq_self_eq_true, decide_true, Bool.not_true, Option.bind_some, asB_bool, cond_false]
  try simp only [bI_neq, bS_neq, bB_neq, beq_self_eq_true, decide_true, Bool.not_true, Option.bind_some, asB_bool, cond_false]
  obtain ⟨H3, q3, L3⟩ := L2.mark (pre := []) (post := [((.str (dBack s)), .str (dBack s), []), ((.bool (dOk s)), .bool (dOk s), [])]) (xs := ((dTakes s))) (m42) (k := (1 : Int)) (by omega) (by omega)
  simp only [List.nil_append, List.cons_append] at L3
  rw [call_raw, q3]; simp only [Option.bind_some]
  have r3 := L3.reads; simp only [Reads, and_true] at r3
  rw [pure_call (ds := [d2_0, .int .i64 ((1 : Int))]) (by simp only [optAll_cons, optAll_nil, r3, readT_int, readT_str, readT_bool, readT_list9, Option.bind_some]) (h43 ((dTakes s)) ((1 : Int)) (by omega) (by omega))]; simp only [Option.bind_some]
  simp only [bI_lss, Option.bind_some, asB_bool, show ¬ (1 : Int) + ((mkN (fun _ => 1) ((dTakes s)) : Nat) : Int) < 0 by omega, decide_false, cond_false]
  try simp only [bI_neq, bS_neq, bB_neq, beq_self_eq_true, decide_true, Bool.not_true, Option.bind_some, asB_bool, cond_false]
  obtain ⟨d5, H5, B5, q5, P5⟩ := L3.own (descRes_eq s ▸ c39 s w) (by decide) (ds := [.str s]) (by simp only [optAll_cons, optAll_nil, r3, readT_int, readT_str, readT_bool, readT_list9, Option.bind_some])
  rw [q5]; simp only [Option.bind_some]
  obtain ⟨d5_0, d5_1, d5_2, B5_0, B5_1, B5_2, e5, L5⟩ := P5.tup3
  subst e5
  obtain ⟨e5_1, f5_1⟩ := L5.val' (d := d5_1) (t := .str (dBack s)) (B := B5_1) (by simp) rfl; subst e5_1; subst f5_1
  obtain ⟨e5_2, f5_2⟩ := L5.val' (d := d5_2) (t := .bool (dOk s)) (B := B5_2) (by simp) rfl; subst e5_2; subst f5_2
  simp only [extract_tup, List.getElem?_cons_zero, List.getElem?_cons_succ, Option.bind_some]
  have r5 := L5.reads; simp only [Reads, and_true] at r5
  rw [pure_call (ds := [d5_0, .list (((dTakes s)).map rStr)]) (by simp only [optAll_cons, optAll_nil, r5, readT_int, readT_str, readT_bool, readT_list9, Option.bind_some]) (c41 ((dTakes s)) ((dTakes s)) (by omega))]
  simp only [Option.bind_some, unOp_not, asB_bool, decide_true, Bool.not_true, cond_false, cond_true]
  try simp only [bI_neq, bS_neq, bB_neq, beq_self_eq_true, decide_true, Bool.not_true, Option.bind_some, asB_bool, cond_false]
  try simp only [bI_neq, bS_neq, bB_neq, beq_self_eq_true, decide_true, Bool.not_true, Option.bind_some, asB_bool, cond_false]
  rw [pure_call (ds := [d2_0, .int .i64 ((1 : Int))]) (by simp only [optAll_cons, optAll_nil, r5, readT_int, readT_str, readT_bool, readT_list9, Option.bind_some]) (h43 ((dTakes s)) ((1 : Int)) (by omega) (by omega))]; simp only [Option.bind_some]
  simp only [bI_lss, Option.bind_some, asB_bool, show ¬ (1 : Int) + ((mkN (fun _ => 1) ((dTakes s)) : Nat) : Int) < 0 by omega, decide_false, cond_false]
  try simp only [bI_neq, bS_neq, bB_neq, beq_self_eq_true, decide_true, Bool.not_true, Option.bind_some, asB_bool, cond_false]
  simp only [ret_one, Option.bind_some, readT_bool]
theorem c14 (l : List SConst) (w : PoolOk l) : run E (exec E) true 14 [.list (l.map SConst.row)] = some (.bool true) := by
  rw [run_ent, e14]
  rw [pure_call (ds := [.list (l.map SConst.row), .int .i64 ((1048576 : Int))]) (by simp only [optAll_cons, optAll_nil, readT_int, readT_list9, Option.bind_some]) (c52 l ((1048576 : Int)) w (by omega) (by omega))]
  simp only [Option.bind_some, bI_lss, asB_bool]
  by_cases gsl : ¬ ((szL SConst.sz l : Nat) : Int) ≤ (1048576 : Int)
  · rw [szR_neg gsl]; simp
  have gsl := Decidable.not_not.mp gsl
  rw [szR_pos gsl]
  simp only [show ¬ (1048576 : Int) - ((szL SConst.sz l : Nat) : Int) < 0 by omega, decide_false, cond_false]
  have gnl := szL_len (n := 1048576) (f := SConst.sz) (l := l) (by omega)
  have L0 : Live [] [] := Live.nil []
  obtain ⟨d2, H2, B2, q2, L2⟩ := L0.own (c54 l (by omega)) (by decide) (ds := [.list (l.map SConst.row)]) (by simp only [optAll_cons, optAll_nil, readT_int, readT_str, readT_bool, readT_list9, Option.bind_some])
  rw [q2]; simp only [Option.bind_some]
  have r2 := L2.reads; simp only [Reads, and_true] at r2
  rw [pure_call (ds := [d2]) (by simp only [optAll_cons, optAll_nil, r2, readT_int, readT_str, readT_bool, readT_list9, Option.bind_some]) (c53 l w)]; simp only [Option.bind_some]
  obtain ⟨d4, H4, B4, q4, L4⟩ := L2.own (c54 l (by omega)) (by decide) (ds := [.list (l.map SConst.row)]) (by simp only [optAll_cons, optAll_nil, r2, readT_int, readT_str, readT_bool, readT_list9, Option.bind_some])
  rw [q4]; simp only [Option.bind_some]
  have r4 := L4.reads; simp only [Reads, and_true] at r4
  rw [pure_call (ds := [d4]) (by simp only [optAll_cons, optAll_nil, r4, readT_int, readT_str, readT_bool, readT_list9, Option.bind_some]) (c55 l w)]; simp only [Option.bind_some]
  try simp only [bI_neq, bS_neq, bB_neq, beq_self_eq_true, decide_true, Bool.not_true, Option.bind_some, asB_bool, cond_false]
  obtain ⟨d6, H6, B6, q6, L6⟩ := L4.own (c54 l (by omega)) (by decide) (ds := [.list (l.map SConst.row)]) (by simp only [optAll_cons, optAll_nil, r4, readT_int, readT_str, readT_bool, readT_list9, Option.bind_some])
  rw [q6]; simp only [Option.bind_some]
  have r6 := L6.reads; simp only [Reads, and_true] at r6
  rw [pure_call (ds := [d4, d6]) (by simp only [optAll_cons, optAll_nil, r6, readT_int, readT_str, readT_bool, readT_list9, Option.bind_some]) (c56 l l (by omega))]
  simp only [Option.bind_some, unOp_not, asB_bool, decide_true, Bool.not_true, cond_false, cond_true]
  simp only [ret_one, Option.bind_some, readT_bool]
theorem c12 (l : List SLoader) (k : Int) (n : List UInt8) (w : LoadersWf l) (wk : i64 k) (wn : n.length ≤ 140737488351232) : run E (exec E) true 12 [.list (l.map SLoader.row), .int .i64 k, .str n] = some (.bool true) := by
  rw [run_ent, e12]
  by_cases gln : (1048576 : Int) < n.length
  · simp [gln]
  simp only [lnS_str, Option.bind_some, bI_gtr, asB_bool, gln, decide_false, cond_false]
  rw [pure_call (ds := [.list (l.map SLoader.row), .int .i64 ((1048576 : Int))]) (by simp only [optAll_cons, optAll_nil, readT_int, readT_list9, Option.bind_some]) (c45 l ((1048576 : Int)) w (by omega) (by omega))]
  simp only [Option.bind_some, bI_lss, asB_bool]
  by_cases gsl : ¬ ((szL SLoader.sz l : Nat) : Int) ≤ (1048576 : Int)
  · rw [szR_neg gsl]; simp
  have gsl := Decidable.not_not.mp gsl
  rw [szR_pos gsl]
  simp only [show ¬ (1048576 : Int) - ((szL SLoader.sz l : Nat) : Int) < 0 by omega, decide_false, cond_false]
  have gnl := szL_len (n := 1048576) (f := SLoader.sz) (l := l) (by omega)
  have L0 : Live [] [] := Live.nil []
  have hfit : ∀ x ∈ l, x.fit := fun x hx => ⟨(w.2 x hx).1.1, (w.2 x hx).2.1.1⟩
  obtain ⟨d2, H2, B2, q2, L2⟩ := L0.own (c47 l (by omega)) (by decide) (ds := [.list (l.map SLoader.row)]) (by simp only [optAll_cons, optAll_nil, readT_int, readT_str, readT_bool, readT_list9, Option.bind_some])
  rw [q2]; simp only [Option.bind_some]
  have r2 := L2.reads; simp only [Reads, and_true] at r2
  rw [pure_call (ds := [d2, .int .i64 k, .str n]) (by simp only [optAll_cons, optAll_nil, r2, readT_int, readT_str, readT_bool, readT_list9, Option.bind_some]) (c46 l w k n wn)]; simp only [Option.bind_some]
  obtain ⟨d4, H4, B4, q4, L4⟩ := L2.own (c47 l (by omega)) (by decide) (ds := [.list (l.map SLoader.row)]) (by simp only [optAll_cons, optAll_nil, r2, readT_int, readT_str, readT_bool, readT_list9, Option.bind_some])
  rw [q4]; simp only [Option.bind_some]
  have r4 := L4.reads; simp only [Reads, and_true] at r4
  rw [pure_call (ds := [d4, .int .i64 k, .str n]) (by simp only [optAll_cons, optAll_nil, r4, readT_int, readT_str, readT_bool, readT_list9, Option.bind_some]) (c48 l w k n wn)]; simp only [Option.bind_some]
  try simp only [bI_neq, bS_neq, bB_neq, beq_self_eq_true, decide_true, Bool.not_true, Option.bind_some, asB_bool, cond_false]
  obtain ⟨d6, H6, B6, q6, L6⟩ := L4.own (c47 l (by omega)) (by decide) (ds := [.list (l.map SLoader.row)]) (by simp only [optAll_cons, optAll_nil, r4, readT_int, readT_str, readT_bool, readT_list9, Option.bind_some])
  rw [q6]; simp only [Option.bind_some]
  have r6 := L6.reads; simp only [Reads, and_true] at r6
  rw [pure_call (ds := [d4, d6]) (by simp only [optAll_cons, optAll_nil, r6, readT_int, readT_str, readT_bool, readT_list9, Option.bind_some]) (c49 l l ⟨by omega, hfit⟩ ⟨by omega, hfit⟩)]
  simp only [Option.bind_some, unOp_not, asB_bool, decide_true, Bool.not_true, cond_false, cond_true]
  simp only [ret_one, Option.bind_some, readT_bool]
theorem c13 (l : List SLoader) (k j : Int) (n : List UInt8) (w : LoadersWf l) (wk : i64 k) (wj : i64 j) (wn : n.length ≤ 140737488351232) : run E (exec E) true 13 [.list (l.map SLoader.row), .int .i64 k, .int .i64 j, .str n] = some (.bool true) := by
  rw [run_ent, e13]
  by_cases gln : (1048576 : Int) < n.length
  · simp [gln]
  simp only [lnS_str, Option.bind_some, bI_gtr, asB_bool, gln, decide_false, cond_false]
  rw [pure_call (ds := [.list (l.map SLoader.row), .int .i64 ((1048576 : Int))]) (by simp only [optAll_cons, optAll_nil, readT_int, readT_list9, Option.bind_some]) (c45 l ((1048576 : Int)) w (by omega) (by omega))]
  simp only [Option.bind_some, bI_lss, asB_bool]
  by_cases gsl : ¬ ((szL SLoader.sz l : Nat) : Int) ≤ (1048576 : Int)
  · rw [szR_neg gsl]; simp
  have gsl := Decidable.not_not.mp gsl
  rw [szR_pos gsl]
  simp only [show ¬ (1048576 : Int) - ((szL SLoader.sz l : Nat) : Int) < 0 by omega, decide_false, cond_false]
  have gnl := szL_len (n := 1048576) (f := SLoader.sz) (l := l) (by omega)
  have L0 : Live [] [] := Live.nil []
  have hfit : ∀ x ∈ l, x.fit := fun x hx => ⟨(w.2 x hx).1.1, (w.2 x hx).2.1.1⟩
  obtain ⟨d2, H2, B2, q2, L2⟩ := L0.own (c47 l (by omega)) (by decide) (ds := [.list (l.map SLoader.row)]) (by simp only [optAll_cons, optAll_nil, readT_int, readT_str, readT_bool, readT_list9, Option.bind_some])
  rw [q2]; simp only [Option.bind_some]
  have r2 := L2.reads; simp only [Reads, and_true] at r2
  rw [pure_call (ds := [d2, .int .i64 k, .int .i64 j, .str n]) (by simp only [optAll_cons, optAll_nil, r2, readT_int, readT_str, readT_bool, readT_list9, Option.bind_some]) (c50 l w k j n wn)]; simp only [Option.bind_some]
  obtain ⟨d4, H4, B4, q4, L4⟩ := L2.own (c47 l (by omega)) (by decide) (ds := [.list (l.map SLoader.row)]) (by simp only [optAll_cons, optAll_nil, r2, readT_int, readT_str, readT_bool, readT_list9, Option.bind_some])
  rw [q4]; simp only [Option.bind_some]
  have r4 := L4.reads; simp only [Reads, and_true] at r4
  rw [pure_call (ds := [d4, .int .i64 k, .int .i64 j, .str n]) (by simp only [optAll_cons, optAll_nil, r4, readT_int, readT_str, readT_bool, readT_list9, Option.bind_some]) (c51 l w k j n wn)]; simp only [Option.bind_some]
  try simp only [bI_neq, bS_neq, bB_neq, beq_self_eq_true, decide_true, Bool.not_true, Option.bind_some, asB_bool, cond_false]
  obtain ⟨d6, H6, B6, q6, L6⟩ := L4.own (c47 l (by omega)) (by decide) (ds := [.list (l.map SLoader.row)]) (by simp only [optAll_cons, optAll_nil, r4, readT_int, readT_str, readT_bool, readT_list9, Option.bind_some])
  rw [q6]; simp only [Option.bind_some]
  have r6 := L6.reads; simp only [Reads, and_true] at r6
  rw [pure_call (ds := [d4, d6]) (by simp only [optAll_cons, optAll_nil, r6, readT_int, readT_str, readT_bool, readT_list9, Option.bind_some]) (c49 l l ⟨by omega, hfit⟩ ⟨by omega, hfit⟩)]
  simp only [Option.bind_some, unOp_not, asB_bool, decide_true, Bool.not_true, cond_false, cond_true]
  simp only [ret_one, Option.bind_some, readT_bool]

end Go.Ev.Ytohkcloiokhglaa
