/- Contracts. -/
import Derived.Test.YtmljkoieihaomaaC4A0
namespace Go.Ev.Ytmljkoieihaomaa
set_option linter.unusedVariables false
set_option linter.unusedSimpArgs false
open Go.Ev
theorem c3 (l : List SLoader) (k : Int) (n : List UInt8) (w : LoadersWf l) (wk : i64 k) (wn : n.length ≤ 140737488351232) : run E (exec E) true 3 [.list (l.map SLoader.row), .int .i64 k, .str n] = some (.bool true) := by
  rw [run_ent, e3]
  by_cases gln : (1048576 : Int) < n.length
  · simp [gln]
  simp only [lnS_str, Option.bind_some, bI_gtr, asB_bool, gln, decide_false, cond_false]
  rw [pure_call (ds := [.list (l.map SLoader.row), .int .i64 ((1048576 : Int))]) (by simp only [optAll_cons, optAll_nil, readT_int, readT_list9, Option.bind_some]) (c6 l ((1048576 : Int)) w (by omega) (by omega))]
  simp only [Option.bind_some, bI_lss, asB_bool]
  by_cases gsl : ¬ ((szL SLoader.sz l : Nat) : Int) ≤ (1048576 : Int)
  · rw [szR_neg gsl]; simp
  have gsl := Decidable.not_not.mp gsl
  rw [szR_pos gsl]
  simp only [show ¬ (1048576 : Int) - ((szL SLoader.sz l : Nat) : Int) < 0 by omega, decide_false, cond_false]
  have gnl := szL_len (n := 1048576) (f := SLoader.sz) (l := l) (by omega)
  have L0 : Live [] [] := Live.nil []
  have hfit : ∀ x ∈ l, x.fit := fun x hx => ⟨(w.2 x hx).1.1, (w.2 x hx).2.1.1⟩
  have hf := pathOf_len (list := l) (loader := k) (n := n)
  have hM : mkN (fun _ => 1) (pathOfM l k n) = (pathOfM l k n).length := mkN_one _
  obtain ⟨d2, H2, B2, q2, L2⟩ := L0.own (c8 l (by omega)) (by decide) (ds := [.list (l.map SLoader.row)]) (by simp only [optAll_cons, optAll_nil, readT_int, readT_str, readT_bool, readT_list9, Option.bind_some])
  rw [q2]; simp only [Option.bind_some]
  have r2 := L2.reads; simp only [Reads, and_true] at r2
  obtain ⟨H3, q3, L3⟩ := L2.view (dead := [(d2, .list (l.map SLoader.row), B2)]) (rest := []) (c7 l w k n wn) (ds := [d2, .int .i64 k, .str n]) (by simp only [optAll_cons, optAll_nil, r2, readT_int, readT_str, readT_bool, readT_list9, Option.bind_some]) (by simp)
  rw [q3]; simp only [Option.bind_some]
  obtain ⟨d5, H5, B5, q5, L5⟩ := L3.own (c8 l (by omega)) (by decide) (ds := [.list (l.map SLoader.row)]) (by simp only [optAll_cons, optAll_nil, readT_int, readT_str, readT_bool, readT_list9, Option.bind_some])
  rw [q5]; simp only [Option.bind_some]
  have r5 := L5.reads; simp only [Reads, and_true] at r5
  obtain ⟨d6, H6, B6, q6, L6⟩ := L5.own (c9 l w k n wn) (by decide) (ds := [d5, .int .i64 k, .str n]) (by simp only [optAll_cons, optAll_nil, r5, readT_int, readT_str, readT_bool, readT_list9, Option.bind_some])
  rw [q6]; simp only [Option.bind_some]
  have r6 := L6.reads; simp only [Reads, and_true] at r6
  rw [pure_call (ds := [d6, .list (((pathOfM l k n)).map rInt)]) (by simp only [optAll_cons, optAll_nil, r6, readT_int, readT_str, readT_bool, readT_list9, Option.bind_some]) (c10 ((pathOfM l k n)) ((pathOfM l k n)) (by omega))]
  simp only [Option.bind_some, unOp_not, asB_bool, decide_true, Bool.not_true, cond_false, cond_true]
  obtain ⟨d8, H8, B8, q8, L8⟩ := L6.own (c8 l (by omega)) (by decide) (ds := [.list (l.map SLoader.row)]) (by simp only [optAll_cons, optAll_nil, r6, readT_int, readT_str, readT_bool, readT_list9, Option.bind_some])
  rw [q8]; simp only [Option.bind_some]
  have r8 := L8.reads; simp only [Reads, and_true] at r8
  rw [pure_call (ds := [d5, d8]) (by simp only [optAll_cons, optAll_nil, r8, readT_int, readT_str, readT_bool, readT_list9, Option.bind_some]) (c11 l l ⟨by omega, hfit⟩ ⟨by omega, hfit⟩)]
  simp only [Option.bind_some, unOp_not, asB_bool, decide_true, Bool.not_true, cond_false, cond_true]
  have hb9 := mkN_le (n := SLoader.marks) (f := SLoader.sz) (fun z => SLoader.marks_le z) l
  obtain ⟨H9, q9, L9⟩ := L8.mark (pre := [(d8, .list (l.map SLoader.row), B8), (d6, .list (((pathOfM l k n)).map rInt), B6)]) (post := []) (xs := l) (m12) (k := (1 : Int)) (by omega) (by omega)
  simp only [List.nil_append, List.cons_append] at L9
  rw [call_raw, q9]; simp only [Option.bind_some]
  have r9 := L9.reads; simp only [Reads, and_true] at r9
  simp only [bI_lss, Option.bind_some, asB_bool, show ¬ (1 : Int) + ((mkN SLoader.marks l : Nat) : Int) < 0 by omega, decide_false, cond_false]
  rw [pure_call (ds := [d6, .list (((pathOfM l k n)).map rInt)]) (by simp only [optAll_cons, optAll_nil, r9, readT_int, readT_str, readT_bool, readT_list9, Option.bind_some]) (c10 ((pathOfM l k n)) ((pathOfM l k n)) (by omega))]
  simp only [Option.bind_some, unOp_not, asB_bool, decide_true, Bool.not_true, cond_false, cond_true]
  obtain ⟨H10, q10, L10⟩ := L9.mark (pre := [(d8, .list (l.map SLoader.row), B8)]) (post := [(d5, .list ((mkL SLoader.mark SLoader.marks ((1 : Int)) l).map SLoader.row), B5)]) (xs := ((pathOfM l k n))) (m13) (k := (1 : Int)) (by omega) (by omega)
  simp only [List.nil_append, List.cons_append] at L10
  rw [call_raw, q10]; simp only [Option.bind_some]
  have r10 := L10.reads; simp only [Reads, and_true] at r10
  rw [pure_call (ds := [d6, .int .i64 ((1 : Int))]) (by simp only [optAll_cons, optAll_nil, r10, readT_int, readT_str, readT_bool, readT_list9, Option.bind_some]) (h14 ((pathOfM l k n)) ((1 : Int)) (by omega) (by omega))]; simp only [Option.bind_some]
  simp only [bI_lss, Option.bind_some, asB_bool, show ¬ (1 : Int) + ((mkN (fun _ => 1) ((pathOfM l k n)) : Nat) : Int) < 0 by omega, decide_false, cond_false]
  try simp only [bI_neq, bS_neq, bB_neq, beq_self_eq_true, decide_true, Bool.not_true, Option.bind_some, asB_bool, cond_false]
  obtain ⟨d13, H13, B13, q13, L13⟩ := L10.own (c8 l (by omega)) (by decide) (ds := [.list (l.map SLoader.row)]) (by simp only [optAll_cons, optAll_nil, r10, readT_int, readT_str, readT_bool, readT_list9, Option.bind_some])
  rw [q13]; simp only [Option.bind_some]
  have r13 := L13.reads; simp only [Reads, and_true] at r13
  obtain ⟨d14, H14, B14, q14, L14⟩ := L13.own (c9 l w k n wn) (by decide) (ds := [d13, .int .i64 k, .str n]) (by simp only [optAll_cons, optAll_nil, r13, readT_int, readT_str, readT_bool, readT_list9, Option.bind_some])
  rw [q14]; simp only [Option.bind_some]
  have r14 := L14.reads; simp only [Reads, and_true] at r14
  rw [pure_call (ds := [d14, .list (((pathOfM l k n)).map rInt)]) (by simp only [optAll_cons, optAll_nil, r14, readT_int, readT_str, readT_bool, readT_list9, Option.bind_some]) (c10 ((pathOfM l k n)) ((pathOfM l k n)) (by omega))]
  simp only [Option.bind_some, unOp_not, asB_bool, decide_true, Bool.not_true, cond_false, cond_true]
  rw [pure_call (ds := [d6, .int .i64 ((1 : Int))]) (by simp only [optAll_cons, optAll_nil, r14, readT_int, readT_str, readT_bool, readT_list9, Option.bind_some]) (h14 ((pathOfM l k n)) ((1 : Int)) (by omega) (by omega))]; simp only [Option.bind_some]
  simp only [bI_lss, Option.bind_some, asB_bool, show ¬ (1 : Int) + ((mkN (fun _ => 1) ((pathOfM l k n)) : Nat) : Int) < 0 by omega, decide_false, cond_false]
  try simp only [bI_neq, bS_neq, bB_neq, beq_self_eq_true, decide_true, Bool.not_true, Option.bind_some, asB_bool, cond_false]
  simp only [ret_one, Option.bind_some, readT_bool]

end Go.Ev.Ytmljkoieihaomaa
