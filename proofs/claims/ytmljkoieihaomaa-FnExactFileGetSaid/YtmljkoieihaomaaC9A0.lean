/- Contracts. -/
import Derived.Test.YtmljkoieihaomaaC5A0
namespace Go.Ev.Ytmljkoieihaomaa
set_option linter.unusedVariables false
set_option linter.unusedSimpArgs false
open Go.Ev
theorem c4 (s : List UInt8) (w : s.length ≤ 140737488351232) : run E (exec E) true 4 [.str s] = some (.bool true) := by
  rw [run_ent, e4]
  have L0 : Lv [] [] [] := Lv.nil []
  by_cases gls : (1048576 : Int) < s.length
  · simp [gls]
  simp only [lnS_str, Option.bind_some, bI_gtr, asB_bool, gls, decide_false, cond_false]
  have hr := fileRes_fit s
  have hsz := hr.2
  obtain ⟨H1, q1, L1⟩ := L0.view (dead := []) (rest := []) (t15 s) (ds := [.str s]) (by simp only [optAll_cons, optAll_nil, readT_int, readT_str, readT_bool, readT_list9, SClass.readD, Option.bind_some]) (by simp)
  rw [q1]; simp only [Option.bind_some, extract_tup, List.getElem?_cons_zero, List.getElem?_cons_succ]
  obtain ⟨H2, p2, q2, L2⟩ := L1.var [.sl0, .int .i64 0, .int .i64 0, .int .i64 0, .sl0, .sl0, .sl0] (((fileGet s).getD {}).row) 7 rfl rfl rfl rfl
  rw [q2]
  have l2_p2 : ld true 7 H2 (.ptr p2 0 0) = some (((fileGet s).getD {}).d) := L2.ld (.head _) (rfl)
  try simp only [l2_p2, Option.bind_some]
  try simp only [l2_p2, Option.bind_some]
  obtain ⟨d3, H3, B3, q3, P3⟩ := L2.own (t16 s) (by decide) (ds := [.str s]) (by simp only [optAll_cons, optAll_nil, readT_int, readT_str, readT_bool, readT_list9, SClass.readD, Option.bind_some])
  rw [q3]; simp only [Option.bind_some]
  obtain ⟨d3_0, d3_1, B3_0, B3_1, e3, L3⟩ := P3.tup2
  subst e3
  obtain ⟨e3_1, f3_1⟩ := L3.val' (d := d3_1) (t := .bool (fileGet s).isSome) (B := B3_1) (by simp) rfl; subst e3_1; subst f3_1
  simp only [extract_tup, List.getElem?_cons_zero, List.getElem?_cons_succ, Option.bind_some]
  have r3 := L3.reads; simp only [Reads, and_true] at r3
  have l3_p2 : ld true 7 H3 (.ptr p2 0 0) = some (((fileGet s).getD {}).d) := L3.ld (.head _) (rfl)
  try simp only [l3_p2, Option.bind_some]
  obtain ⟨cs4, rfl, n4, c4⟩ := L3.agg' (d := d3_0) (ts := ((fileGet s).getD {}).row) (B := B3_0) (by simp)
  obtain ⟨H4, p4, q4, L4⟩ := L3.var [.sl0, .int .i64 0, .int .i64 0, .int .i64 0, .sl0, .sl0, .sl0] cs4 7 rfl rfl (n4.trans rfl) (c4 rfl)
  rw [q4]
  have r4 := L4.reads; simp only [Reads, and_true] at r4
  have l4_p2 : ld true 7 H4 (.ptr p2 0 0) = some (((fileGet s).getD {}).d) := L4.ld (.tail _ (.head _)) (rfl)
  have l4_p4 : ld true 7 H4 (.ptr p4 0 0) = some ((.agg cs4)) := L4.ld (.head _) (n4.trans rfl)
  try simp only [l4_p2, l4_p4, Option.bind_some]
  try simp only [l4_p2, l4_p4, Option.bind_some]
  try simp only [l4_p2, l4_p4, Option.bind_some]
  rw [pure_call (ds := [(.agg cs4), ((fileGet s).getD {}).d]) (by simp only [optAll_cons, optAll_nil, r4, readT_int, readT_str, readT_bool, readT_list9, SClass.readD, Option.bind_some]) (c17 ((fileGet s).getD {}) ((fileGet s).getD {}) (hr.1) (hr.1))]
  simp only [Option.bind_some, unOp_not, asB_bool, decide_true, Bool.not_true, cond_false, cond_true]
  try simp only [l4_p2, l4_p4, Option.bind_some]
  try simp only [bI_neq, bS_neq, bB_neq, beq_self_eq_true, decide_true, Bool.not_true, Option.bind_some, asB_bool, cond_false]
  try simp only [l4_p2, l4_p4, Option.bind_some]
  try simp only [l4_p2, l4_p4, Option.bind_some]
  have hb5 := SClass.vmarks_le ((fileGet s).getD {})
  obtain ⟨H5, q5, L5⟩ := L4.markv (pre := []) (post := [((.bool (fileGet s).isSome), .bool (fileGet s).isSome, [])]) (x := ((fileGet s).getD {})) (v18) (k := (1 : Int)) (by omega) (by omega)
  simp only [List.nil_append, List.cons_append] at L5
  rw [call_raw, q5]; simp only [Option.bind_some]
  have r5 := L5.reads; simp only [Reads, and_true] at r5
  have l5_p2 : ld true 7 H5 (.ptr p2 0 0) = some (((fileGet s).getD {}).d) := L5.ld (.tail _ (.head _)) (rfl)
  have l5_p4 : ld true 7 H5 (.ptr p4 0 0) = some ((.agg cs4)) := L5.ld (.head _) (n4.trans rfl)
  try simp only [l5_p2, l5_p4, Option.bind_some]
  try simp only [l5_p2, l5_p4, Option.bind_some]
  try simp only [l5_p2, l5_p4, Option.bind_some]
  rw [pure_call (ds := [(.agg cs4), .int .i64 ((1 : Int))]) (by simp only [optAll_cons, optAll_nil, r5, readT_int, readT_str, readT_bool, readT_list9, SClass.readD, Option.bind_some]) (h19 ((fileGet s).getD {}) ((1 : Int)) (by omega) (by omega))]; simp only [Option.bind_some]
  try simp only [l5_p2, l5_p4, Option.bind_some]
  try simp only [l5_p2, l5_p4, Option.bind_some]
  try simp only [l5_p2, l5_p4, Option.bind_some]
  simp only [bI_lss, Option.bind_some, asB_bool, show ¬ (1 : Int) + ((SClass.vmarks ((fileGet s).getD {}) : Nat) : Int) < 0 by omega, decide_false, cond_false]
  try simp only [l5_p2, l5_p4, Option.bind_some]
  try simp only [l5_p2, l5_p4, Option.bind_some]
  try simp only [bI_neq, bS_neq, bB_neq, beq_self_eq_true, decide_true, Bool.not_true, Option.bind_some, asB_bool, cond_false]
  try simp only [l5_p2, l5_p4, Option.bind_some]
  obtain ⟨d7, H7, B7, q7, P7⟩ := L5.own (t16 s) (by decide) (ds := [.str s]) (by simp only [optAll_cons, optAll_nil, r5, readT_int, readT_str, readT_bool, readT_list9, SClass.readD, Option.bind_some])
  rw [q7]; simp only [Option.bind_some]
  obtain ⟨d7_0, d7_1, B7_0, B7_1, e7, L7⟩ := P7.tup2
  subst e7
  obtain ⟨e7_1, f7_1⟩ := L7.val' (d := d7_1) (t := .bool (fileGet s).isSome) (B := B7_1) (by simp) rfl; subst e7_1; subst f7_1
  simp only [extract_tup, List.getElem?_cons_zero, List.getElem?_cons_succ, Option.bind_some]
  have r7 := L7.reads; simp only [Reads, and_true] at r7
  have l7_p2 : ld true 7 H7 (.ptr p2 0 0) = some (((fileGet s).getD {}).d) := L7.ld (.tail _ (.head _)) (rfl)
  have l7_p4 : ld true 7 H7 (.ptr p4 0 0) = some ((.agg cs4)) := L7.ld (.head _) (n4.trans rfl)
  try simp only [l7_p2, l7_p4, Option.bind_some]
  obtain ⟨cs8, rfl, n8, c8⟩ := L7.agg' (d := d7_0) (ts := ((fileGet s).getD {}).row) (B := B7_0) (by simp)
  obtain ⟨H8, p8, q8, L8⟩ := L7.var [.sl0, .int .i64 0, .int .i64 0, .int .i64 0, .sl0, .sl0, .sl0] cs8 7 rfl rfl (n8.trans rfl) (c8 rfl)
  rw [q8]
  have r8 := L8.reads; simp only [Reads, and_true] at r8
  have l8_p2 : ld true 7 H8 (.ptr p2 0 0) = some (((fileGet s).getD {}).d) := L8.ld (.tail _ (.tail _ (.head _))) (rfl)
  have l8_p4 : ld true 7 H8 (.ptr p4 0 0) = some ((.agg cs4)) := L8.ld (.tail _ (.head _)) (n4.trans rfl)
  have l8_p8 : ld true 7 H8 (.ptr p8 0 0) = some ((.agg cs8)) := L8.ld (.head _) (n8.trans rfl)
  try simp only [l8_p2, l8_p4, l8_p8, Option.bind_some]
  try simp only [l8_p2, l8_p4, l8_p8, Option.bind_some]
  try simp only [l8_p2, l8_p4, l8_p8, Option.bind_some]
  rw [pure_call (ds := [(.agg cs8), ((fileGet s).getD {}).d]) (by simp only [optAll_cons, optAll_nil, r8, readT_int, readT_str, readT_bool, readT_list9, SClass.readD, Option.bind_some]) (c17 ((fileGet s).getD {}) ((fileGet s).getD {}) (hr.1) (hr.1))]
  simp only [Option.bind_some, unOp_not, asB_bool, decide_true, Bool.not_true, cond_false, cond_true]
  try simp only [l8_p2, l8_p4, l8_p8, Option.bind_some]
  try simp only [bI_neq, bS_neq, bB_neq, beq_self_eq_true, decide_true, Bool.not_true, Option.bind_some, asB_bool, cond_false]
  try simp only [l8_p2, l8_p4, l8_p8, Option.bind_some]
  try simp only [l8_p2, l8_p4, l8_p8, Option.bind_some]
  rw [pure_call (ds := [(.agg cs4), .int .i64 ((1 : Int))]) (by simp only [optAll_cons, optAll_nil, r8, readT_int, readT_str, readT_bool, readT_list9, SClass.readD, Option.bind_some]) (h19 ((fileGet s).getD {}) ((1 : Int)) (by omega) (by omega))]; simp only [Option.bind_some]
  try simp only [l8_p2, l8_p4, l8_p8, Option.bind_some]
  try simp only [l8_p2, l8_p4, l8_p8, Option.bind_some]
  try simp only [l8_p2, l8_p4, l8_p8, Option.bind_some]
  simp only [bI_lss, Option.bind_some, asB_bool, show ¬ (1 : Int) + ((SClass.vmarks ((fileGet s).getD {}) : Nat) : Int) < 0 by omega, decide_false, cond_false]
  try simp only [l8_p2, l8_p4, l8_p8, Option.bind_some]
  try simp only [l8_p2, l8_p4, l8_p8, Option.bind_some]
  try simp only [bI_neq, bS_neq, bB_neq, beq_self_eq_true, decide_true, Bool.not_true, Option.bind_some, asB_bool, cond_false]
  try simp only [l8_p2, l8_p4, l8_p8, Option.bind_some]
  simp only [ret_one, Option.bind_some, readT_bool]

end Go.Ev.Ytmljkoieihaomaa
