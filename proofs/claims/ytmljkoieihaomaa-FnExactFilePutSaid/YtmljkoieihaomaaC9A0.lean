/- Contracts. -/
import Derived.Test.YtmljkoieihaomaaC5A0
namespace Go.Ev.Ytmljkoieihaomaa
set_option linter.unusedVariables false
set_option linter.unusedSimpArgs false
open Go.Ev
theorem c5 (c : SClass) (w : c.wf) : run E (exec E) true 5 [c.d] = some (.bool true) := by
  rw [run_ent, e5]
  have L0 : Lv [] [] [] := Lv.nil []
  obtain ⟨H1, p1, q1, L1⟩ := L0.param c.row rfl
  rw [show D.cells c.d = c.row from rfl, q1]
  have l1_p1 : ld true 7 H1 (.ptr p1 0 0) = some (c.d) := L1.ld (.head _) (rfl)
  try simp only [l1_p1, Option.bind_some]
  rw [pure_call (ds := [c.d, .int .i64 ((1048576 : Int))]) (by simp only [optAll_cons, optAll_nil, readT_int, readT_list9, SClass.readD, Option.bind_some]) (c20 c ((1048576 : Int)) w (by omega) (by omega))]
  simp only [Option.bind_some, bI_lss, asB_bool]
  by_cases gsc : ¬ ((c.sz : Nat) : Int) ≤ (1048576 : Int)
  · rw [szR_neg gsc]; simp
  have gsc := Decidable.not_not.mp gsc
  rw [szR_pos gsc]
  simp only [show ¬ (1048576 : Int) - ((c.sz : Nat) : Int) < 0 by omega, decide_false, cond_false]
  have hfit : c.fit := by
    obtain ⟨⟨w1, -⟩, -, -, -, ⟨w2, -⟩, ⟨w3, -⟩, ⟨w4, w5⟩⟩ := w
    exact ⟨w1, w2, w3, w4, fun z hz => ⟨(w5 z hz).2.2.2.2.2.2.1.1, (w5 z hz).2.2.2.2.2.2.2.1, fun f hf => ⟨((w5 z hz).2.2.2.2.2.2.2.2 f hf).2.1.1, ((w5 z hz).2.2.2.2.2.2.2.2 f hf).2.2.1⟩⟩⟩
  have hM1 := pClass_le (w := pTwo') (ab := isAbs') (fun _ => rfl) c
  have hM1 : (pClass pTwo' isAbs' c).length ≤ 4611686018427387904 := by omega
  have hM2 := pClass_le (w := pTwo) (ab := isAbs) (fun _ => rfl) c
  have hM2 : (pClass pTwo isAbs c).length ≤ 4611686018427387904 := by omega
  try simp only [l1_p1, Option.bind_some]
  try simp only [l1_p1, Option.bind_some]
  obtain ⟨d3, H3, B3, q3, L3⟩ := L1.own (c22 c (by omega)) (by decide) (ds := [c.d]) (by simp only [optAll_cons, optAll_nil, readT_int, readT_str, readT_bool, readT_list9, SClass.readD, Option.bind_some])
  rw [q3]; simp only [Option.bind_some]
  have r3 := L3.reads; simp only [Reads, and_true] at r3
  have l3_p1 : ld true 7 H3 (.ptr p1 0 0) = some (c.d) := L3.ld (.head _) (rfl)
  try simp only [l3_p1, Option.bind_some]
  rw [pure_call (ds := [d3]) (by simp only [optAll_cons, optAll_nil, r3, readT_int, readT_str, readT_bool, readT_list9, SClass.readD, Option.bind_some]) (c21 c w hM1)]; simp only [Option.bind_some]
  try simp only [l3_p1, Option.bind_some]
  obtain ⟨d5, H5, B5, q5, L5⟩ := L3.own (c22 c (by omega)) (by decide) (ds := [c.d]) (by simp only [optAll_cons, optAll_nil, r3, readT_int, readT_str, readT_bool, readT_list9, SClass.readD, Option.bind_some])
  rw [q5]; simp only [Option.bind_some]
  have r5 := L5.reads; simp only [Reads, and_true] at r5
  have l5_p1 : ld true 7 H5 (.ptr p1 0 0) = some (c.d) := L5.ld (.head _) (rfl)
  try simp only [l5_p1, Option.bind_some]
  obtain ⟨cs6, rfl, n6, c6⟩ := L5.agg' (d := d5) (ts := c.row) (B := B5) (by simp)
  obtain ⟨H6, p6, q6, L6⟩ := L5.var [.sl0, .int .i64 0, .int .i64 0, .int .i64 0, .sl0, .sl0, .sl0] cs6 7 rfl rfl (n6.trans rfl) (c6 rfl)
  rw [q6]
  have r6 := L6.reads; simp only [Reads, and_true] at r6
  have l6_p1 : ld true 7 H6 (.ptr p1 0 0) = some (c.d) := L6.ld (.tail _ (.head _)) (rfl)
  have l6_p6 : ld true 7 H6 (.ptr p6 0 0) = some ((.agg cs6)) := L6.ld (.head _) (n6.trans rfl)
  try simp only [l6_p1, l6_p6, Option.bind_some]
  try simp only [l6_p1, l6_p6, Option.bind_some]
  rw [pure_call (ds := [(.agg cs6)]) (by simp only [optAll_cons, optAll_nil, r6, readT_int, readT_str, readT_bool, readT_list9, SClass.readD, Option.bind_some]) (c23 c w hM2)]; simp only [Option.bind_some]
  try simp only [l6_p1, l6_p6, Option.bind_some]
  try simp only [l6_p1, l6_p6, Option.bind_some]
  try simp only [bI_neq, bS_neq, bB_neq, beq_self_eq_true, decide_true, Bool.not_true, Option.bind_some, asB_bool, cond_false]
  try simp only [l6_p1, l6_p6, Option.bind_some]
  try simp only [l6_p1, l6_p6, Option.bind_some]
  obtain ⟨d8, H8, B8, q8, L8⟩ := L6.own (c22 c (by omega)) (by decide) (ds := [c.d]) (by simp only [optAll_cons, optAll_nil, r6, readT_int, readT_str, readT_bool, readT_list9, SClass.readD, Option.bind_some])
  rw [q8]; simp only [Option.bind_some]
  have r8 := L8.reads; simp only [Reads, and_true] at r8
  have l8_p1 : ld true 7 H8 (.ptr p1 0 0) = some (c.d) := L8.ld (.tail _ (.head _)) (rfl)
  have l8_p6 : ld true 7 H8 (.ptr p6 0 0) = some ((.agg cs6)) := L8.ld (.head _) (n6.trans rfl)
  try simp only [l8_p1, l8_p6, Option.bind_some]
  rw [pure_call (ds := [(.agg cs6), d8]) (by simp only [optAll_cons, optAll_nil, r8, readT_int, readT_str, readT_bool, readT_list9, SClass.readD, Option.bind_some]) (c17 c c (hfit) (hfit))]
  simp only [Option.bind_some, unOp_not, asB_bool, decide_true, Bool.not_true, cond_false, cond_true]
  try simp only [l8_p1, l8_p6, Option.bind_some]
  simp only [ret_one, Option.bind_some, readT_bool]
end Go.Ev.Ytmljkoieihaomaa
