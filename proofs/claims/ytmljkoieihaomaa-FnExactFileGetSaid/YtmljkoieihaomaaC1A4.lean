/- Contracts. -/
import Derived.Test.YtmljkoieihaomaaC1A3
namespace Go.Ev.Ytmljkoieihaomaa
set_option linter.unusedVariables false
set_option linter.unusedSimpArgs false
open Go.Ev
theorem cBS_one (H : Heap) (c : UInt8) (K : Heap) (b : Nat) (h : getBlk H b = some [[.int .u8 c.toNat]]) : cBS H (.sl b 0 1) = some (.str [c], H) := by
  simp [cBS, srcRows, h, rowsFit, optAll, byteOf]
theorem j82_4c : ∀ (f : Nat) (k : Int) (out : List UInt8) (H : Heap), k.toNat < f → 0 ≤ k → k ≤ 1152921504606846977 → out.length + k.toNat ≤ 1152921504606846977 → ∃ H', J E 82 4 [.int .i64 k, .str out] H = some (.str (109 :: mdig f k.toNat out), H')
  | 0, k, out, H, hf, h0, h1, h2 => by omega
  | f + 1, k, out, H, hf, h0, h1, h2 => by
    rw [j82_4]
    by_cases hk : 0 < k
    · have e1 : k.tmod 10 = k % 10 := Int.tmod_eq_emod_of_nonneg h0
      have e2 : k.tdiv 10 = k / 10 := Int.tdiv_eq_ediv_of_nonneg h0
      have e3 : (k % 10) = ((k.toNat % 10 : Nat) : Int) := by omega
      have e4 : (k / 10).toNat = k.toNat / 10 := by omega
      simp only [bI_gtr, Option.bind_some, asB_bool, hk, decide_true, cond_true, bI_rem _ _ _ (show (10 : Int) ≠ 0 by decide), bI_quo _ _ _ (show (10 : Int) ≠ 0 by decide), bI_add, e1, e2, cI_int]
      have e5 : IntKind.wrap .u8 (IntKind.wrap .i64 (48 + k % 10)) = ((UInt8.ofNat (48 + k.toNat % 10)).toNat : Int) := by
        rw [wrap_i64 (by omega) (by omega), e3]
        have : (48 + k.toNat % 10) % 256 = 48 + k.toNat % 10 := by omega
        simp [IntKind.wrap, IntKind.signed, IntKind.bits, this]
        omega
      rw [e5, bsl_one (esz := 1) (by omega) rfl rfl rfl]
      simp only [Option.bind_some, D.cells]
      rw [cBS_one _ (UInt8.ofNat (48 + k.toNat % 10)) H H.length (by simp)]
      simp only [Option.bind_some]
      rw [bS_add _ _ (by simp; omega), wrap_i64 (n := k / 10) (by omega) (by omega)]
      simp only [Option.bind_some]
      obtain ⟨H', h⟩ := j82_4c f (k / 10) (UInt8.ofNat (48 + k.toNat % 10) :: out) (H ++ [some [[.int .u8 (UInt8.ofNat (48 + k.toNat % 10)).toNat]]]) (by omega) (by omega) (by omega) (by simp; omega)
      refine ⟨H', ?_⟩
      rw [show [UInt8.ofNat (48 + k.toNat % 10)] ++ out = UInt8.ofNat (48 + k.toNat % 10) :: out from rfl, h, e4, mdig, if_neg (by omega)]
    · have : k = 0 := by omega
      subst this
      refine ⟨H, ?_⟩
      simp only [bI_gtr, Option.bind_some, asB_bool, Int.lt_irrefl, decide_false, cond_false]
      rw [bS_add _ _ (by simp; omega)]
      simp [mdig]
theorem c82 (k : Int) (h : k ≤ 1152921504606846977) : run E (exec E) false 82 [.int .i64 k] = some (.str (mtext k)) := by
  rw [run_ent, e82]
  by_cases hk : k ≤ 0
  · simp [hk, mtext]
  · obtain ⟨H', h⟩ := j82_4c (k.toNat + 1) k [] [] (by omega) (by omega) h (by simp; omega)
    simp only [bI_leq, Option.bind_some, asB_bool, hk, decide_false, cond_false, h, mtext, if_false, readT_str]

theorem m13 : MarkC E 13 rInt (fun k _ => k) (fun _ => 1) := by
  refine mark_loop (fun x => Nat.le_refl 1) (fun H d k => by rw [e13]) (fun H k => by rw [j13_2]; simp) (fun H b N k => by rw [j13_2]; simp) fun lv H b N pre cs post B x k hN hNN m0 h0 h1 => ?_
  have hlt : ((pre.length : Nat) : Int) < (N : Int) := by omega
  rw [j13_2]
  simp only [lnL_sl, Option.bind_some, bI_lss, asB_bool, hlt, decide_true, cond_true]
  rw [m0.ia (esz := 1) hN rfl]; simp only [fa_ptr, Nat.zero_add, Option.bind_some]
  obtain ⟨H1, c1, q0, m1⟩ := m0.set (f := 0) (v := .int .i64 (k)) rfl rfl rfl rfl
  rw [q0]; simp only [Option.bind_some, bI_add]; rw [wrap_i64 (n := k + 1) (by omega) (by omega)]
  try simp only [bI_add]
  rw [wrap_i64 (n := ((pre.length : Nat) : Int) + 1) (by omega) (by omega)]; try simp only [Option.bind_some]
  refine ⟨H1, c1, ?_, m1⟩
  have hk : k + 1 = k + ((1 : Nat) : Int) := by simp
  rfl
theorem h14 : HeldC E 14 rInt (fun k _ => k) (fun _ => 1) := by
  refine held_loop (fun x => Nat.le_refl 1) (fun H d k => by rw [e14]) (fun H rows k => by rw [j14_2]; simp) fun l0 i x k hi hx hn h0 h1 => ?_
  have hlt : ((i : Nat) : Int) < (l0.length : Int) := by omega
  rw [j14_2]
  rw [Ev.ia_list (n := (i : Int)) (by omega) (by simpa using hi) (by simp [rInt, rStr])]
  simp only [lnL_list, List.length_map, Option.bind_some, bI_lss, asB_bool, hlt, decide_true, cond_true, Int.toNat_natCast, List.getElem_map, hx, fa_el, ld_el, Nat.zero_add]
  simp only [rInt, rStr]
  rw [show part [.int .i64 (k)] (0, 1, false) = some (.int .i64 (k)) from rfl]; simp only [Option.bind_some]
  simp only [bI_neq, decide_true, Bool.not_true, Option.bind_some, asB_bool, cond_false, bI_add]
  rw [wrap_i64 (n := k + 1) (by omega) (by omega)]; try simp only [Option.bind_some]
  try simp only [bI_add]
  rw [wrap_i64 (n := ((i : Nat) : Int) + 1) (by omega) (by omega)]; try simp only [Option.bind_some]
  have hk : k + 1 = k + ((1 : Nat) : Int) := by simp
  rfl
theorem m43 : MarkC E 43 SConst.row SConst.mark SConst.marks := by
  refine mark_loop (fun x => by simp only [SConst.marks]; omega) (fun H d k => by rw [e43]) (fun H k => by rw [j43_2]; simp) (fun H b N k => by rw [j43_2]; simp) fun lv H b N pre cs post B x k hN hNN m0 h0 h1 => ?_
  simp only [SConst.marks] at h1
  have hlt : ((pre.length : Nat) : Int) < (N : Int) := by omega
  rw [j43_2]
  simp only [lnL_sl, Option.bind_some, bI_lss, asB_bool, hlt, decide_true, cond_true]
  rw [m0.ia (esz := 4) hN rfl]; simp only [fa_ptr, Nat.zero_add, Option.bind_some]
  obtain ⟨H1, c1, q0, m1⟩ := m0.set (f := 0) (v := .int .i64 (k)) rfl rfl rfl rfl
  rw [q0]; simp only [Option.bind_some, bI_add]; rw [wrap_i64 (n := k + 1) (by omega) (by omega)]
  try simp only [call_pure, optAll_cons, optAll_nil, readT_int, Option.bind_some]
  rw [c82 _ (by omega)]; simp only [Option.bind_some]
  rw [m1.ia (esz := 4) hN rfl]; simp only [fa_ptr, Nat.zero_add, Option.bind_some]
  obtain ⟨H2, c2, q1, m2⟩ := m1.set (f := 1) (v := .str (mtext (k + 1))) rfl rfl rfl rfl
  rw [q1]; simp only [Option.bind_some, bI_add]; rw [wrap_i64 (n := k + 1 + 1) (by omega) (by omega)]
  rw [m2.ia (esz := 4) hN rfl]; simp only [fa_ptr, Nat.zero_add, Option.bind_some]
  obtain ⟨H3, c3, q2, m3⟩ := m2.set (f := 2) (v := .int .i64 (k + 1 + 1)) rfl rfl rfl rfl
  rw [q2]; simp only [Option.bind_some, bI_add]; rw [wrap_i64 (n := k + 1 + 1 + 1) (by omega) (by omega)]
  rw [m3.ia (esz := 4) hN rfl]; simp only [fa_ptr, Nat.zero_add, Option.bind_some]
  obtain ⟨H4, c4, q3, m4⟩ := m3.set (f := 3) (v := .int .i64 (k + 1 + 1 + 1)) rfl rfl rfl rfl
  rw [q3]; simp only [Option.bind_some, bI_add]; rw [wrap_i64 (n := k + 1 + 1 + 1 + 1) (by omega) (by omega)]
  try simp only [bI_add]
  rw [wrap_i64 (n := ((pre.length : Nat) : Int) + 1) (by omega) (by omega)]; try simp only [Option.bind_some]
  refine ⟨H4, c4, ?_, m4⟩
  have hk : k + 1 + 1 + 1 + 1 = k + ((SConst.marks x : Nat) : Int) := by simp only [SConst.marks]; omega
  first | rw [hk] | rfl
  rfl
theorem h46 : HeldC E 46 SConst.row SConst.mark SConst.marks := by
  refine held_loop (fun x => by simp only [SConst.marks]; omega) (fun H d k => by rw [e46]) (fun H rows k => by rw [j46_2]; simp) fun l0 i x k hi hx hn h0 h1 => ?_
  simp only [SConst.marks] at h1
  have hlt : ((i : Nat) : Int) < (l0.length : Int) := by omega
  rw [j46_2]
  rw [Ev.ia_list (n := (i : Int)) (by omega) (by simpa using hi) (by simp [rInt, rStr])]
  simp only [lnL_list, List.length_map, Option.bind_some, bI_lss, asB_bool, hlt, decide_true, cond_true, Int.toNat_natCast, List.getElem_map, hx, fa_el, ld_el, Nat.zero_add]
  rw [show part (SConst.mark k x).row (0, 1, false) = some (.int .i64 (k)) from rfl]; simp only [Option.bind_some]
  simp only [bI_neq, decide_true, Bool.not_true, Option.bind_some, asB_bool, cond_false, bI_add]
  rw [wrap_i64 (n := k + 1) (by omega) (by omega)]; try simp only [Option.bind_some]
  try (rw [Ev.ia_list (n := (i : Int)) (by omega) (by simpa using hi) (by simp [rInt, rStr])]; simp only [Option.bind_some, Int.toNat_natCast, List.getElem_map, hx, fa_el, ld_el, Nat.zero_add])
  rw [show part (SConst.mark k x).row (1, 1, false) = some (.str (mtext (k + 1))) from rfl]; simp only [Option.bind_some]
  try simp only [call_pure, optAll_cons, optAll_nil, readT_int, Option.bind_some]
  rw [c82 _ (by omega)]; simp only [Option.bind_some, bS_neq, decide_true, Bool.not_true, asB_bool, cond_false, bI_add]
  rw [wrap_i64 (n := k + 1 + 1) (by omega) (by omega)]; try simp only [Option.bind_some]
  try (rw [Ev.ia_list (n := (i : Int)) (by omega) (by simpa using hi) (by simp [rInt, rStr])]; simp only [Option.bind_some, Int.toNat_natCast, List.getElem_map, hx, fa_el, ld_el, Nat.zero_add])
  rw [show part (SConst.mark k x).row (2, 1, false) = some (.int .i64 (k + 1 + 1)) from rfl]; simp only [Option.bind_some]
  simp only [bI_neq, decide_true, Bool.not_true, Option.bind_some, asB_bool, cond_false, bI_add]
  rw [wrap_i64 (n := k + 1 + 1 + 1) (by omega) (by omega)]; try simp only [Option.bind_some]
  try (rw [Ev.ia_list (n := (i : Int)) (by omega) (by simpa using hi) (by simp [rInt, rStr])]; simp only [Option.bind_some, Int.toNat_natCast, List.getElem_map, hx, fa_el, ld_el, Nat.zero_add])
  rw [show part (SConst.mark k x).row (3, 1, false) = some (.int .i64 (k + 1 + 1 + 1)) from rfl]; simp only [Option.bind_some]
  simp only [bI_neq, decide_true, Bool.not_true, Option.bind_some, asB_bool, cond_false, bI_add]
  rw [wrap_i64 (n := k + 1 + 1 + 1 + 1) (by omega) (by omega)]; try simp only [Option.bind_some]
  try simp only [bI_add]
  rw [wrap_i64 (n := ((i : Nat) : Int) + 1) (by omega) (by omega)]; try simp only [Option.bind_some]
  have hk : k + 1 + 1 + 1 + 1 = k + ((SConst.marks x : Nat) : Int) := by simp only [SConst.marks]; omega
  rw [hk]
  rfl
theorem m44 : MarkC E 44 SField.row SField.mark SField.marks := by
  refine mark_loop (fun x => by simp only [SField.marks]; omega) (fun H d k => by rw [e44]) (fun H k => by rw [j44_2]; simp) (fun H b N k => by rw [j44_2]; simp) fun lv H b N pre cs post B x k hN hNN m0 h0 h1 => ?_
  simp only [SField.marks] at h1
  have hlt : ((pre.length : Nat) : Int) < (N : Int) := by omega
  rw [j44_2]
  simp only [lnL_sl, Option.bind_some, bI_lss, asB_bool, hlt, decide_true, cond_true]
  rw [m0.ia (esz := 3) hN rfl]; simp only [fa_ptr, Nat.zero_add, Option.bind_some]
  obtain ⟨H1, c1, q0, m1⟩ := m0.set (f := 0) (v := .int .i64 (k)) rfl rfl rfl rfl
  rw [q0]; simp only [Option.bind_some, bI_add]; rw [wrap_i64 (n := k + 1) (by omega) (by omega)]
  rw [m1.ia (esz := 3) hN rfl]; simp only [fa_ptr, Nat.zero_add, Option.bind_some]
  obtain ⟨H2, c2, q1, m2⟩ := m1.set (f := 1) (v := .int .i64 (k + 1)) rfl rfl rfl rfl
  rw [q1]; simp only [Option.bind_some, bI_add]; rw [wrap_i64 (n := k + 1 + 1) (by omega) (by omega)]
  rw [m2.ia (esz := 3) hN rfl]; simp only [fa_ptr, Nat.zero_add, Option.bind_some]
  obtain ⟨H3, c3, q2, m3⟩ := m2.set (f := 2) (v := .int .i64 (k + 1 + 1)) rfl rfl rfl rfl
  rw [q2]; simp only [Option.bind_some, bI_add]; rw [wrap_i64 (n := k + 1 + 1 + 1) (by omega) (by omega)]
  try simp only [bI_add]
  rw [wrap_i64 (n := ((pre.length : Nat) : Int) + 1) (by omega) (by omega)]; try simp only [Option.bind_some]
  refine ⟨H3, c3, ?_, m3⟩
  have hk : k + 1 + 1 + 1 = k + ((SField.marks x : Nat) : Int) := by simp only [SField.marks]; omega
  first | rw [hk] | rfl
  rfl
theorem h47 : HeldC E 47 SField.row SField.mark SField.marks := by
  refine held_loop (fun x => by simp only [SField.marks]; omega) (fun H d k => by rw [e47]) (fun H rows k => by rw [j47_2]; simp) fun l0 i x k hi hx hn h0 h1 => ?_
  simp only [SField.marks] at h1
  have hlt : ((i : Nat) : Int) < (l0.length : Int) := by omega
  rw [j47_2]
  rw [Ev.ia_list (n := (i : Int)) (by omega) (by simpa using hi) (by simp [rInt, rStr])]
  simp only [lnL_list, List.length_map, Option.bind_some, bI_lss, asB_bool, hlt, decide_true, cond_true, Int.toNat_natCast, List.getElem_map, hx, fa_el, ld_el, Nat.zero_add]
  rw [show part (SField.mark k x).row (0, 1, false) = some (.int .i64 (k)) from rfl]; simp only [Option.bind_some]
  simp only [bI_neq, decide_true, Bool.not_true, Option.bind_some, asB_bool, cond_false, bI_add]
  rw [wrap_i64 (n := k + 1) (by omega) (by omega)]; try simp only [Option.bind_some]
  try (rw [Ev.ia_list (n := (i : Int)) (by omega) (by simpa using hi) (by simp [rInt, rStr])]; simp only [Option.bind_some, Int.toNat_natCast, List.getElem_map, hx, fa_el, ld_el, Nat.zero_add])
  rw [show part (SField.mark k x).row (1, 1, false) = some (.int .i64 (k + 1)) from rfl]; simp only [Option.bind_some]
  simp only [bI_neq, decide_true, Bool.not_true, Option.bind_some, asB_bool, cond_false, bI_add]
  rw [wrap_i64 (n := k + 1 + 1) (by omega) (by omega)]; try simp only [Option.bind_some]
  try (rw [Ev.ia_list (n := (i : Int)) (by omega) (by simpa using hi) (by simp [rInt, rStr])]; simp only [Option.bind_some, Int.toNat_natCast, List.getElem_map, hx, fa_el, ld_el, Nat.zero_add])
  rw [show part (SField.mark k x).row (2, 1, false) = some (.int .i64 (k + 1 + 1)) from rfl]; simp only [Option.bind_some]
  simp only [bI_neq, decide_true, Bool.not_true, Option.bind_some, asB_bool, cond_false, bI_add]
  rw [wrap_i64 (n := k + 1 + 1 + 1) (by omega) (by omega)]; try simp only [Option.bind_some]
  try simp only [bI_add]
  rw [wrap_i64 (n := ((i : Nat) : Int) + 1) (by omega) (by omega)]; try simp only [Option.bind_some]
  have hk : k + 1 + 1 + 1 = k + ((SField.marks x : Nat) : Int) := by simp only [SField.marks]; omega
  rw [hk]
  rfl
theorem m89 : MarkC E 89 STrap.row STrap.mark STrap.marks := by
  refine mark_loop (fun x => by simp only [STrap.marks]; omega) (fun H d k => by rw [e89]) (fun H k => by rw [j89_2]; simp) (fun H b N k => by rw [j89_2]; simp) fun lv H b N pre cs post B x k hN hNN m0 h0 h1 => ?_
  simp only [STrap.marks] at h1
  have hlt : ((pre.length : Nat) : Int) < (N : Int) := by omega
  rw [j89_2]
  simp only [lnL_sl, Option.bind_some, bI_lss, asB_bool, hlt, decide_true, cond_true]
  rw [m0.ia (esz := 4) hN rfl]; simp only [fa_ptr, Nat.zero_add, Option.bind_some]
  obtain ⟨H1, c1, q0, m1⟩ := m0.set (f := 0) (v := .int .i64 (k)) rfl rfl rfl rfl
  rw [q0]; simp only [Option.bind_some, bI_add]; rw [wrap_i64 (n := k + 1) (by omega) (by omega)]
  rw [m1.ia (esz := 4) hN rfl]; simp only [fa_ptr, Nat.zero_add, Option.bind_some]
  obtain ⟨H2, c2, q1, m2⟩ := m1.set (f := 1) (v := .int .i64 (k + 1)) rfl rfl rfl rfl
  rw [q1]; simp only [Option.bind_some, bI_add]; rw [wrap_i64 (n := k + 1 + 1) (by omega) (by omega)]
  rw [m2.ia (esz := 4) hN rfl]; simp only [fa_ptr, Nat.zero_add, Option.bind_some]
  obtain ⟨H3, c3, q2, m3⟩ := m2.set (f := 2) (v := .int .i64 (k + 1 + 1)) rfl rfl rfl rfl
  rw [q2]; simp only [Option.bind_some, bI_add]; rw [wrap_i64 (n := k + 1 + 1 + 1) (by omega) (by omega)]
  rw [m3.ia (esz := 4) hN rfl]; simp only [fa_ptr, Nat.zero_add, Option.bind_some]
  obtain ⟨H4, c4, q3, m4⟩ := m3.set (f := 3) (v := .int .i64 (k + 1 + 1 + 1)) rfl rfl rfl rfl
  rw [q3]; simp only [Option.bind_some, bI_add]; rw [wrap_i64 (n := k + 1 + 1 + 1 + 1) (by omega) (by omega)]
  try simp only [bI_add]
  rw [wrap_i64 (n := ((pre.length : Nat) : Int) + 1) (by omega) (by omega)]; try simp only [Option.bind_some]
  refine ⟨H4, c4, ?_, m4⟩
  have hk : k + 1 + 1 + 1 + 1 = k + ((STrap.marks x : Nat) : Int) := by simp only [STrap.marks]; omega
  first | rw [hk] | rfl
  rfl
theorem h91 : HeldC E 91 STrap.row STrap.mark STrap.marks := by
  refine held_loop (fun x => by simp only [STrap.marks]; omega) (fun H d k => by rw [e91]) (fun H rows k => by rw [j91_2]; simp) fun l0 i x k hi hx hn h0 h1 => ?_
  simp only [STrap.marks] at h1
  have hlt : ((i : Nat) : Int) < (l0.length : Int) := by omega
  rw [j91_2]
  rw [Ev.ia_list (n := (i : Int)) (by omega) (by simpa using hi) (by simp [rInt, rStr])]
  simp only [lnL_list, List.length_map, Option.bind_some, bI_lss, asB_bool, hlt, decide_true, cond_true, Int.toNat_natCast, List.getElem_map, hx, fa_el, ld_el, Nat.zero_add]
  rw [show part (STrap.mark k x).row (0, 1, false) = some (.int .i64 (k)) from rfl]; simp only [Option.bind_some]
  simp only [bI_neq, decide_true, Bool.not_true, Option.bind_some, asB_bool, cond_false, bI_add]
  rw [wrap_i64 (n := k + 1) (by omega) (by omega)]; try simp only [Option.bind_some]
  try (rw [Ev.ia_list (n := (i : Int)) (by omega) (by simpa using hi) (by simp [rInt, rStr])]; simp only [Option.bind_some, Int.toNat_natCast, List.getElem_map, hx, fa_el, ld_el, Nat.zero_add])
  rw [show part (STrap.mark k x).row (1, 1, false) = some (.int .i64 (k + 1)) from rfl]; simp only [Option.bind_some]
  simp only [bI_neq, decide_true, Bool.not_true, Option.bind_some, asB_bool, cond_false, bI_add]
  rw [wrap_i64 (n := k + 1 + 1) (by omega) (by omega)]; try simp only [Option.bind_some]
  try (rw [Ev.ia_list (n := (i : Int)) (by omega) (by simpa using hi) (by simp [rInt, rStr])]; simp only [Option.bind_some, Int.toNat_natCast, List.getElem_map, hx, fa_el, ld_el, Nat.zero_add])
  rw [show part (STrap.mark k x).row (2, 1, false) = some (.int .i64 (k + 1 + 1)) from rfl]; simp only [Option.bind_some]
  simp only [bI_neq, decide_true, Bool.not_true, Option.bind_some, asB_bool, cond_false, bI_add]
  rw [wrap_i64 (n := k + 1 + 1 + 1) (by omega) (by omega)]; try simp only [Option.bind_some]
  try (rw [Ev.ia_list (n := (i : Int)) (by omega) (by simpa using hi) (by simp [rInt, rStr])]; simp only [Option.bind_some, Int.toNat_natCast, List.getElem_map, hx, fa_el, ld_el, Nat.zero_add])
  rw [show part (STrap.mark k x).row (3, 1, false) = some (.int .i64 (k + 1 + 1 + 1)) from rfl]; simp only [Option.bind_some]
  simp only [bI_neq, decide_true, Bool.not_true, Option.bind_some, asB_bool, cond_false, bI_add]
  rw [wrap_i64 (n := k + 1 + 1 + 1 + 1) (by omega) (by omega)]; try simp only [Option.bind_some]
  try simp only [bI_add]
  rw [wrap_i64 (n := ((i : Nat) : Int) + 1) (by omega) (by omega)]; try simp only [Option.bind_some]
  have hk : k + 1 + 1 + 1 + 1 = k + ((STrap.marks x : Nat) : Int) := by simp only [STrap.marks]; omega
  rw [hk]
  rfl
theorem m134 : MarkC E 134 SKind.row SKind.mark SKind.marks := by
  refine mark_loop (fun x => by simp only [SKind.marks]; omega) (fun H d k => by rw [e134]) (fun H k => by rw [j134_2]; simp) (fun H b N k => by rw [j134_2]; simp) fun lv H b N pre cs post B x k hN hNN m0 h0 h1 => ?_
  simp only [SKind.marks] at h1
  have hlt : ((pre.length : Nat) : Int) < (N : Int) := by omega
  rw [j134_2]
  simp only [lnL_sl, Option.bind_some, bI_lss, asB_bool, hlt, decide_true, cond_true]
  rw [m0.ia (esz := 2) hN rfl]; simp only [fa_ptr, Nat.zero_add, Option.bind_some]
  obtain ⟨H1, c1, q0, m1⟩ := m0.set (f := 0) (v := .int .i64 (k)) rfl rfl rfl rfl
  rw [q0]; simp only [Option.bind_some, bI_add]; rw [wrap_i64 (n := k + 1) (by omega) (by omega)]
  rw [m1.ia (esz := 2) hN rfl]; simp only [fa_ptr, Nat.zero_add, Option.bind_some]
  obtain ⟨H2, c2, q1, m2⟩ := m1.set (f := 1) (v := .int .i64 (k + 1)) rfl rfl rfl rfl
  rw [q1]; simp only [Option.bind_some, bI_add]; rw [wrap_i64 (n := k + 1 + 1) (by omega) (by omega)]
  try simp only [bI_add]
  rw [wrap_i64 (n := ((pre.length : Nat) : Int) + 1) (by omega) (by omega)]; try simp only [Option.bind_some]
  refine ⟨H2, c2, ?_, m2⟩
  have hk : k + 1 + 1 = k + ((SKind.marks x : Nat) : Int) := by simp only [SKind.marks]; omega
  first | rw [hk] | rfl
  rfl
theorem h135 : HeldC E 135 SKind.row SKind.mark SKind.marks := by
  refine held_loop (fun x => by simp only [SKind.marks]; omega) (fun H d k => by rw [e135]) (fun H rows k => by rw [j135_2]; simp) fun l0 i x k hi hx hn h0 h1 => ?_
  simp only [SKind.marks] at h1
  have hlt : ((i : Nat) : Int) < (l0.length : Int) := by omega
  rw [j135_2]
  rw [Ev.ia_list (n := (i : Int)) (by omega) (by simpa using hi) (by simp [rInt, rStr])]
  simp only [lnL_list, List.length_map, Option.bind_some, bI_lss, asB_bool, hlt, decide_true, cond_true, Int.toNat_natCast, List.getElem_map, hx, fa_el, ld_el, Nat.zero_add]
  rw [show part (SKind.mark k x).row (0, 1, false) = some (.int .i64 (k)) from rfl]; simp only [Option.bind_some]
  simp only [bI_neq, decide_true, Bool.not_true, Option.bind_some, asB_bool, cond_false, bI_add]
  rw [wrap_i64 (n := k + 1) (by omega) (by omega)]; try simp only [Option.bind_some]
  try (rw [Ev.ia_list (n := (i : Int)) (by omega) (by simpa using hi) (by simp [rInt, rStr])]; simp only [Option.bind_some, Int.toNat_natCast, List.getElem_map, hx, fa_el, ld_el, Nat.zero_add])
  rw [show part (SKind.mark k x).row (1, 1, false) = some (.int .i64 (k + 1)) from rfl]; simp only [Option.bind_some]
  simp only [bI_neq, decide_true, Bool.not_true, Option.bind_some, asB_bool, cond_false, bI_add]
  rw [wrap_i64 (n := k + 1 + 1) (by omega) (by omega)]; try simp only [Option.bind_some]
  try simp only [bI_add]
  rw [wrap_i64 (n := ((i : Nat) : Int) + 1) (by omega) (by omega)]; try simp only [Option.bind_some]
  have hk : k + 1 + 1 = k + ((SKind.marks x : Nat) : Int) := by simp only [SKind.marks]; omega
  rw [hk]
  rfl
theorem m90 : MarkC E 90 SFrame.row SFrame.mark SFrame.marks := by
  refine mark_loop (fun x => by simp only [SFrame.marks]; omega) (fun H d k => by rw [e90]) (fun H k => by rw [j90_2]; simp) (fun H b N k => by rw [j90_2]; simp) fun lv H b N pre cs post B x k hN hNN m0 h0 h1 => ?_
  simp only [SFrame.marks] at h1
  have hlt : ((pre.length : Nat) : Int) < (N : Int) := by omega
  rw [j90_2]
  simp only [lnL_sl, Option.bind_some, bI_lss, asB_bool, hlt, decide_true, cond_true]
  rw [m0.ia (esz := 3) hN rfl]; simp only [fa_ptr, Nat.zero_add, Option.bind_some]
  obtain ⟨H1, c1, q0, m1⟩ := m0.set (f := 0) (v := .int .i64 (k)) rfl rfl rfl rfl
  rw [q0]; simp only [Option.bind_some, bI_add]; rw [wrap_i64 (n := k + 1) (by omega) (by omega)]
  rw [m1.ia (esz := 3) hN rfl]; simp only [fa_ptr, Nat.zero_add, Option.bind_some]
  obtain ⟨d1, D1, l1, r1, n1, u1⟩ := m1.get (f := 1) rfl rfl
  rw [l1]; simp only [Option.bind_some, call_raw]
  obtain ⟨H2, q1, R1, L1, F1⟩ := m134 _ _ _ _ _ (k + 1) r1 n1 (by omega) (by omega)
  rw [q1]; simp only [Option.bind_some]
  have m2 := u1 L1 F1 R1
  rw [m2.ia (esz := 3) hN rfl]; simp only [fa_ptr, Nat.zero_add, Option.bind_some]
  obtain ⟨d2, D2, l2, r2, n2, u2⟩ := m2.get (f := 2) rfl rfl
  rw [l2]; simp only [Option.bind_some, call_raw]
  obtain ⟨H3, q2, R2, L2, F2⟩ := m134 _ _ _ _ _ (k + 1 + (mkN SKind.marks x.Locals : Nat)) r2 n2 (by omega) (by omega)
  rw [q2]; simp only [Option.bind_some]
  have m3 := u2 L2 F2 R2
  try simp only [bI_add]
  rw [wrap_i64 (n := ((pre.length : Nat) : Int) + 1) (by omega) (by omega)]; try simp only [Option.bind_some]
  refine ⟨H3, c1, ?_, m3⟩
  have hk : k + 1 + (mkN SKind.marks x.Locals : Nat) + (mkN SKind.marks x.Stack : Nat) = k + ((SFrame.marks x : Nat) : Int) := by simp only [SFrame.marks]; omega
  first | rw [hk] | rfl
  rfl
theorem h92 : HeldC E 92 SFrame.row SFrame.mark SFrame.marks := by
  refine held_loop (fun x => by simp only [SFrame.marks]; omega) (fun H d k => by rw [e92]) (fun H rows k => by rw [j92_2]; simp) fun l0 i x k hi hx hn h0 h1 => ?_
  simp only [SFrame.marks] at h1
  have hlt : ((i : Nat) : Int) < (l0.length : Int) := by omega
  rw [j92_2]
  rw [Ev.ia_list (n := (i : Int)) (by omega) (by simpa using hi) (by simp [rInt, rStr])]
  simp only [lnL_list, List.length_map, Option.bind_some, bI_lss, asB_bool, hlt, decide_true, cond_true, Int.toNat_natCast, List.getElem_map, hx, fa_el, ld_el, Nat.zero_add]
  rw [show part (SFrame.mark k x).row (0, 1, false) = some (.int .i64 (k)) from rfl]; simp only [Option.bind_some]
  simp only [bI_neq, decide_true, Bool.not_true, Option.bind_some, asB_bool, cond_false, bI_add]
  rw [wrap_i64 (n := k + 1) (by omega) (by omega)]; try simp only [Option.bind_some]
  try (rw [Ev.ia_list (n := (i : Int)) (by omega) (by simpa using hi) (by simp [rInt, rStr])]; simp only [Option.bind_some, Int.toNat_natCast, List.getElem_map, hx, fa_el, ld_el, Nat.zero_add])
  rw [show part (SFrame.mark k x).row (1, 1, false) = some (.list ((mkL SKind.mark SKind.marks (k + 1) x.Locals).map SKind.row)) from rfl]; simp only [Option.bind_some]
  simp only [call_pure, optAll_cons, optAll_nil, readT_int, readT_list9, Option.bind_some]; rw [h135 _ _ (by omega) (by omega)]; simp only [Option.bind_some, bI_lss, asB_bool, show ¬ k + 1 + ((mkN SKind.marks x.Locals : Nat) : Int) < 0 by omega, decide_false, cond_false]
  try (rw [Ev.ia_list (n := (i : Int)) (by omega) (by simpa using hi) (by simp [rInt, rStr])]; simp only [Option.bind_some, Int.toNat_natCast, List.getElem_map, hx, fa_el, ld_el, Nat.zero_add])
  rw [show part (SFrame.mark k x).row (2, 1, false) = some (.list ((mkL SKind.mark SKind.marks (k + 1 + (mkN SKind.marks x.Locals : Nat)) x.Stack).map SKind.row)) from rfl]; simp only [Option.bind_some]
  simp only [call_pure, optAll_cons, optAll_nil, readT_int, readT_list9, Option.bind_some]; rw [h135 _ _ (by omega) (by omega)]; simp only [Option.bind_some, bI_lss, asB_bool, show ¬ k + 1 + (mkN SKind.marks x.Locals : Nat) + ((mkN SKind.marks x.Stack : Nat) : Int) < 0 by omega, decide_false, cond_false]
  try simp only [bI_add]
  rw [wrap_i64 (n := ((i : Nat) : Int) + 1) (by omega) (by omega)]; try simp only [Option.bind_some]
  have hk : k + 1 + (mkN SKind.marks x.Locals : Nat) + (mkN SKind.marks x.Stack : Nat) = k + ((SFrame.marks x : Nat) : Int) := by simp only [SFrame.marks]; omega
  rw [hk]
  rfl
theorem m45 : MarkC E 45 SMethod.row SMethod.mark SMethod.marks := by
  refine mark_loop (fun x => by simp only [SMethod.marks]; omega) (fun H d k => by rw [e45]) (fun H k => by rw [j45_2]; simp) (fun H b N k => by rw [j45_2]; simp) fun lv H b N pre cs post B x k hN hNN m0 h0 h1 => ?_
  simp only [SMethod.marks] at h1
  have hlt : ((pre.length : Nat) : Int) < (N : Int) := by omega
  rw [j45_2]
  simp only [lnL_sl, Option.bind_some, bI_lss, asB_bool, hlt, decide_true, cond_true]
  rw [m0.ia (esz := 8) hN rfl]; simp only [fa_ptr, Nat.zero_add, Option.bind_some]
  obtain ⟨H1, c1, q0, m1⟩ := m0.set (f := 0) (v := .int .i64 (k)) rfl rfl rfl rfl
  rw [q0]; simp only [Option.bind_some, bI_add]; rw [wrap_i64 (n := k + 1) (by omega) (by omega)]
  rw [m1.ia (esz := 8) hN rfl]; simp only [fa_ptr, Nat.zero_add, Option.bind_some]
  obtain ⟨H2, c2, q1, m2⟩ := m1.set (f := 1) (v := .int .i64 (k + 1)) rfl rfl rfl rfl
  rw [q1]; simp only [Option.bind_some, bI_add]; rw [wrap_i64 (n := k + 1 + 1) (by omega) (by omega)]
  rw [m2.ia (esz := 8) hN rfl]; simp only [fa_ptr, Nat.zero_add, Option.bind_some]
  obtain ⟨H3, c3, q2, m3⟩ := m2.set (f := 2) (v := .int .i64 (k + 1 + 1)) rfl rfl rfl rfl
  rw [q2]; simp only [Option.bind_some, bI_add]; rw [wrap_i64 (n := k + 1 + 1 + 1) (by omega) (by omega)]
  rw [m3.ia (esz := 8) hN rfl]; simp only [fa_ptr, Nat.zero_add, Option.bind_some]
  obtain ⟨H4, c4, q3, m4⟩ := m3.set (f := 3) (v := .int .i64 (k + 1 + 1 + 1)) rfl rfl rfl rfl
  rw [q3]; simp only [Option.bind_some, bI_add]; rw [wrap_i64 (n := k + 1 + 1 + 1 + 1) (by omega) (by omega)]
  rw [m4.ia (esz := 8) hN rfl]; simp only [fa_ptr, Nat.zero_add, Option.bind_some]
  obtain ⟨H5, c5, q4, m5⟩ := m4.set (f := 4) (v := .int .i64 (k + 1 + 1 + 1 + 1)) rfl rfl rfl rfl
  rw [q4]; simp only [Option.bind_some, bI_add]; rw [wrap_i64 (n := k + 1 + 1 + 1 + 1 + 1) (by omega) (by omega)]
  try simp only [call_pure, optAll_cons, optAll_nil, readT_int, Option.bind_some]
  rw [c82 _ (by omega)]; simp only [Option.bind_some]
  rw [m5.ia (esz := 8) hN rfl]; simp only [fa_ptr, Nat.zero_add, Option.bind_some]
  obtain ⟨H6, c6, q5, m6⟩ := m5.set (f := 5) (v := .str (mtext (k + 1 + 1 + 1 + 1 + 1))) rfl rfl rfl rfl
  rw [q5]; simp only [Option.bind_some, bI_add]; rw [wrap_i64 (n := k + 1 + 1 + 1 + 1 + 1 + 1) (by omega) (by omega)]
  rw [m6.ia (esz := 8) hN rfl]; simp only [fa_ptr, Nat.zero_add, Option.bind_some]
  obtain ⟨d6, D6, l6, r6, n6, u6⟩ := m6.get (f := 6) rfl rfl
  rw [l6]; simp only [Option.bind_some, call_raw]
  obtain ⟨H7, q6, R6, L6, F6⟩ := m89 _ _ _ _ _ (k + 1 + 1 + 1 + 1 + 1 + 1) r6 n6 (by omega) (by omega)
  rw [q6]; simp only [Option.bind_some]
  have m7 := u6 L6 F6 R6
  rw [m7.ia (esz := 8) hN rfl]; simp only [fa_ptr, Nat.zero_add, Option.bind_some]
  obtain ⟨d7, D7, l7, r7, n7, u7⟩ := m7.get (f := 7) rfl rfl
  rw [l7]; simp only [Option.bind_some, call_raw]
  obtain ⟨H8, q7, R7, L7, F7⟩ := m90 _ _ _ _ _ (k + 1 + 1 + 1 + 1 + 1 + 1 + (mkN STrap.marks x.Traps : Nat)) r7 n7 (by omega) (by omega)
  rw [q7]; simp only [Option.bind_some]
  have m8 := u7 L7 F7 R7
  try simp only [bI_add]
  rw [wrap_i64 (n := ((pre.length : Nat) : Int) + 1) (by omega) (by omega)]; try simp only [Option.bind_some]
  refine ⟨H8, c6, ?_, m8⟩
  have hk : k + 1 + 1 + 1 + 1 + 1 + 1 + (mkN STrap.marks x.Traps : Nat) + (mkN SFrame.marks x.Frames : Nat) = k + ((SMethod.marks x : Nat) : Int) := by simp only [SMethod.marks]; omega
  first | rw [hk] | rfl
  rfl
theorem h48 : HeldC E 48 SMethod.row SMethod.mark SMethod.marks := by
  refine held_loop (fun x => by simp only [SMethod.marks]; omega) (fun H d k => by rw [e48]) (fun H rows k => by rw [j48_2]; simp) fun l0 i x k hi hx hn h0 h1 => ?_
  simp only [SMethod.marks] at h1
  have hlt : ((i : Nat) : Int) < (l0.length : Int) := by omega
  rw [j48_2]
  rw [Ev.ia_list (n := (i : Int)) (by omega) (by simpa using hi) (by simp [rInt, rStr])]
  simp only [lnL_list, List.length_map, Option.bind_some, bI_lss, asB_bool, hlt, decide_true, cond_true, Int.toNat_natCast, List.getElem_map, hx, fa_el, ld_el, Nat.zero_add]
  rw [show part (SMethod.mark k x).row (0, 1, false) = some (.int .i64 (k)) from rfl]; simp only [Option.bind_some]
  simp only [bI_neq, decide_true, Bool.not_true, Option.bind_some, asB_bool, cond_false, bI_add]
  rw [wrap_i64 (n := k + 1) (by omega) (by omega)]; try simp only [Option.bind_some]
  try (rw [Ev.ia_list (n := (i : Int)) (by omega) (by simpa using hi) (by simp [rInt, rStr])]; simp only [Option.bind_some, Int.toNat_natCast, List.getElem_map, hx, fa_el, ld_el, Nat.zero_add])
  rw [show part (SMethod.mark k x).row (1, 1, false) = some (.int .i64 (k + 1)) from rfl]; simp only [Option.bind_some]
  simp only [bI_neq, decide_true, Bool.not_true, Option.bind_some, asB_bool, cond_false, bI_add]
  rw [wrap_i64 (n := k + 1 + 1) (by omega) (by omega)]; try simp only [Option.bind_some]
  try (rw [Ev.ia_list (n := (i : Int)) (by omega) (by simpa using hi) (by simp [rInt, rStr])]; simp only [Option.bind_some, Int.toNat_natCast, List.getElem_map, hx, fa_el, ld_el, Nat.zero_add])
  rw [show part (SMethod.mark k x).row (2, 1, false) = some (.int .i64 (k + 1 + 1)) from rfl]; simp only [Option.bind_some]
  simp only [bI_neq, decide_true, Bool.not_true, Option.bind_some, asB_bool, cond_false, bI_add]
  rw [wrap_i64 (n := k + 1 + 1 + 1) (by omega) (by omega)]; try simp only [Option.bind_some]
  try (rw [Ev.ia_list (n := (i : Int)) (by omega) (by simpa using hi) (by simp [rInt, rStr])]; simp only [Option.bind_some, Int.toNat_natCast, List.getElem_map, hx, fa_el, ld_el, Nat.zero_add])
  rw [show part (SMethod.mark k x).row (3, 1, false) = some (.int .i64 (k + 1 + 1 + 1)) from rfl]; simp only [Option.bind_some]
  simp only [bI_neq, decide_true, Bool.not_true, Option.bind_some, asB_bool, cond_false, bI_add]
  rw [wrap_i64 (n := k + 1 + 1 + 1 + 1) (by omega) (by omega)]; try simp only [Option.bind_some]
  try (rw [Ev.ia_list (n := (i : Int)) (by omega) (by simpa using hi) (by simp [rInt, rStr])]; simp only [Option.bind_some, Int.toNat_natCast, List.getElem_map, hx, fa_el, ld_el, Nat.zero_add])
  rw [show part (SMethod.mark k x).row (4, 1, false) = some (.int .i64 (k + 1 + 1 + 1 + 1)) from rfl]; simp only [Option.bind_some]
  simp only [bI_neq, decide_true, Bool.not_true, Option.bind_some, asB_bool, cond_false, bI_add]
  rw [wrap_i64 (n := k + 1 + 1 + 1 + 1 + 1) (by omega) (by omega)]; try simp only [Option.bind_some]
  try (rw [Ev.ia_list (n := (i : Int)) (by omega) (by simpa using hi) (by simp [rInt, rStr])]; simp only [Option.bind_some, Int.toNat_natCast, List.getElem_map, hx, fa_el, ld_el, Nat.zero_add])
  rw [show part (SMethod.mark k x).row (5, 1, false) = some (.str (mtext (k + 1 + 1 + 1 + 1 + 1))) from rfl]; simp only [Option.bind_some]
  try simp only [call_pure, optAll_cons, optAll_nil, readT_int, Option.bind_some]
  rw [c82 _ (by omega)]; simp only [Option.bind_some, bS_neq, decide_true, Bool.not_true, asB_bool, cond_false, bI_add]
  rw [wrap_i64 (n := k + 1 + 1 + 1 + 1 + 1 + 1) (by omega) (by omega)]; try simp only [Option.bind_some]
  try (rw [Ev.ia_list (n := (i : Int)) (by omega) (by simpa using hi) (by simp [rInt, rStr])]; simp only [Option.bind_some, Int.toNat_natCast, List.getElem_map, hx, fa_el, ld_el, Nat.zero_add])
  rw [show part (SMethod.mark k x).row (6, 1, false) = some (.list ((mkL STrap.mark STrap.marks (k + 1 + 1 + 1 + 1 + 1 + 1) x.Traps).map STrap.row)) from rfl]; simp only [Option.bind_some]
  simp only [call_pure, optAll_cons, optAll_nil, readT_int, readT_list9, Option.bind_some]; rw [h91 _ _ (by omega) (by omega)]; simp only [Option.bind_some, bI_lss, asB_bool, show ¬ k + 1 + 1 + 1 + 1 + 1 + 1 + ((mkN STrap.marks x.Traps : Nat) : Int) < 0 by omega, decide_false, cond_false]
  try (rw [Ev.ia_list (n := (i : Int)) (by omega) (by simpa using hi) (by simp [rInt, rStr])]; simp only [Option.bind_some, Int.toNat_natCast, List.getElem_map, hx, fa_el, ld_el, Nat.zero_add])
  rw [show part (SMethod.mark k x).row (7, 1, false) = some (.list ((mkL SFrame.mark SFrame.marks (k + 1 + 1 + 1 + 1 + 1 + 1 + (mkN STrap.marks x.Traps : Nat)) x.Frames).map SFrame.row)) from rfl]; simp only [Option.bind_some]
  simp only [call_pure, optAll_cons, optAll_nil, readT_int, readT_list9, Option.bind_some]; rw [h92 _ _ (by omega) (by omega)]; simp only [Option.bind_some, bI_lss, asB_bool, show ¬ k + 1 + 1 + 1 + 1 + 1 + 1 + (mkN STrap.marks x.Traps : Nat) + ((mkN SFrame.marks x.Frames : Nat) : Int) < 0 by omega, decide_false, cond_false]
  try simp only [bI_add]
  rw [wrap_i64 (n := ((i : Nat) : Int) + 1) (by omega) (by omega)]; try simp only [Option.bind_some]
  have hk : k + 1 + 1 + 1 + 1 + 1 + 1 + (mkN STrap.marks x.Traps : Nat) + (mkN SFrame.marks x.Frames : Nat) = k + ((SMethod.marks x : Nat) : Int) := by simp only [SMethod.marks]; omega
  rw [hk]
  rfl
theorem v18 : MarkV E 18 SClass.row SClass.vmark SClass.vmarks := by
  refine mark_val (fun x => rfl) fun lv H cs B x k hc m0 h0 h1 => ?_
  simp only [SClass.vmarks] at h1
  rw [e18, alloc_eq _ (D.agg cs).cells _ hc, show (D.agg cs).cells = cs from rfl]; simp only [fa_ptr, Nat.zero_add, Option.bind_some]
  obtain ⟨d0, D0, l0, r0, n0, u0⟩ := m0.get (f := 0) rfl rfl
  simp only [List.length_nil] at l0
  simp only [l0, fa_ptr, Nat.zero_add, Option.bind_some, call_raw]
  obtain ⟨H1, q0, R0, L0, F0⟩ := m43 _ _ _ _ _ (k) r0 n0 (by omega) (by omega)
  simp only [q0, Option.bind_some]
  have m1 := u0 L0 F0 R0
  obtain ⟨d1, D1, l1, r1, n1, u1⟩ := m1.get (f := 4) rfl rfl
  simp only [List.length_nil] at l1
  simp only [l1, fa_ptr, Nat.zero_add, Option.bind_some, call_raw]
  obtain ⟨H2, q1, R1, L1, F1⟩ := m13 _ _ _ _ _ (k + (mkN SConst.marks x.Pool : Nat)) r1 n1 (by omega) (by omega)
  simp only [q1, Option.bind_some]
  have m2 := u1 L1 F1 R1
  obtain ⟨d2, D2, l2, r2, n2, u2⟩ := m2.get (f := 5) rfl rfl
  simp only [List.length_nil] at l2
  simp only [l2, fa_ptr, Nat.zero_add, Option.bind_some, call_raw]
  obtain ⟨H3, q2, R2, L2, F2⟩ := m44 _ _ _ _ _ (k + (mkN SConst.marks x.Pool : Nat) + (mkN (fun _ => 1) x.Faces : Nat)) r2 n2 (by omega) (by omega)
  simp only [q2, Option.bind_some]
  have m3 := u2 L2 F2 R2
  obtain ⟨d3, D3, l3, r3, n3, u3⟩ := m3.get (f := 6) rfl rfl
  simp only [List.length_nil] at l3
  simp only [l3, fa_ptr, Nat.zero_add, Option.bind_some, call_raw]
  obtain ⟨H4, q3, R3, L3, F3⟩ := m45 _ _ _ _ _ (k + (mkN SConst.marks x.Pool : Nat) + (mkN (fun _ => 1) x.Faces : Nat) + (mkN SField.marks x.Fields : Nat)) r3 n3 (by omega) (by omega)
  simp only [q3, Option.bind_some]
  have m4 := u3 L3 F3 R3
  refine ⟨H4, ?_, m4⟩
  have hk : k + (mkN SConst.marks x.Pool : Nat) + (mkN (fun _ => 1) x.Faces : Nat) + (mkN SField.marks x.Fields : Nat) + (mkN SMethod.marks x.Methods : Nat) = k + ((SClass.vmarks x : Nat) : Int) := by simp only [SClass.vmarks]; omega
  rw [hk]
  rfl
theorem h19 (x : SClass) (k : Int) (h0 : 0 < k) (h1 : k + x.vmarks ≤ 1152921504606846976) : run E (exec E) false 19 [(x.vmark k).d, .int .i64 k] = some (.int .i64 (k + x.vmarks)) := by
  simp only [SClass.vmarks] at h1
  rw [run_ent, e19, alloc_eq _ _ _ rfl]
  rw [show ([] : Heap) ++ [some [D.cells (x.vmark k).d]] = [some [(x.vmark k).row]] from rfl, show ([] : Heap).length = 0 from rfl]
  have ha : ∀ f, ld false 1 [some [(x.vmark k).row]] (.ptr 0 0 f) = (x.vmark k).row[f]? := fun f => rfl
  simp only [fa_ptr, Nat.zero_add, Option.bind_some, ha]
  rw [show (x.vmark k).row[0]? = some (.list ((mkL SConst.mark SConst.marks (k) x.Pool).map SConst.row)) from rfl]; simp only [Option.bind_some]
  rw [pure_call (ds := [.list ((mkL SConst.mark SConst.marks (k) x.Pool).map SConst.row), .int .i64 (k)]) (by simp only [optAll_cons, optAll_nil, readT_int, readT_list9, Option.bind_some]) (h46 x.Pool (k) (by omega) (by omega))]
  simp only [fa_ptr, Nat.zero_add, ha, Option.bind_some, bI_lss, asB_bool, show ¬ k + ((mkN SConst.marks x.Pool : Nat) : Int) < 0 by omega, decide_false, cond_false]
  rw [show (x.vmark k).row[4]? = some (.list ((mkL (fun k _ => k) (fun _ => 1) (k + (mkN SConst.marks x.Pool : Nat)) x.Faces).map rInt)) from rfl]; simp only [Option.bind_some]
  rw [pure_call (ds := [.list ((mkL (fun k _ => k) (fun _ => 1) (k + (mkN SConst.marks x.Pool : Nat)) x.Faces).map rInt), .int .i64 (k + (mkN SConst.marks x.Pool : Nat))]) (by simp only [optAll_cons, optAll_nil, readT_int, readT_list9, Option.bind_some]) (h14 x.Faces (k + (mkN SConst.marks x.Pool : Nat)) (by omega) (by omega))]
  simp only [fa_ptr, Nat.zero_add, ha, Option.bind_some, bI_lss, asB_bool, show ¬ k + (mkN SConst.marks x.Pool : Nat) + ((mkN (fun _ => 1) x.Faces : Nat) : Int) < 0 by omega, decide_false, cond_false]
  rw [show (x.vmark k).row[5]? = some (.list ((mkL SField.mark SField.marks (k + (mkN SConst.marks x.Pool : Nat) + (mkN (fun _ => 1) x.Faces : Nat)) x.Fields).map SField.row)) from rfl]; simp only [Option.bind_some]
  rw [pure_call (ds := [.list ((mkL SField.mark SField.marks (k + (mkN SConst.marks x.Pool : Nat) + (mkN (fun _ => 1) x.Faces : Nat)) x.Fields).map SField.row), .int .i64 (k + (mkN SConst.marks x.Pool : Nat) + (mkN (fun _ => 1) x.Faces : Nat))]) (by simp only [optAll_cons, optAll_nil, readT_int, readT_list9, Option.bind_some]) (h47 x.Fields (k + (mkN SConst.marks x.Pool : Nat) + (mkN (fun _ => 1) x.Faces : Nat)) (by omega) (by omega))]
  simp only [fa_ptr, Nat.zero_add, ha, Option.bind_some, bI_lss, asB_bool, show ¬ k + (mkN SConst.marks x.Pool : Nat) + (mkN (fun _ => 1) x.Faces : Nat) + ((mkN SField.marks x.Fields : Nat) : Int) < 0 by omega, decide_false, cond_false]
  rw [show (x.vmark k).row[6]? = some (.list ((mkL SMethod.mark SMethod.marks (k + (mkN SConst.marks x.Pool : Nat) + (mkN (fun _ => 1) x.Faces : Nat) + (mkN SField.marks x.Fields : Nat)) x.Methods).map SMethod.row)) from rfl]; simp only [Option.bind_some]
  rw [pure_call (ds := [.list ((mkL SMethod.mark SMethod.marks (k + (mkN SConst.marks x.Pool : Nat) + (mkN (fun _ => 1) x.Faces : Nat) + (mkN SField.marks x.Fields : Nat)) x.Methods).map SMethod.row), .int .i64 (k + (mkN SConst.marks x.Pool : Nat) + (mkN (fun _ => 1) x.Faces : Nat) + (mkN SField.marks x.Fields : Nat))]) (by simp only [optAll_cons, optAll_nil, readT_int, readT_list9, Option.bind_some]) (h48 x.Methods (k + (mkN SConst.marks x.Pool : Nat) + (mkN (fun _ => 1) x.Faces : Nat) + (mkN SField.marks x.Fields : Nat)) (by omega) (by omega))]
  simp only [fa_ptr, Nat.zero_add, ha, Option.bind_some, bI_lss, asB_bool, show ¬ k + (mkN SConst.marks x.Pool : Nat) + (mkN (fun _ => 1) x.Faces : Nat) + (mkN SField.marks x.Fields : Nat) + ((mkN SMethod.marks x.Methods : Nat) : Int) < 0 by omega, decide_false, cond_false]
  have hk : k + (mkN SConst.marks x.Pool : Nat) + (mkN (fun _ => 1) x.Faces : Nat) + (mkN SField.marks x.Fields : Nat) + (mkN SMethod.marks x.Methods : Nat) = k + ((SClass.vmarks x : Nat) : Int) := by simp only [SClass.vmarks]; omega
  rw [hk]
  rfl
end Go.Ev.Ytmljkoieihaomaa
