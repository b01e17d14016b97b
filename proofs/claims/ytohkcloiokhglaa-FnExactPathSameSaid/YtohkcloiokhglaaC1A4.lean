/- Contracts. -/
import Derived.Test.YtohkcloiokhglaaC1A3
namespace Go.Ev.Ytohkcloiokhglaa
set_option linter.unusedVariables false
set_option linter.unusedSimpArgs false
open Go.Ev
theorem cBS_one (H : Heap) (c : UInt8) (K : Heap) (b : Nat) (h : getBlk H b = some [[.int .u8 c.toNat]]) : cBS H (.sl b 0 1) = some (.str [c], H) := by
  simp [cBS, srcRows, h, rowsFit, optAll, byteOf]
theorem j69_4c : ∀ (f : Nat) (k : Int) (out : List UInt8) (H : Heap), k.toNat < f → 0 ≤ k → k ≤ 1152921504606846977 → out.length + k.toNat ≤ 1152921504606846977 → ∃ H', J E 69 4 [.int .i64 k, .str out] H = some (.str (109 :: mdig f k.toNat out), H')
  | 0, k, out, H, hf, h0, h1, h2 => by omega
  | f + 1, k, out, H, hf, h0, h1, h2 => by
    rw [j69_4]
    by_cases hk : 0 < k
    · have e1 : k.tmod 10 = k % 10 := Int.tmod_eq_emod_of_nonneg h0
      have e2 : k.tdiv 10 = k / 10 := Int.tdiv_eq_ediv_of_nonneg h0
      have e3 : (k % 10) = ((k.toNat % 10 : Nat) : Int) := by omega
      have e4 : (k / 10).toNat = k.toNat / 10 := by omega
      simp only [bI_gtr, Option.bind_some, asB_bool, hk, decide_true, cond_true, bI_rem _ _ _ (show (10 : Int) ≠ 0 by decide), bI_quo _ _ _ (show (10 : Int) ≠ 0 by decide), bI_add, e1, e2, cI_int]
      have e5 : IntKind.wrap .u8 (IntKind.wrap .i64 (48 + k % 10)) = ((UInt8.ofNat (48 + k.toNat % 10)).toNat : Int) := by
        rw [wrap_i64 (by omega) (by omega), e3]
        have : (48 + k.toNat % 10) % 256 = 48 + k.toNat % 10 := by omega
        simp [IntKind.wrap, IntKind.signed, IntKind.bits, this]
        omega
      rw [e5, bsl_one (esz := 1) (by omega) rfl rfl rfl]
      simp only [Option.bind_some, D.cells]
      rw [cBS_one _ (UInt8.ofNat (48 + k.toNat % 10)) H H.length (by simp)]
      simp only [Option.bind_some]
      rw [bS_add _ _ (by simp; omega), wrap_i64 (n := k / 10) (by omega) (by omega)]
      simp only [Option.bind_some]
      obtain ⟨H', h⟩ := j69_4c f (k / 10) (UInt8.ofNat (48 + k.toNat % 10) :: out) (H ++ [some [[.int .u8 (UInt8.ofNat (48 + k.toNat % 10)).toNat]]]) (by omega) (by omega) (by omega) (by simp; omega)
      refine ⟨H', ?_⟩
      rw [show [UInt8.ofNat (48 + k.toNat % 10)] ++ out = UInt8.ofNat (48 + k.toNat % 10) :: out from rfl, h, e4, mdig, if_neg (by omega)]
    · have : k = 0 := by omega
      subst this
      refine ⟨H, ?_⟩
      simp only [bI_gtr, Option.bind_some, asB_bool, Int.lt_irrefl, decide_false, cond_false]
      rw [bS_add _ _ (by simp; omega)]
      simp [mdig]
theorem c69 (k : Int) (h : k ≤ 1152921504606846977) : run E (exec E) false 69 [.int .i64 k] = some (.str (mtext k)) := by
  rw [run_ent, e69]
  by_cases hk : k ≤ 0
  · simp [hk, mtext]
  · obtain ⟨H', h⟩ := j69_4c (k.toNat + 1) k [] [] (by omega) (by omega) h (by simp; omega)
    simp only [bI_leq, Option.bind_some, asB_bool, hk, decide_false, cond_false, h, mtext, if_false, readT_str]

theorem m31 : MarkC E 31 rInt (fun k _ => k) (fun _ => 1) := by
  refine mark_loop (fun x => Nat.le_refl 1) (fun H d k => by rw [e31]) (fun H k => by rw [j31_2]; simp) (fun H b N k => by rw [j31_2]; simp) fun lv H b N pre cs post B x k hN hNN m0 h0 h1 => ?_
  have hlt : ((pre.length : Nat) : Int) < (N : Int) := by omega
  rw [j31_2]
  simp only [lnL_sl, Option.bind_some, bI_lss, asB_bool, hlt, decide_true, cond_true]
  rw [m0.ia (esz := 1) hN rfl]; simp only [fa_ptr, Nat.zero_add, Option.bind_some]
  obtain ⟨H1, c1, q0, m1⟩ := m0.set (f := 0) (v := .int .i64 (k)) rfl rfl rfl rfl
  rw [q0]; simp only [Option.bind_some, bI_add]; rw [wrap_i64 (n := k + 1) (by omega) (by omega)]
  try simp only [bI_add]
  rw [wrap_i64 (n := ((pre.length : Nat) : Int) + 1) (by omega) (by omega)]; try simp only [Option.bind_some]
  refine ⟨H1, c1, ?_, m1⟩
  have hk : k + 1 = k + ((1 : Nat) : Int) := by simp
  rfl
theorem h32 : HeldC E 32 rInt (fun k _ => k) (fun _ => 1) := by
  refine held_loop (fun x => Nat.le_refl 1) (fun H d k => by rw [e32]) (fun H rows k => by rw [j32_2]; simp) fun l0 i x k hi hx hn h0 h1 => ?_
  have hlt : ((i : Nat) : Int) < (l0.length : Int) := by omega
  rw [j32_2]
  rw [Ev.ia_list (n := (i : Int)) (by omega) (by simpa using hi) (by simp [rInt, rStr])]
  simp only [lnL_list, List.length_map, Option.bind_some, bI_lss, asB_bool, hlt, decide_true, cond_true, Int.toNat_natCast, List.getElem_map, hx, fa_el, ld_el, Nat.zero_add]
  simp only [rInt, rStr]
  rw [show part [.int .i64 (k)] (0, 1, false) = some (.int .i64 (k)) from rfl]; simp only [Option.bind_some]
  simp only [bI_neq, decide_true, Bool.not_true, Option.bind_some, asB_bool, cond_false, bI_add]
  rw [wrap_i64 (n := k + 1) (by omega) (by omega)]; try simp only [Option.bind_some]
  try simp only [bI_add]
  rw [wrap_i64 (n := ((i : Nat) : Int) + 1) (by omega) (by omega)]; try simp only [Option.bind_some]
  have hk : k + 1 = k + ((1 : Nat) : Int) := by simp
  rfl
theorem m42 : MarkC E 42 rStr (fun k _ => mtext k) (fun _ => 1) := by
  refine mark_loop (fun x => Nat.le_refl 1) (fun H d k => by rw [e42]) (fun H k => by rw [j42_2]; simp) (fun H b N k => by rw [j42_2]; simp) fun lv H b N pre cs post B x k hN hNN m0 h0 h1 => ?_
  have hlt : ((pre.length : Nat) : Int) < (N : Int) := by omega
  rw [j42_2]
  simp only [lnL_sl, Option.bind_some, bI_lss, asB_bool, hlt, decide_true, cond_true]
  try simp only [call_pure, optAll_cons, optAll_nil, readT_int, Option.bind_some]
  rw [c69 _ (by omega)]; simp only [Option.bind_some]
  rw [m0.ia (esz := 1) hN rfl]; simp only [fa_ptr, Nat.zero_add, Option.bind_some]
  obtain ⟨H1, c1, q0, m1⟩ := m0.set (f := 0) (v := .str (mtext (k))) rfl rfl rfl rfl
  rw [q0]; simp only [Option.bind_some, bI_add]; rw [wrap_i64 (n := k + 1) (by omega) (by omega)]
  try simp only [bI_add]
  rw [wrap_i64 (n := ((pre.length : Nat) : Int) + 1) (by omega) (by omega)]; try simp only [Option.bind_some]
  refine ⟨H1, c1, ?_, m1⟩
  have hk : k + 1 = k + ((1 : Nat) : Int) := by simp
  rfl
theorem h43 : HeldC E 43 rStr (fun k _ => mtext k) (fun _ => 1) := by
  refine held_loop (fun x => Nat.le_refl 1) (fun H d k => by rw [e43]) (fun H rows k => by rw [j43_2]; simp) fun l0 i x k hi hx hn h0 h1 => ?_
  have hlt : ((i : Nat) : Int) < (l0.length : Int) := by omega
  rw [j43_2]
  rw [Ev.ia_list (n := (i : Int)) (by omega) (by simpa using hi) (by simp [rInt, rStr])]
  simp only [lnL_list, List.length_map, Option.bind_some, bI_lss, asB_bool, hlt, decide_true, cond_true, Int.toNat_natCast, List.getElem_map, hx, fa_el, ld_el, Nat.zero_add]
  simp only [rInt, rStr]
  rw [show part [.str (mtext (k))] (0, 1, false) = some (.str (mtext (k))) from rfl]; simp only [Option.bind_some]
  try simp only [call_pure, optAll_cons, optAll_nil, readT_int, Option.bind_some]
  rw [c69 _ (by omega)]; simp only [Option.bind_some, bS_neq, decide_true, Bool.not_true, asB_bool, cond_false, bI_add]
  rw [wrap_i64 (n := k + 1) (by omega) (by omega)]; try simp only [Option.bind_some]
  try simp only [bI_add]
  rw [wrap_i64 (n := ((i : Nat) : Int) + 1) (by omega) (by omega)]; try simp only [Option.bind_some]
  have hk : k + 1 = k + ((1 : Nat) : Int) := by simp
  rfl
theorem m22 : MarkC E 22 SIns.row SIns.mark SIns.marks := by
  refine mark_loop (fun x => by simp only [SIns.marks]; omega) (fun H d k => by rw [e22]) (fun H k => by rw [j22_2]; simp) (fun H b N k => by rw [j22_2]; simp) fun lv H b N pre cs post B x k hN hNN m0 h0 h1 => ?_
  simp only [SIns.marks] at h1
  have hlt : ((pre.length : Nat) : Int) < (N : Int) := by omega
  rw [j22_2]
  simp only [lnL_sl, Option.bind_some, bI_lss, asB_bool, hlt, decide_true, cond_true]
  rw [m0.ia (esz := 3) hN rfl]; simp only [fa_ptr, Nat.zero_add, Option.bind_some]
  obtain ⟨H1, c1, q0, m1⟩ := m0.set (f := 0) (v := .int .i64 (k)) rfl rfl rfl rfl
  rw [q0]; simp only [Option.bind_some, bI_add]; rw [wrap_i64 (n := k + 1) (by omega) (by omega)]
  rw [m1.ia (esz := 3) hN rfl]; simp only [fa_ptr, Nat.zero_add, Option.bind_some]
  obtain ⟨H2, c2, q1, m2⟩ := m1.set (f := 1) (v := .int .i64 (k + 1)) rfl rfl rfl rfl
  rw [q1]; simp only [Option.bind_some, bI_add]; rw [wrap_i64 (n := k + 1 + 1) (by omega) (by omega)]
  rw [m2.ia (esz := 3) hN rfl]; simp only [fa_ptr, Nat.zero_add, Option.bind_some]
  obtain ⟨H3, c3, q2, m3⟩ := m2.set (f := 2) (v := .int .i64 (k + 1 + 1)) rfl rfl rfl rfl
  rw [q2]; simp only [Option.bind_some, bI_add]; rw [wrap_i64 (n := k + 1 + 1 + 1) (by omega) (by omega)]
  try simp only [bI_add]
  rw [wrap_i64 (n := ((pre.length : Nat) : Int) + 1) (by omega) (by omega)]; try simp only [Option.bind_some]
  refine ⟨H3, c3, ?_, m3⟩
  have hk : k + 1 + 1 + 1 = k + ((SIns.marks x : Nat) : Int) := by simp only [SIns.marks]; omega
  first | rw [hk] | rfl
  rfl
theorem h23 : HeldC E 23 SIns.row SIns.mark SIns.marks := by
  refine held_loop (fun x => by simp only [SIns.marks]; omega) (fun H d k => by rw [e23]) (fun H rows k => by rw [j23_2]; simp) fun l0 i x k hi hx hn h0 h1 => ?_
  simp only [SIns.marks] at h1
  have hlt : ((i : Nat) : Int) < (l0.length : Int) := by omega
  rw [j23_2]
  rw [Ev.ia_list (n := (i : Int)) (by omega) (by simpa using hi) (by simp [rInt, rStr])]
  simp only [lnL_list, List.length_map, Option.bind_some, bI_lss, asB_bool, hlt, decide_true, cond_true, Int.toNat_natCast, List.getElem_map, hx, fa_el, ld_el, Nat.zero_add]
  rw [show part (SIns.mark k x).row (0, 1, false) = some (.int .i64 (k)) from rfl]; simp only [Option.bind_some]
  simp only [bI_neq, decide_true, Bool.not_true, Option.bind_some, asB_bool, cond_false, bI_add]
  rw [wrap_i64 (n := k + 1) (by omega) (by omega)]; try simp only [Option.bind_some]
  rw [show part (SIns.mark k x).row (1, 1, false) = some (.int .i64 (k + 1)) from rfl]; simp only [Option.bind_some]
  simp only [bI_neq, decide_true, Bool.not_true, Option.bind_some, asB_bool, cond_false, bI_add]
  rw [wrap_i64 (n := k + 1 + 1) (by omega) (by omega)]; try simp only [Option.bind_some]
  rw [show part (SIns.mark k x).row (2, 1, false) = some (.int .i64 (k + 1 + 1)) from rfl]; simp only [Option.bind_some]
  simp only [bI_neq, decide_true, Bool.not_true, Option.bind_some, asB_bool, cond_false, bI_add]
  rw [wrap_i64 (n := k + 1 + 1 + 1) (by omega) (by omega)]; try simp only [Option.bind_some]
  try simp only [bI_add]
  rw [wrap_i64 (n := ((i : Nat) : Int) + 1) (by omega) (by omega)]; try simp only [Option.bind_some]
  have hk : k + 1 + 1 + 1 = k + ((SIns.marks x : Nat) : Int) := by simp only [SIns.marks]; omega
  rw [hk]
  rfl
theorem m30 : MarkC E 30 SLine.row SLine.mark SLine.marks := by
  refine mark_loop (fun x => by simp only [SLine.marks]; omega) (fun H d k => by rw [e30]) (fun H k => by rw [j30_2]; simp) (fun H b N k => by rw [j30_2]; simp) fun lv H b N pre cs post B x k hN hNN m0 h0 h1 => ?_
  simp only [SLine.marks] at h1
  have hlt : ((pre.length : Nat) : Int) < (N : Int) := by omega
  rw [j30_2]
  simp only [lnL_sl, Option.bind_some, bI_lss, asB_bool, hlt, decide_true, cond_true]
  rw [m0.ia (esz := 6) hN rfl]; simp only [fa_ptr, Nat.zero_add, Option.bind_some]
  obtain ⟨H1, c1, q0, m1⟩ := m0.set (f := 0) (v := .int .i64 (k)) rfl rfl rfl rfl
  rw [q0]; simp only [Option.bind_some, bI_add]; rw [wrap_i64 (n := k + 1) (by omega) (by omega)]
  try simp only [call_pure, optAll_cons, optAll_nil, readT_int, Option.bind_some]
  rw [c69 _ (by omega)]; simp only [Option.bind_some]
  rw [m1.ia (esz := 6) hN rfl]; simp only [fa_ptr, Nat.zero_add, Option.bind_some]
  obtain ⟨H2, c2, q1, m2⟩ := m1.set (f := 1) (v := .str (mtext (k + 1))) rfl rfl rfl rfl
  rw [q1]; simp only [Option.bind_some, bI_add]; rw [wrap_i64 (n := k + 1 + 1) (by omega) (by omega)]
  try simp only [call_pure, optAll_cons, optAll_nil, readT_int, Option.bind_some]
  rw [c69 _ (by omega)]; simp only [Option.bind_some]
  rw [m2.ia (esz := 6) hN rfl]; simp only [fa_ptr, Nat.zero_add, Option.bind_some]
  obtain ⟨H3, c3, q2, m3⟩ := m2.set (f := 2) (v := .str (mtext (k + 1 + 1))) rfl rfl rfl rfl
  rw [q2]; simp only [Option.bind_some, bI_add]; rw [wrap_i64 (n := k + 1 + 1 + 1) (by omega) (by omega)]
  rw [m3.ia (esz := 6) hN rfl]; simp only [fa_ptr, Nat.zero_add, Option.bind_some]
  obtain ⟨H4, c4, q3, m4⟩ := m3.set (f := 3) (v := .int .i64 (k + 1 + 1 + 1)) rfl rfl rfl rfl
  rw [q3]; simp only [Option.bind_some, bI_add]; rw [wrap_i64 (n := k + 1 + 1 + 1 + 1) (by omega) (by omega)]
  rw [m4.ia (esz := 6) hN rfl]; simp only [fa_ptr, Nat.zero_add, Option.bind_some]
  obtain ⟨H5, c5, q4, m5⟩ := m4.set (f := 4) (v := .int .i64 (k + 1 + 1 + 1 + 1)) rfl rfl rfl rfl
  rw [q4]; simp only [Option.bind_some, bI_add]; rw [wrap_i64 (n := k + 1 + 1 + 1 + 1 + 1) (by omega) (by omega)]
  rw [m5.ia (esz := 6) hN rfl]; simp only [fa_ptr, Nat.zero_add, Option.bind_some]
  obtain ⟨H6, c6, q5, m6⟩ := m5.set (f := 5) (v := .int .i64 (k + 1 + 1 + 1 + 1 + 1)) rfl rfl rfl rfl
  rw [q5]; simp only [Option.bind_some, bI_add]; rw [wrap_i64 (n := k + 1 + 1 + 1 + 1 + 1 + 1) (by omega) (by omega)]
  try simp only [bI_add]
  rw [wrap_i64 (n := ((pre.length : Nat) : Int) + 1) (by omega) (by omega)]; try simp only [Option.bind_some]
  refine ⟨H6, c6, ?_, m6⟩
  have hk : k + 1 + 1 + 1 + 1 + 1 + 1 = k + ((SLine.marks x : Nat) : Int) := by simp only [SLine.marks]; omega
  first | rw [hk] | rfl
  rfl
end Go.Ev.Ytohkcloiokhglaa
