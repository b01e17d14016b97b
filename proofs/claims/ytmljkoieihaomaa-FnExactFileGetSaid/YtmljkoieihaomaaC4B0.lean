/- Contracts. -/
import Derived.Test.YtmljkoieihaomaaC4A3
namespace Go.Ev.Ytmljkoieihaomaa
set_option linter.unusedVariables false
set_option linter.unusedSimpArgs false
open Go.Ev
/-! Reading a file: the other way. -/
abbrev rd (b : Nat) (s : List UInt8) (at_ : Nat) (bad : Bool) : Asset := .var 0 b [.own (.str s), .own (.int .i64 at_), .own (.bool bad)]
theorem c129 {H : Heap} {L : List Asset} {b : Nat} {s : List UInt8} {k : Nat} {bad : Bool} (h : Own H (rd b s k bad :: L)) (hk : k ≤ s.length) (hs : s.length ≤ 900) : ∃ n H' k' bad', ent E 129 [.ptr b 0 0] H = some (.int .i64 n, H') ∧ Own H' (rd b s k' bad' :: L) ∧ k' ≤ s.length ∧ Took gOne (s.drop k) bad n (s.drop k') bad' ∧ 0 ≤ n ∧ n ≤ 255 := by
  rw [e129]
  have l0 := h.ld (f := 0) rfl rfl
  have l1 := h.ld (f := 1) rfl rfl
  have l2 := h.ld (f := 2) rfl rfl
  simp only [nilCheck_ptr, Option.bind_some, fa_ptr, Nat.zero_add, l0, l1, l2, asB_bool]
  cases bad with
  | true =>
    obtain ⟨H', e1, h1⟩ := h.st (f := 2) (v := .bool true) (by simp) rfl rfl
    simp only [cond_true, e1, Option.bind_some, ret_one]
    exact ⟨0, H', k, true, rfl, h1, hk, Took.bad _ _ _, by decide, by decide⟩
  | false =>
    simp only [cond_false, lnS_str, Option.bind_some, bI_geq, asB_bool]
    by_cases hlt : k < s.length
    · have hd : s.drop k = s[k] :: s.drop (k + 1) := List.drop_eq_getElem_cons hlt
      have hc := (s[k]).toNat_lt
      obtain ⟨H', e1, h1⟩ := h.st (f := 1) (v := .int .i64 ((k + 1 : Nat) : Int)) (by simp) rfl rfl
      have m0 := h1.ld (f := 0) rfl rfl
      have m1 := h1.ld (f := 1) rfl rfl
      simp only [show ¬ (s.length : Int) ≤ (k : Int) by omega, decide_false, cond_false, bI_add, Option.bind_some]
      rw [wrap_i64 (n := (k : Int) + 1) (by omega) (by omega), show (k : Int) + 1 = ((k + 1 : Nat) : Int) by omega]
      simp only [e1, m0, m1, Option.bind_some, bI_sub]
      rw [wrap_i64 (n := ((k + 1 : Nat) : Int) - 1) (by omega) (by omega), show ((k + 1 : Nat) : Int) - 1 = (k : Int) by omega, ix_nat, List.getElem?_eq_getElem hlt]
      simp only [Option.map_some, Option.bind_some, cI_int, ret_one]
      rw [wrap_i64 (n := ((s[k]).toNat : Int)) (by omega) (by omega)]
      refine ⟨(s[k]).toNat, H', k + 1, false, rfl, h1, by omega, ⟨by simp; omega, ?_⟩, by omega, by omega⟩
      rw [hd]
      simp [gOne]
    · have hk' : k = s.length := by omega
      obtain ⟨H', e1, h1⟩ := h.st (f := 2) (v := .bool true) (by simp) rfl rfl
      simp only [show (s.length : Int) ≤ (k : Int) by omega, decide_true, cond_true, e1, Option.bind_some, ret_one]
      refine ⟨0, H', k, true, rfl, h1, hk, ⟨Nat.le_refl _, ?_⟩, by decide, by decide⟩
      rw [hk', List.drop_length]
      simp [gOne]
theorem c130 {H : Heap} {L : List Asset} {b : Nat} {s : List UInt8} {k : Nat} {bad : Bool} (h : Own H (rd b s k bad :: L)) (hk : k ≤ s.length) (hs : s.length ≤ 900) : ∃ n H' k' bad', ent E 130 [.ptr b 0 0] H = some (.int .i64 n, H') ∧ Own H' (rd b s k' bad' :: L) ∧ k' ≤ s.length ∧ Took gTwo (s.drop k) bad n (s.drop k') bad' ∧ 0 ≤ n ∧ n ≤ 65535 := by
  rw [e130]
  obtain ⟨n1, H1, k1, b1, e1, h1, q1, t1, g1, g2⟩ := c129 h hk hs
  obtain ⟨n2, H2, k2, b2, e2, h2, q2, t2, g3, g4⟩ := c129 h1 q1 hs
  simp only [call_raw, e1, e2, Option.bind_some, bI_mul, bI_add, ret_one]
  rw [wrap_i64 (n := n1 * 256) (by omega) (by omega), wrap_i64 (n := n1 * 256 + n2) (by omega) (by omega), show n1 * 256 + n2 = 256 * n1 + n2 by omega]
  exact ⟨256 * n1 + n2, H2, k2, b2, rfl, h2, q2, t1.seq (t2.seq (Took.pure _ _ _)), by omega, by omega⟩
theorem c127 {H : Heap} {L : List Asset} {b : Nat} {s : List UInt8} {k : Nat} {bad : Bool} (h : Own H (rd b s k bad :: L)) (hk : k ≤ s.length) (hs : s.length ≤ 900) (n : Int) (hn : 0 ≤ n) (hn2 : n ≤ 65535) : ∃ t H' k' bad', ent E 127 [.ptr b 0 0, .int .i64 n] H = some (.str t, H') ∧ Own H' (rd b s k' bad' :: L) ∧ k' ≤ s.length ∧ Took (gText n.toNat) (s.drop k) bad t (s.drop k') bad' := by
  rw [e127]
  have l0 := h.ld (f := 0) rfl rfl
  have l1 := h.ld (f := 1) rfl rfl
  have l2 := h.ld (f := 2) rfl rfl
  simp only [nilCheck_ptr, Option.bind_some, fa_ptr, Nat.zero_add, l0, l1, l2, asB_bool]
  cases bad with
  | true =>
    obtain ⟨H', e1, h1⟩ := h.st (f := 2) (v := .bool true) (by simp) rfl rfl
    simp only [cond_true, e1, Option.bind_some, ret_one]
    exact ⟨[], H', k, true, rfl, h1, hk, Took.bad _ _ _⟩
  | false =>
    simp only [cond_false, lnS_str, Option.bind_some, bI_add, bI_gtr, asB_bool]
    rw [wrap_i64 (n := (k : Int) + n) (by omega) (by omega)]
    by_cases hlt : (s.length : Int) < (k : Int) + n
    · obtain ⟨H', e1, h1⟩ := h.st (f := 2) (v := .bool true) (by simp) rfl rfl
      simp only [hlt, decide_true, cond_true, e1, Option.bind_some, ret_one]
      refine ⟨[], H', k, true, rfl, h1, hk, ⟨Nat.le_refl _, ?_⟩⟩
      have : ¬ n.toNat ≤ (s.drop k).length := by simp; omega
      simp only [Bool.false_eq_true, if_false, gText, if_neg this]
    · obtain ⟨H', e1, h1⟩ := h.st (f := 1) (v := .int .i64 ((k + n.toNat : Nat) : Int)) (by simp) rfl rfl
      have m0 := h1.ld (f := 0) rfl rfl
      have m1 := h1.ld (f := 1) rfl rfl
      simp only [hlt, decide_false, cond_false]
      rw [show (k : Int) + n = ((k + n.toNat : Nat) : Int) by omega]
      simp only [e1, m0, m1, Option.bind_some, bI_sub]
      rw [wrap_i64 (n := ((k + n.toNat : Nat) : Int) - n) (by omega) (by omega), show ((k + n.toNat : Nat) : Int) - n = (k : Int) by omega]
      rw [slS_mid (by omega) (by omega) (by omega)]
      simp only [Option.bind_some, ret_one, Int.toNat_natCast]
      refine ⟨_, H', k + n.toNat, false, rfl, h1, by omega, ⟨by simp; omega, ?_⟩⟩
      have : n.toNat ≤ (s.drop k).length := by simp; omega
      simp only [Bool.false_eq_true, if_false, gText, if_pos this]
      refine ⟨?_, by rw [List.drop_drop], trivial⟩
      rw [List.drop_take, show k + n.toNat - k = n.toNat by omega]
theorem rup {g : Get Int} {s s1 : List UInt8} {bad b1 : Bool} {n most : Int} (t : Took g s bad n s1 b1) : Took (gUp most g) s bad n s1 (b1 || decide (most < n)) := by
  refine t.seq ?_
  by_cases h : most < n
  · rw [if_pos h]; simp only [h, decide_true, Bool.or_true]; exact Took.fail _ _ _
  · rw [if_neg h]; simp only [h, decide_false, Bool.or_false]; exact Took.pure _ _ _
/-- A bound that is looked at: what is behind it goes on, perhaps for the worse. -/
theorem rlimit {H : Heap} {L : List Asset} {b : Nat} {s : List UInt8} {k : Nat} {bad : Bool} (h : Own H (rd b s k bad :: L)) (n most : Int) : ∃ H', Own H' (rd b s k (bad || decide (most < n)) :: L) ∧ ∀ F : Heap → R, ((bI .gtr (.int .i64 n) (.int .i64 most)).bind fun v => asB v fun t => bif t then ((nilCheck (.ptr b 0 0)).bind fun v4 => (fa 2 v4).bind fun v5 => (st 1 H v5 (D.bool true)).bind F) else F H) = F H' := by
  by_cases hlt : most < n
  · obtain ⟨H', e1, h1⟩ := h.st (f := 2) (v := .bool true) (by simp) rfl rfl
    refine ⟨H', by simpa [hlt] using h1, fun F => ?_⟩
    simp only [bI_gtr, hlt, decide_true, Option.bind_some, asB_bool, cond_true, nilCheck_ptr, fa_ptr, Nat.zero_add, e1]
  · refine ⟨H, by simpa [hlt] using h, fun F => ?_⟩
    simp only [bI_gtr, hlt, decide_false, Option.bind_some, asB_bool, cond_false]
theorem c161_6 (b : Nat) (s : List UInt8) (hs : s.length ≤ 900) (N : Nat) (hN : N ≤ 65535) : ∀ (n : Nat) (acc : List SKind) (d : D) (H : Heap) (L : List Asset) (k : Nat) (bad : Bool), Own H (.val 1 d (.list (acc.map SKind.row)) :: rd b s k bad :: L) → k ≤ s.length → n ≤ N → acc.length + n ≤ 100000 →
    ∃ d' H' k' bad' l, J E 161 6 [.ptr b 0 0, d, .int .i64 N, .int .i64 ((N - n : Nat) : Int)] H = some (d', H') ∧ Own H' (.val 1 d' (.list ((acc ++ l).map SKind.row)) :: rd b s k' bad' :: L) ∧ k' ≤ s.length ∧ Took (gMany gKind n) (s.drop k) bad l (s.drop k') bad'
  | 0, acc, d, H, L, k, bad, h, hk, hn, ha => by
    rw [j161_6, Nat.sub_zero]
    simp only [bI_lss, Int.lt_irrefl, decide_false, Option.bind_some, asB_bool, cond_false, ret_one]
    exact ⟨d, H, k, bad, [], rfl, by simpa using h, hk, Took.pure _ _ _⟩
  | n + 1, acc, d, H, L, k, bad, h, hk, hn, ha => by
    have hlt : ((N - (n + 1) : Nat) : Int) < (N : Int) := by omega
    have l1 := h.pull1.ld (f := 2) rfl rfl
    rw [j161_6]
    simp only [bI_lss, hlt, decide_true, Option.bind_some, asB_bool, cond_true, nilCheck_ptr, fa_ptr, Nat.zero_add, l1, unOp_not]
    cases bad with
    | true =>
      simp only [Bool.not_true, cond_false, ret_one]
      exact ⟨d, H, k, true, [], rfl, by simpa using h, hk, Took.bad _ _ _⟩
    | false =>
      simp only [Bool.not_false, cond_true, call_raw]
      obtain ⟨t, H1, k1, b1, e1, h1, q1, t1, g0, g1⟩ := c129 h.pull1 hk hs
      simp only [e1, Option.bind_some]
      rw [show bld [.int .i64 0, .int .i64 0] [(0, 1, false), (1, 1, false)] [(0, .int .i64 t)] = some (.agg [.int .i64 t, .int .i64 0]) from rfl]
      simp only [Option.bind_some]
      rw [alloc_eq _ _ _ rfl]
      obtain ⟨H3, e3, h3, -⟩ := (h1.alloc 0 (cs := [.int .i64 0, .int .i64 0]) (ts := [.int .i64 0, .int .i64 0]) (RepR.scalars rfl) rfl (fun f hf => by rcases f with _ | _ | f <;> simp at hf)).init (cs := [.int .i64 t, .int .i64 0]) (ts := (⟨t, 0⟩ : SKind).row) (RepR.scalars rfl) rfl (fun f hf => by rcases f with _ | _ | f <;> simp [SKind.row] at hf) (z := 2) rfl rfl
      have l3 : ld false 1 H3 (.ptr H1.length 0 0) = some (.int .i64 t) := h3.ld (f := 0) rfl rfl
      simp only [e3, Option.bind_some, fa_ptr, Nat.zero_add, l3, bI_eql, asB_bool]
      have step : ∀ (x : SKind) (H4 : Heap) (k4 : Nat) (b4 : Bool), Own H4 (.var 0 H1.length (x.row.map Cell.own) :: .val 1 d (.list (acc.map SKind.row)) :: rd b s k4 b4 :: L) → k4 ≤ s.length → Took gKind (s.drop k) false x (s.drop k4) (b4 || decide (3 < x.Tag)) →
          ∃ d' H' k' bad' l, J E 161 11 [.ptr b 0 0, d, .int .i64 N, .int .i64 ((N - (n + 1) : Nat) : Int), .ptr H1.length 0 0] H4 = some (d', H') ∧ Own H' (.val 1 d' (.list ((acc ++ l).map SKind.row)) :: rd b s k' bad' :: L) ∧ k' ≤ s.length ∧ Took (gMany gKind (n + 1)) (s.drop k) false l (s.drop k') bad' := by
        intro x H4 k4 b4 h4 q4 t4
        have l4 : ld false 1 H4 (.ptr H1.length 0 0) = some (.int .i64 x.Tag) := h4.ld (f := 0) rfl rfl
        obtain ⟨H6, h6, e6⟩ := rlimit h4.pull2 x.Tag 3
        rw [j161_11]
        simp only [fa_ptr, Nat.zero_add, l4, Option.bind_some]
        rw [e6, j161_13]
        obtain ⟨cs, d2, H5, e5, e7, e8, h5⟩ := kinds_app (n := 0) (h6.pull1.pull2.pull1) (by omega)
        simp only [e5, e7, e8, Option.bind_some, bI_add]
        rw [wrap_i64 (n := ((N - (n + 1) : Nat) : Int) + 1) (by omega) (by omega), show ((N - (n + 1) : Nat) : Int) + 1 = ((N - n : Nat) : Int) by omega]
        obtain ⟨d', H', k', bad', l, e9, h9, q9, t9⟩ := c161_6 b s hs N hN n (acc ++ [x]) d2 H5 L k4 _ h5 q4 (by omega) (by simp; omega)
        refine ⟨d', H', k', bad', x :: l, e9, by simpa using h9, q9, ?_⟩
        show Took (bindG gKind fun a => bindG (gMany gKind n) fun l => pureG (a :: l)) (s.drop k) false (x :: l) (s.drop k') bad'
        exact t4.seq (t9.seq (Took.pure _ _ _))
      have tu := rup (most := 3) t1
      by_cases h3t : t = 3
      · subst h3t
        simp only [decide_true, cond_true]
        obtain ⟨c, H4, k4, b4, e4, h4, q4, t4, g4, g5⟩ := c130 h3.pull1 q1 hs
        obtain ⟨H5, e5, h5⟩ := h4.pull1.st (f := 1) (v := .int .i64 c) (by simp [SKind.row]) rfl rfl
        simp only [e4, e5, Option.bind_some]
        refine step ⟨3, c⟩ H5 k4 b4 (h5.pull2.pull1) q4 ?_
        show Took (bindG (gUp 3 gOne) fun t => if t = 3 then bindG gTwo fun c => pureG (SKind.mk t c) else pureG (SKind.mk t 0)) (s.drop k) false _ (s.drop k4) _
        simp only [show ¬ (3 : Int) < 3 by decide, decide_false, Bool.or_false] at tu ⊢
        refine tu.seq ?_
        rw [if_pos rfl]
        exact t4.seq (Took.pure _ _ _)
      · simp only [h3t, decide_false, cond_false]
        refine step ⟨t, 0⟩ H3 k1 b1 (h3.pull2.pull1) q1 ?_
        show Took (bindG (gUp 3 gOne) fun t => if t = 3 then bindG gTwo fun c => pureG (SKind.mk t c) else pureG (SKind.mk t 0)) (s.drop k) false _ (s.drop k1) _
        refine tu.seq ?_
        rw [if_neg h3t]
        exact Took.pure _ _ _
theorem c161 {H : Heap} {L : List Asset} {b : Nat} {s : List UInt8} {k : Nat} {bad : Bool} (h : Own H (rd b s k bad :: L)) (hk : k ≤ s.length) (hs : s.length ≤ 900) : ∃ d H' k' bad' l, ent E 161 [.ptr b 0 0] H = some (d, H') ∧ Own H' (.val 1 d (.list (l.map SKind.row)) :: rd b s k' bad' :: L) ∧ k' ≤ s.length ∧ Took (gList 8 gKind) (s.drop k) bad l (s.drop k') bad' := by
  rw [e161, bsl_zero _ _ _ rfl]
  obtain ⟨t, H1, k1, b1, e1, h1, q1, t1, g0, g1⟩ := c129 h hk hs
  obtain ⟨H2, h2, e2⟩ := rlimit h1 t 8
  simp only [call_raw, e1, Option.bind_some]
  rw [e2, j161_5]
  obtain ⟨N, rfl⟩ : ∃ N : Nat, t = N := ⟨t.toNat, by omega⟩
  obtain ⟨d', H', k', bad', l, e8, h8, q8, t8⟩ := c161_6 b s hs N (by omega) N [] .sl0 H2 L k1 _ (h2.sl0 0) q1 (Nat.le_refl _) (by simp; omega)
  rw [Nat.sub_self] at e8
  exact ⟨d', H', k', bad', l, e8, by simpa using h8, q8, (rup t1).seq t8⟩

end Go.Ev.Ytmljkoieihaomaa
