/- Contracts. -/
import Derived.Test.YtmljkoieihaomaaC4B0
namespace Go.Ev.Ytmljkoieihaomaa
set_option linter.unusedVariables false
set_option linter.unusedSimpArgs false
open Go.Ev
theorem c153_14 {H : Heap} {L : List Asset} {p q : Nat} {c : SConst} {ts0 : List Cell} (h : Own H (.var 0 p (c.row.map Cell.own) :: .var 0 q ts0 :: L)) (h0 : ts0.length = 4) : ∃ cs H', J E 153 14 [.ptr q 0 0, .ptr p 0 0] H = some (.agg cs, H') ∧ Own H' (.val 1 (.agg cs) (.agg c.row) :: L) := by
  rw [j153_14]
  obtain ⟨cs, H', e1, e2, e3, h1⟩ := h.copyout (z := 4) rfl h0
  simp only [e1, e2, e3, Option.bind_some, ret_one]
  exact ⟨cs, H', rfl, h1⟩
theorem c153 {H : Heap} {L : List Asset} {b : Nat} {s : List UInt8} {q : Nat} {bad : Bool} (h : Own H (rd b s q bad :: L)) (hq : q ≤ s.length) (hs : s.length ≤ 900) : ∃ cs H' q' bad' c, ent E 153 [.ptr b 0 0] H = some (.agg cs, H') ∧ Own H' (.val 1 (.agg cs) (.agg (SConst.row c)) :: rd b s q' bad' :: L) ∧ q' ≤ s.length ∧ Took gConst (s.drop q) bad c (s.drop q') bad' := by
  rw [e153, alloc_eq _ _ _ rfl]
  have h1 := h.alloc 0 (cs := (({} : SConst)).row) (ts := (({} : SConst)).row) (RepR.scalars rfl) rfl (zconst 0 _)
  obtain ⟨k, H2, q2, b2, e2, h2, r2, t2, g0, g1⟩ := c129 h1.pull1 hq hs
  simp only [call_raw]
  rw [show H ++ [some [(({} : SConst)).row]] = H ++ [some [[D.int .i64 0, .str [], .int .i64 0, .int .i64 0]]] from rfl] at e2
  simp only [e2, Option.bind_some]
  rw [show bld [.int .i64 0, .str [], .int .i64 0, .int .i64 0] [(0, 1, false), (1, 1, false), (2, 1, false), (3, 1, false)] [(0, .int .i64 k)] = some (.agg (SConst.row ⟨k, [], 0, 0⟩)) from rfl]
  simp only [Option.bind_some]
  rw [alloc_eq _ _ _ rfl]
  obtain ⟨H3, e3, h3, -⟩ := (h2.alloc 0 (cs := (({} : SConst)).row) (ts := (({} : SConst)).row) (RepR.scalars rfl) rfl (zconst 0 _)).init (cs := SConst.row ⟨k, [], 0, 0⟩) (ts := SConst.row ⟨k, [], 0, 0⟩) (RepR.scalars rfl) rfl (zconst 0 _) (z := 4) rfl rfl
  rw [show H2 ++ [some [(({} : SConst)).row]] = H2 ++ [some [[D.int .i64 0, .str [], .int .i64 0, .int .i64 0]]] from rfl] at e3
  have l3 := h3.ld (f := 0) rfl rfl
  simp only [e3, Option.bind_some, fa_ptr, Nat.zero_add, l3, bI_eql, asB_bool]
  have goal : ∀ {x : Get SConst} {c : SConst} {s' : List UInt8} {b' : Bool}, (x = if k = 1 then bindG gOne fun n => bindG (gText n.toNat) fun t => pureG ⟨k, t, 0, 0⟩ else if k = 2 then bindG gTwo fun a => pureG ⟨k, [], a, 0⟩ else if 3 ≤ k ∧ k ≤ 6 then bindG gTwo fun a => bindG gTwo fun b => pureG ⟨k, [], a, b⟩ else failG) → Took x (s.drop q2) b2 c s' b' → Took gConst (s.drop q) bad c s' b' := by
    intro x c s' b' hx ht
    rw [hx] at ht
    exact t2.seq ht
  by_cases k1 : k = 1
  · simp only [k1, decide_true, cond_true]
    obtain ⟨n, H4, q4, b4, e4, h4, r4, t4, g4, g5⟩ := c129 h3.pull1 r2 hs
    obtain ⟨t, H5, q5, b5, e5, h5, r5, t5⟩ := c127 h4 r4 hs n g4 (by omega)
    obtain ⟨H6, e6, h6⟩ := h5.pull1.st (f := 1) (v := .str t) (by simp [SConst.row]) rfl rfl
    simp only [e4, e5, e6, Option.bind_some]
    obtain ⟨cs, H7, e7, h7⟩ := c153_14 (c := ⟨k, t, 0, 0⟩) (h6.pull2.pull1) rfl
    rw [e7]
    exact ⟨cs, H7, q5, b5, _, rfl, h7, r5, goal rfl (by rw [if_pos k1]; exact t4.seq (t5.seq (Took.pure _ _ _)))⟩
  · simp only [k1, decide_false, cond_false]
    by_cases k2 : k = 2
    · simp only [k2, decide_true, cond_true]
      obtain ⟨n, H4, q4, b4, e4, h4, r4, t4, g4, g5⟩ := c130 h3.pull1 r2 hs
      obtain ⟨H6, e6, h6⟩ := h4.pull1.st (f := 2) (v := .int .i64 n) (by simp [SConst.row]) rfl rfl
      simp only [e4, e6, Option.bind_some]
      obtain ⟨cs, H7, e7, h7⟩ := c153_14 (c := ⟨k, [], n, 0⟩) (h6.pull2.pull1) rfl
      rw [e7]
      exact ⟨cs, H7, q4, b4, _, rfl, h7, r4, goal rfl (by rw [if_neg k1, if_pos k2]; exact t4.seq (Took.pure _ _ _))⟩
    · simp only [k2, decide_false, cond_false]
      have two : 3 ≤ k ∧ k ≤ 6 → ∃ cs H' q' bad' c, J E 153 12 [.ptr b 0 0, .ptr H.length 0 0, .ptr H2.length 0 0] H3 = some (.agg cs, H') ∧ Own H' (.val 1 (.agg cs) (.agg (SConst.row c)) :: rd b s q' bad' :: L) ∧ q' ≤ s.length ∧ Took gConst (s.drop q) bad c (s.drop q') bad' := by
        intro hk
        rw [j153_12]
        obtain ⟨n, H4, q4, b4, e4, h4, r4, t4, g4, g5⟩ := c130 h3.pull1 r2 hs
        obtain ⟨H6, e6, h6⟩ := h4.pull1.st (f := 2) (v := .int .i64 n) (by simp [SConst.row]) rfl rfl
        obtain ⟨m, H7, q7, b7, e7, h7, r7, t7, g6, g7⟩ := c130 h6.pull1 r4 hs
        obtain ⟨H8, e8, h8⟩ := h7.pull1.st (f := 3) (v := .int .i64 m) (by simp [SConst.row]) rfl rfl
        simp only [call_raw, e4, e6, e7, e8, Option.bind_some, fa_ptr, Nat.zero_add]
        obtain ⟨cs, H9, e9, h9⟩ := c153_14 (c := ⟨k, [], n, m⟩) (h8.pull2.pull1) rfl
        rw [e9]
        exact ⟨cs, H9, q7, b7, _, rfl, h9, r7, goal rfl (by rw [if_neg k1, if_neg k2, if_pos hk]; exact t4.seq (t7.seq (Took.pure _ _ _)))⟩
      by_cases k3 : k = 3
      · simp only [k3, decide_true, cond_true, asB_bool]
        exact two (by omega)
      by_cases k4 : k = 4
      · simp only [k3, k4, decide_true, decide_false, cond_true, cond_false, asB_bool]
        exact two (by omega)
      by_cases k5 : k = 5
      · simp only [k3, k4, k5, decide_true, decide_false, cond_true, cond_false, asB_bool]
        exact two (by omega)
      by_cases k6 : k = 6
      · simp only [k3, k4, k5, k6, decide_true, decide_false, cond_true, cond_false, asB_bool]
        exact two (by omega)
      · simp only [k3, k4, k5, k6, decide_false, cond_false]
        rw [j153_3]
        obtain ⟨H6, e6, h6⟩ := h3.pull1.st (f := 2) (v := .bool true) (by simp) rfl rfl
        simp only [nilCheck_ptr, fa_ptr, Nat.zero_add, e6, Option.bind_some]
        obtain ⟨cs, H7, e7, h7⟩ := c153_14 (c := ⟨k, [], 0, 0⟩) (h6.pull2.pull2) rfl
        rw [e7]
        exact ⟨cs, H7, q2, true, _, rfl, h7, r2, goal rfl (by rw [if_neg k1, if_neg k2, if_neg (by omega)]; exact Took.fail _ _ _)⟩
theorem c128_6 (b : Nat) (s : List UInt8) (hs : s.length ≤ 900) (N : Nat) (hN : N ≤ 65535) : ∀ (n : Nat) (acc : List SConst) (d : D) (H : Heap) (L : List Asset) (k : Nat) (bad : Bool), Own H (.val 2 d (.list (acc.map SConst.row)) :: rd b s k bad :: L) → k ≤ s.length → n ≤ N → acc.length + n ≤ 100000 →
    ∃ d' H' k' bad' l, J E 128 6 [.ptr b 0 0, d, .int .i64 N, .int .i64 ((N - n : Nat) : Int)] H = some (d', H') ∧ Own H' (.val 2 d' (.list ((acc ++ l).map SConst.row)) :: rd b s k' bad' :: L) ∧ k' ≤ s.length ∧ Took (gMany gConst n) (s.drop k) bad l (s.drop k') bad'
  | 0, acc, d, H, L, k, bad, h, hk, hn, ha => by
    rw [j128_6, Nat.sub_zero]
    simp only [bI_lss, Int.lt_irrefl, decide_false, Option.bind_some, asB_bool, cond_false, ret_one]
    exact ⟨d, H, k, bad, [], rfl, by simpa using h, hk, Took.pure _ _ _⟩
  | n + 1, acc, d, H, L, k, bad, h, hk, hn, ha => by
    have hlt : ((N - (n + 1) : Nat) : Int) < (N : Int) := by omega
    have l1 := h.pull1.ld (f := 2) rfl rfl
    rw [j128_6]
    simp only [bI_lss, hlt, decide_true, Option.bind_some, asB_bool, cond_true, nilCheck_ptr, fa_ptr, Nat.zero_add, l1, unOp_not]
    cases bad with
    | true =>
      simp only [Bool.not_true, cond_false, ret_one]
      exact ⟨d, H, k, true, [], rfl, by simpa using h, hk, Took.bad _ _ _⟩
    | false =>
      simp only [Bool.not_false, cond_true, call_raw]
      obtain ⟨cs, H2, k2, b2, m, e2, h2, q2, t2⟩ := c153 h.pull1 hk hs
      obtain ⟨d3, H3, e3, e4, h3, c3⟩ := h2.pull2.app (n := 1) (t := m.row) (fun B hB => (rowOf_agg B hB).up (by decide)) (esz := 4) (eb := 40) (zero := [.int .i64 0, .str [], .int .i64 0, .int .i64 0]) rfl (by decide) rfl rfl (fun r hr => by obtain ⟨x, _, rfl⟩ := List.mem_map.mp hr; rfl) (by simp [maxLen]; omega)
      simp only [e2, e3, e4, Option.bind_some, bI_add]
      rw [wrap_i64 (n := ((N - (n + 1) : Nat) : Int) + 1) (by omega) (by omega), show ((N - (n + 1) : Nat) : Int) + 1 = ((N - n : Nat) : Int) by omega]
      obtain ⟨d', H', k', bad', l, e9, h9, q9, t9⟩ := c128_6 b s hs N hN n (acc ++ [m]) d3 H3 L k2 _ (by simpa using h3) q2 (by omega) (by simp; omega)
      refine ⟨d', H', k', bad', m :: l, e9, by simpa using h9, q9, ?_⟩
      show Took (bindG gConst fun a => bindG (gMany gConst n) fun l => pureG (a :: l)) (s.drop k) false (m :: l) (s.drop k') bad'
      exact t2.seq (t9.seq (Took.pure _ _ _))
theorem c128 {H : Heap} {L : List Asset} {b : Nat} {s : List UInt8} {k : Nat} {bad : Bool} (h : Own H (rd b s k bad :: L)) (hk : k ≤ s.length) (hs : s.length ≤ 900) : ∃ d H' k' bad' l, ent E 128 [.ptr b 0 0] H = some (d, H') ∧ Own H' (.val 2 d (.list (l.map SConst.row)) :: rd b s k' bad' :: L) ∧ k' ≤ s.length ∧ Took (gList 60 gConst) (s.drop k) bad l (s.drop k') bad' := by
  rw [e128, bsl_zero _ _ _ rfl]
  obtain ⟨t, H1, k1, b1, e1, h1, q1, t1, g0, g1⟩ := c129 h hk hs
  obtain ⟨H2, h2, e2⟩ := rlimit h1 t 60
  simp only [call_raw, e1, Option.bind_some]
  rw [e2, j128_5]
  obtain ⟨N, rfl⟩ : ∃ N : Nat, t = N := ⟨t.toNat, by omega⟩
  obtain ⟨d', H', k', bad', l, e8, h8, q8, t8⟩ := c128_6 b s hs N (by omega) N [] .sl0 H2 L k1 _ (h2.sl0 1) q1 (Nat.le_refl _) (by simp; omega)
  rw [Nat.sub_self] at e8
  exact ⟨d', H', k', bad', l, e8, by simpa using h8, q8, (rup t1).seq t8⟩
theorem c154_end {H : Heap} {L : List Asset} {p q : Nat} {m : SMethod} {ts0 : List Cell} (h : Own H (.var 3 p (mrow m) :: .var 3 q ts0 :: L)) (h0 : ts0.length = 8) : ∃ cs H', ((ld true 8 H (.ptr p 0 0)).bind fun v => (st 8 H (.ptr q 0 0) v).bind fun H1 => ret_ H1 [ld true 8 H1 (.ptr q 0 0)]) = some (.agg cs, H') ∧ Own H' (.val 4 (.agg cs) (.agg m.row) :: L) := by
  obtain ⟨cs, H', e1, e2, e3, h1⟩ := h.copyout (z := 8) rfl h0
  simp only [e1, e2, e3, Option.bind_some, ret_one]
  exact ⟨cs, H', rfl, h1⟩
theorem c154_18 (b p q : Nat) (ts0 : List Cell) (h0 : ts0.length = 8) (s : List UInt8) (hs : s.length ≤ 900) (N : Nat) (hN : N ≤ 65535) : ∀ (n : Nat) (m : SMethod) (H : Heap) (L : List Asset) (k : Nat) (bad : Bool), Own H (.var 3 p (mrow m) :: .var 3 q ts0 :: rd b s k bad :: L) → k ≤ s.length → n ≤ N → m.Frames.length + n ≤ 100000 →
    ∃ cs H' k' bad' l, J E 154 18 [.ptr b 0 0, .ptr p 0 0, .ptr q 0 0, .int .i64 N, .int .i64 ((N - n : Nat) : Int)] H = some (.agg cs, H') ∧ Own H' (.val 4 (.agg cs) (.agg (SMethod.row { m with Frames := m.Frames ++ l })) :: rd b s k' bad' :: L) ∧ k' ≤ s.length ∧ Took (gMany gFrame n) (s.drop k) bad l (s.drop k') bad'
  | 0, m, H, L, k, bad, h, hk, hn, ha => by
    rw [j154_18, Nat.sub_zero]
    obtain ⟨cs, H', e1, h1⟩ := c154_end h h0
    simp only [bI_lss, Int.lt_irrefl, decide_false, Option.bind_some, asB_bool, cond_false]
    exact ⟨cs, H', k, bad, [], e1, by simpa using h1, hk, Took.pure _ _ _⟩
  | n + 1, m, H, L, k, bad, h, hk, hn, ha => by
    have hlt : ((N - (n + 1) : Nat) : Int) < (N : Int) := by omega
    have l1 := h.pull2.ld (f := 2) rfl rfl
    rw [j154_18]
    simp only [bI_lss, hlt, decide_true, Option.bind_some, asB_bool, cond_true, nilCheck_ptr, fa_ptr, Nat.zero_add, l1, unOp_not]
    cases bad with
    | true =>
      obtain ⟨cs, H', e1, h1⟩ := c154_end h h0
      simp only [Bool.not_true, cond_false]
      exact ⟨cs, H', k, true, [], e1, by simpa using h1, hk, Took.bad _ _ _⟩
    | false =>
      obtain ⟨d, e1, h1⟩ := h.take (f := 7) (t := .list (m.Frames.map SFrame.row)) rfl
      have hsame := rep_same h1.val.choose_spec.1
      obtain ⟨t, H2, k2, b2, e2, h2, q2, t2, -, -⟩ := c130 h1.pull3 hk hs
      have l2 := h2.pull2.ldraw (f := 7) (d := d) rfl
      obtain ⟨d3, H3, k3, b3, ll, e3, h3, q3, t3⟩ := c161 h2 q2 hs
      have l3 := h3.pull3.ldraw (f := 7) (d := d) rfl
      obtain ⟨d4, H4, k4, b4, ls, e4, h4, q4, t4⟩ := c161 h3.pull1 q3 hs
      have l4 := (Own.pull [_, _, _, _] h4).ldraw (f := 7) (d := d) rfl
      have c4 := h4.cellOf
      have c3 := h4.pull2.cellOf
      have hb : bld [.int .i64 0, .sl0, .sl0] [(0, 1, false), (1, 1, false), (2, 1, false)] [(0, .int .i64 t), (1, d3), (2, d4)] = some (.agg [.int .i64 t, d3, d4]) := by
        have ct : (D.int .i64 t).cells = [.int .i64 t] := rfl
        have hz : [D.int .i64 0, .sl0, .sl0].all D.isCell = true := rfl
        have it : (D.int .i64 t).isCell = true := rfl
        unfold bld
        rw [if_pos hz]
        simp [fillC, c3.1, c4.1, c3.2, c4.2, ct, it]
      have h5 : Own H4 (.val 2 (.agg [.int .i64 t, d3, d4]) (.agg (SFrame.row ⟨t, ll, ls⟩)) :: rd b s k4 b4 :: .val 3 d (.list (m.Frames.map SFrame.row)) :: .var 3 p ((mrow m).set 7 (.raw d)) :: .var 3 q ts0 :: L) :=
        Own.build [(.int .i64 t, .int .i64 t), (d3, .list (ll.map SKind.row)), (d4, .list (ls.map SKind.row))] rfl ((h4.pull2).sc 1 (v := .int .i64 t) rfl)
      obtain ⟨d6, H6, e6, e7, h6, c6⟩ := h5.pull2.app (n := 2) (t := SFrame.row ⟨t, ll, ls⟩) (fun B hB => (rowOf_agg B hB).up (by decide)) (esz := 3) (eb := 56) (zero := [.int .i64 0, .sl0, .sl0]) rfl (by decide) rfl rfl (fun r hr => by obtain ⟨x, _, rfl⟩ := List.mem_map.mp hr; rfl) (by simp [maxLen]; omega)
      obtain ⟨H8, e8, h8⟩ := h6.pull2.pull1.put (f := 7) (by decide) (by simp [SMethod.row]) rfl c6
      simp only [Bool.not_false, cond_true, call_raw, e1, e2, l2, e3, l3, e4, l4, hb, e6, e7, e8, Option.bind_some, again_same hsame, bI_add]
      rw [wrap_i64 (n := ((N - (n + 1) : Nat) : Int) + 1) (by omega) (by omega), show ((N - (n + 1) : Nat) : Int) + 1 = ((N - n : Nat) : Int) by omega]
      have hrow : ((((mrow m).set 7 (Cell.raw d)).set 7 (Cell.own (D.list (m.Frames.map SFrame.row ++ [SFrame.row ⟨t, ll, ls⟩]))))) = mrow { m with Frames := m.Frames ++ [⟨t, ll, ls⟩] } := by
        simp [mrow, SMethod.row]
      rw [hrow] at h8
      obtain ⟨cs', H', k', bad', l, e13, h13, q13, t13⟩ := c154_18 b p q ts0 h0 s hs N hN n { m with Frames := m.Frames ++ [⟨t, ll, ls⟩] } H8 L k4 b4 (h8.pull2.pull1) q4 (by omega) (by simp; omega)
      refine ⟨cs', H', k', bad', ⟨t, ll, ls⟩ :: l, e13, by simpa using h13, q13, ?_⟩
      show Took (bindG gFrame fun a => bindG (gMany gFrame n) fun l => pureG (a :: l)) (s.drop k) false _ (s.drop k') bad'
      refine Took.seq ?_ (t13.seq (Took.pure _ _ _))
      exact t2.seq (t3.seq (t4.seq (Took.pure _ _ _)))

end Go.Ev.Ytmljkoieihaomaa
