/- Contracts. -/
import Derived.Test.YtmljkoieihaomaaC4A0
namespace Go.Ev.Ytmljkoieihaomaa
set_option linter.unusedVariables false
set_option linter.unusedSimpArgs false
open Go.Ev
/-! Reading a file: kinds, entries, methods. -/
theorem isAbs_and (n : Int) (h0 : 0 ≤ n) (h1 : n ≤ 255) : decide (n % 16 / 8 = 1) = isAbs n := rfl
theorem kinds_app {d : D} {H : Heap} {L : List Asset} {p n : Nat} {acc : List SKind} {k : SKind} (h : Own H (.var 0 p (k.row.map Cell.own) :: .val 1 d (.list (acc.map SKind.row)) :: L)) (ha : acc.length ≤ 100000) : ∃ cs d2 H2, ld true 2 H (.ptr p 0 0) = some (.agg cs) ∧ bsl 2 [.int .i64 0, .int .i64 0] H 1 [(0, .agg cs)] = some (.sl H.length 0 1, H ++ [some [cs]]) ∧ app 2 16 (H ++ [some [cs]]) d (.sl H.length 0 1) = some (d2, H2) ∧ Own H2 (.val 1 d2 (.list ((acc ++ [k]).map SKind.row)) :: L) := by
  obtain ⟨cs, e1, h1, -⟩ := h.whole (z := 2) rfl
  obtain ⟨d2, H2, e2, e3, h2, -⟩ := h1.pull1.app (n := 0) (t := k.row) rowOf_agg (esz := 2) (eb := 16) (zero := [.int .i64 0, .int .i64 0]) rfl (by decide) rfl rfl (fun r hr => by obtain ⟨x, _, rfl⟩ := List.mem_map.mp hr; rfl) (by simp [maxLen]; omega)
  exact ⟨cs, d2, H2, e1, e2, e3, by simpa using h2⟩
theorem c85_3 (b : Nat) : ∀ (n : Nat) (acc : List SKind) (d : D) (H : Heap) (L : List Asset) (s : List UInt8) (bad : Bool), Own H (.val 1 d (.list (acc.map SKind.row)) :: tk b s bad :: L) → acc.length + n ≤ 1000 →
    ∃ d' H' s' bad' l, J E 85 3 [.ptr b 0 0, d, .int .i64 n] H = some (d', H') ∧ Own H' (.val 1 d' (.list ((acc ++ l).map SKind.row)) :: tk b s' bad' :: L) ∧ Took (gMany gKind n) s bad l s' bad'
  | 0, acc, d, H, L, s, bad, h, hn => by
    rw [j85_3]
    simp only [bI_gtr, Int.natCast_zero, Int.lt_irrefl, decide_false, Option.bind_some, asB_bool, cond_false, ret_one]
    exact ⟨d, H, s, bad, [], rfl, by simpa using h, Took.pure _ _ _⟩
  | n + 1, acc, d, H, L, s, bad, h, hn => by
    have hgt : (0 : Int) < ((n + 1 : Nat) : Int) := by omega
    have l1 := h.pull1.ld (f := 1) rfl rfl
    rw [j85_3]
    simp only [bI_gtr, hgt, decide_true, Option.bind_some, asB_bool, cond_true, nilCheck_ptr, fa_ptr, Nat.zero_add, l1, unOp_not]
    cases bad with
    | true =>
      simp only [Bool.not_true, cond_false, ret_one]
      exact ⟨d, H, s, true, [], rfl, by simpa using h, Took.bad _ _ _⟩
    | false =>
      simp only [Bool.not_false, cond_true, call_raw]
      obtain ⟨t0, H1, s1, b1, e1, h1, t1, g0, g1⟩ := c36 h.pull1
      obtain ⟨t, H2, b2, e2, h2, t2, g2, g3, -⟩ := c35 h1 t1 g0 3 (by decide)
      simp only [e1, e2, Option.bind_some]
      rw [show bld [.int .i64 0, .int .i64 0] [(0, 1, false), (1, 1, false)] [(0, .int .i64 t)] = some (.agg [.int .i64 t, .int .i64 0]) from rfl]
      simp only [Option.bind_some]
      rw [alloc_eq _ _ _ rfl]
      obtain ⟨H3, e3, h3, -⟩ := (h2.alloc 0 (cs := [.int .i64 0, .int .i64 0]) (ts := [.int .i64 0, .int .i64 0]) (RepR.scalars rfl) rfl (fun f hf => by rcases f with _ | _ | f <;> simp at hf)).init (cs := [.int .i64 t, .int .i64 0]) (ts := (⟨t, 0⟩ : SKind).row) (RepR.scalars rfl) rfl (fun f hf => by rcases f with _ | _ | f <;> simp [SKind.row] at hf) (z := 2) rfl rfl
      have l3 : ld false 1 H3 (.ptr H2.length 0 0) = some (.int .i64 t) := h3.ld (f := 0) rfl rfl
      simp only [e3, Option.bind_some, fa_ptr, Nat.zero_add, l3, bI_eql, asB_bool]
      have step : ∀ (k : SKind) (H4 : Heap) (s4 : List UInt8) (b4 : Bool), Own H4 (.var 0 H2.length (k.row.map Cell.own) :: .val 1 d (.list (acc.map SKind.row)) :: tk b s4 b4 :: L) → Took gKind s false k s4 b4 →
          ∃ d' H' s' bad' l, J E 85 8 [.ptr b 0 0, d, .int .i64 ((n + 1 : Nat) : Int), .ptr H2.length 0 0] H4 = some (d', H') ∧ Own H' (.val 1 d' (.list ((acc ++ l).map SKind.row)) :: tk b s' bad' :: L) ∧ Took (gMany gKind (n + 1)) s false l s' bad' := by
        intro k H4 s4 b4 h4 t4
        obtain ⟨cs, d2, H5, e5, e6, e7, h5⟩ := kinds_app (n := 0) h4 (by omega)
        rw [j85_8]
        simp only [e5, e6, e7, Option.bind_some, bI_sub]
        rw [wrap_i64 (n := ((n + 1 : Nat) : Int) - 1) (by omega) (by omega), show ((n + 1 : Nat) : Int) - 1 = (n : Int) by omega]
        obtain ⟨d', H', s', bad', l, e8, h8, t8⟩ := c85_3 b n (acc ++ [k]) d2 H5 L s4 b4 h5 (by simp; omega)
        refine ⟨d', H', s', bad', k :: l, e8, by simpa using h8, ?_⟩
        show Took (bindG gKind fun a => bindG (gMany gKind n) fun l => pureG (a :: l)) s false (k :: l) s' bad'
        exact t4.seq (t8.seq (Took.pure _ _ _))
      by_cases h3t : t = 3
      · subst h3t
        simp only [decide_true, cond_true]
        obtain ⟨c, H4, s4, b4, e4, h4, t4, g4, g5⟩ := c38 h3.pull1
        obtain ⟨H5, e5, h5⟩ := h4.pull1.st (f := 1) (v := .int .i64 c) (by simp [SKind.row]) rfl rfl
        simp only [e4, e5, Option.bind_some]
        refine step ⟨3, c⟩ H5 s4 b4 (h5.pull2.pull1) ?_
        show Took (bindG (gUp 3 gOne) fun t => if t = 3 then bindG gTwo fun c => pureG (SKind.mk t c) else pureG (SKind.mk t 0)) s false _ s4 b4
        refine t2.seq ?_
        rw [if_pos rfl]
        exact t4.seq (Took.pure _ _ _)
      · simp only [h3t, decide_false, cond_false]
        refine step ⟨t, 0⟩ H3 s1 b2 (h3.pull2.pull1) ?_
        show Took (bindG (gUp 3 gOne) fun t => if t = 3 then bindG gTwo fun c => pureG (SKind.mk t c) else pureG (SKind.mk t 0)) s false _ s1 b2
        refine t2.seq ?_
        rw [if_neg h3t]
        exact Took.pure _ _ _
theorem c85 {H : Heap} {L : List Asset} {b : Nat} {s : List UInt8} {bad : Bool} (h : Own H (tk b s bad :: L)) : ∃ d H' s' bad' l, ent E 85 [.ptr b 0 0] H = some (d, H') ∧ Own H' (.val 1 d (.list (l.map SKind.row)) :: tk b s' bad' :: L) ∧ Took (gList 8 gKind) s bad l s' bad' := by
  rw [e85]
  obtain ⟨t0, H1, s1, b1, e1, h1, t1, g0, g1⟩ := c36 h
  obtain ⟨t, H2, b2, e2, h2, t2, g2, g3, -⟩ := c35 h1 t1 g0 8 (by decide)
  simp only [call_raw, e1, e2, Option.bind_some]
  obtain ⟨k, rfl⟩ : ∃ k : Nat, t = k := ⟨t.toNat, by omega⟩
  obtain ⟨d', H', s', bad', l, e8, h8, t8⟩ := c85_3 b k [] .sl0 H2 L s1 b2 (h2.sl0 0) (by simp; omega)
  exact ⟨d', H', s', bad', l, e8, by simpa using h8, t2.seq t8⟩
theorem c37_14 {H : Heap} {L : List Asset} {p q : Nat} {c : SConst} {ts0 : List Cell} (h : Own H (.var 0 p (c.row.map Cell.own) :: .var 0 q ts0 :: L)) (h0 : ts0.length = 4) : ∃ cs H', J E 37 14 [.ptr q 0 0, .ptr p 0 0] H = some (.agg cs, H') ∧ Own H' (.val 1 (.agg cs) (.agg c.row) :: L) := by
  rw [j37_14]
  obtain ⟨cs, H', e1, e2, e3, h1⟩ := h.copyout (z := 4) rfl h0
  simp only [e1, e2, e3, Option.bind_some, ret_one]
  exact ⟨cs, H', rfl, h1⟩
theorem zconst (f : Nat) (c : SConst) : ∀ f : Nat, c.row[f]? = some (D.list []) → c.row[f]? = some D.sl0 := fun f hf => by rcases f with _ | _ | _ | _ | f <;> simp [SConst.row] at hf
theorem c37 {H : Heap} {L : List Asset} {b : Nat} {s : List UInt8} {bad : Bool} (h : Own H (tk b s bad :: L)) : ∃ cs H' s' bad' c, ent E 37 [.ptr b 0 0] H = some (.agg cs, H') ∧ Own H' (.val 1 (.agg cs) (.agg (SConst.row c)) :: tk b s' bad' :: L) ∧ Took gConst s bad c s' bad' := by
  rw [e37, alloc_eq _ _ _ rfl]
  have h1 := h.alloc 0 (cs := (({} : SConst)).row) (ts := (({} : SConst)).row) (RepR.scalars rfl) rfl (zconst 0 _)
  obtain ⟨k, H2, s2, b2, e2, h2, t2, g0, g1⟩ := c36 h1.pull1
  simp only [call_raw]
  rw [show H ++ [some [(({} : SConst)).row]] = H ++ [some [[D.int .i64 0, .str [], .int .i64 0, .int .i64 0]]] from rfl] at e2
  simp only [e2, Option.bind_some]
  rw [show bld [.int .i64 0, .str [], .int .i64 0, .int .i64 0] [(0, 1, false), (1, 1, false), (2, 1, false), (3, 1, false)] [(0, .int .i64 k)] = some (.agg (SConst.row ⟨k, [], 0, 0⟩)) from rfl]
  simp only [Option.bind_some]
  rw [alloc_eq _ _ _ rfl]
  obtain ⟨H3, e3, h3, -⟩ := (h2.alloc 0 (cs := (({} : SConst)).row) (ts := (({} : SConst)).row) (RepR.scalars rfl) rfl (zconst 0 _)).init (cs := SConst.row ⟨k, [], 0, 0⟩) (ts := SConst.row ⟨k, [], 0, 0⟩) (RepR.scalars rfl) rfl (zconst 0 _) (z := 4) rfl rfl
  rw [show H2 ++ [some [(({} : SConst)).row]] = H2 ++ [some [[D.int .i64 0, .str [], .int .i64 0, .int .i64 0]]] from rfl] at e3
  have l3 := h3.ld (f := 0) rfl rfl
  simp only [e3, Option.bind_some, fa_ptr, Nat.zero_add, l3, bI_eql, asB_bool]
  have goal : ∀ {x : Get SConst} {c : SConst} {s' : List UInt8} {b' : Bool}, (x = if k = 1 then bindG gOne fun n => bindG (gText n.toNat) fun t => pureG ⟨k, t, 0, 0⟩ else if k = 2 then bindG gTwo fun a => pureG ⟨k, [], a, 0⟩ else if 3 ≤ k ∧ k ≤ 6 then bindG gTwo fun a => bindG gTwo fun b => pureG ⟨k, [], a, b⟩ else failG) → Took x s2 b2 c s' b' → Took gConst s bad c s' b' := by
    intro x c s' b' hx ht
    rw [hx] at ht
    exact t2.seq ht
  by_cases k1 : k = 1
  · simp only [k1, decide_true, cond_true]
    obtain ⟨n, H4, s4, b4, e4, h4, t4, g4, g5⟩ := c36 h3.pull1
    obtain ⟨t, H5, s5, b5, e5, h5, t5, -, -⟩ := c34 h4 n g4
    obtain ⟨H6, e6, h6⟩ := h5.pull1.st (f := 1) (v := .str t) (by simp [SConst.row]) rfl rfl
    simp only [e4, e5, e6, Option.bind_some]
    obtain ⟨cs, H7, e7, h7⟩ := c37_14 (c := ⟨k, t, 0, 0⟩) (h6.pull2.pull1) rfl
    rw [e7]
    exact ⟨cs, H7, s5, b5, _, rfl, h7, goal rfl (by rw [if_pos k1]; exact t4.seq (t5.seq (Took.pure _ _ _)))⟩
  · simp only [k1, decide_false, cond_false]
    by_cases k2 : k = 2
    · simp only [k2, decide_true, cond_true]
      obtain ⟨n, H4, s4, b4, e4, h4, t4, g4, g5⟩ := c38 h3.pull1
      obtain ⟨H6, e6, h6⟩ := h4.pull1.st (f := 2) (v := .int .i64 n) (by simp [SConst.row]) rfl rfl
      simp only [e4, e6, Option.bind_some]
      obtain ⟨cs, H7, e7, h7⟩ := c37_14 (c := ⟨k, [], n, 0⟩) (h6.pull2.pull1) rfl
      rw [e7]
      exact ⟨cs, H7, s4, b4, _, rfl, h7, goal rfl (by rw [if_neg k1, if_pos k2]; exact t4.seq (Took.pure _ _ _))⟩
    · simp only [k2, decide_false, cond_false]
      have two : 3 ≤ k ∧ k ≤ 6 → ∃ cs H' s' bad' c, J E 37 12 [.ptr b 0 0, .ptr H.length 0 0, .ptr H2.length 0 0] H3 = some (.agg cs, H') ∧ Own H' (.val 1 (.agg cs) (.agg (SConst.row c)) :: tk b s' bad' :: L) ∧ Took gConst s bad c s' bad' := by
        intro hk
        rw [j37_12]
        obtain ⟨n, H4, s4, b4, e4, h4, t4, g4, g5⟩ := c38 h3.pull1
        obtain ⟨H6, e6, h6⟩ := h4.pull1.st (f := 2) (v := .int .i64 n) (by simp [SConst.row]) rfl rfl
        obtain ⟨m, H7, s7, b7, e7, h7, t7, g6, g7⟩ := c38 h6.pull1
        obtain ⟨H8, e8, h8⟩ := h7.pull1.st (f := 3) (v := .int .i64 m) (by simp [SConst.row]) rfl rfl
        simp only [call_raw, e4, e6, e7, e8, Option.bind_some, fa_ptr, Nat.zero_add]
        obtain ⟨cs, H9, e9, h9⟩ := c37_14 (c := ⟨k, [], n, m⟩) (h8.pull2.pull1) rfl
        rw [e9]
        exact ⟨cs, H9, s7, b7, _, rfl, h9, goal rfl (by rw [if_neg k1, if_neg k2, if_pos hk]; exact t4.seq (t7.seq (Took.pure _ _ _)))⟩
      by_cases k3 : k = 3
      · simp only [k3, decide_true, cond_true, asB_bool]
        exact two (by omega)
      by_cases k4 : k = 4
      · simp only [k3, k4, decide_true, decide_false, cond_true, cond_false, asB_bool]
        exact two (by omega)
      by_cases k5 : k = 5
      · simp only [k3, k4, k5, decide_true, decide_false, cond_true, cond_false, asB_bool]
        exact two (by omega)
      by_cases k6 : k = 6
      · simp only [k3, k4, k5, k6, decide_true, decide_false, cond_true, cond_false, asB_bool]
        exact two (by omega)
      · simp only [k3, k4, k5, k6, decide_false, cond_false]
        rw [j37_3]
        obtain ⟨H6, e6, h6⟩ := h3.pull1.st (f := 1) (v := .bool true) (by simp) rfl rfl
        simp only [nilCheck_ptr, fa_ptr, Nat.zero_add, e6, Option.bind_some]
        obtain ⟨cs, H7, e7, h7⟩ := c37_14 (c := ⟨k, [], 0, 0⟩) (h6.pull2.pull2) rfl
        rw [e7]
        exact ⟨cs, H7, s2, true, _, rfl, h7, goal rfl (by rw [if_neg k1, if_neg k2, if_neg (by omega)]; exact Took.fail _ _ _)⟩

end Go.Ev.Ytmljkoieihaomaa
