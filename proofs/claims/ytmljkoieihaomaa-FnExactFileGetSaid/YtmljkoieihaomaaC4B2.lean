/- Contracts. -/
import Derived.Test.YtmljkoieihaomaaC4B1
namespace Go.Ev.Ytmljkoieihaomaa
set_option linter.unusedVariables false
set_option linter.unusedSimpArgs false
open Go.Ev
theorem bld4 {a b c d : Int} : bld [.int .i64 0, .int .i64 0, .int .i64 0, .int .i64 0] [(0, 1, false), (1, 1, false), (2, 1, false), (3, 1, false)] [(0, .int .i64 a), (1, .int .i64 b), (2, .int .i64 c), (3, .int .i64 d)] = some (.agg [.int .i64 a, .int .i64 b, .int .i64 c, .int .i64 d]) := rfl
theorem c154_11 (b p q : Nat) (ts0 : List Cell) (h0 : ts0.length = 8) (s : List UInt8) (hs : s.length ≤ 900) (N : Nat) (hN : N ≤ 65535) : ∀ (n : Nat) (m : SMethod) (H : Heap) (L : List Asset) (k : Nat) (bad : Bool), Own H (.var 3 p (mrow m) :: .var 3 q ts0 :: rd b s k bad :: L) → k ≤ s.length → n ≤ N → m.Traps.length + n ≤ 100000 → m.Frames = [] →
    ∃ cs H' k' bad' l k1 b1 l2, J E 154 11 [.ptr b 0 0, .ptr p 0 0, .ptr q 0 0, .int .i64 N, .int .i64 ((N - n : Nat) : Int)] H = some (.agg cs, H') ∧ Own H' (.val 4 (.agg cs) (.agg (SMethod.row { m with Traps := m.Traps ++ l, Frames := l2 })) :: rd b s k' bad' :: L) ∧ k' ≤ s.length ∧ Took (gMany gTrap n) (s.drop k) bad l (s.drop k1) b1 ∧ Took (gList 8 gFrame) (s.drop k1) b1 l2 (s.drop k') bad' := by
  have fin : ∀ (m : SMethod) (H : Heap) (L : List Asset) (k : Nat) (bad : Bool), Own H (.var 3 p (mrow m) :: .var 3 q ts0 :: rd b s k bad :: L) → k ≤ s.length → m.Frames = [] →
      ∃ cs H' k' bad' l2, ((callFn E (exec E) .raw 129 [.ptr b 0 0] H).bind fun r39 => (bI .gtr r39.1 (D.int .i64 8)).bind fun v40 => asB v40 fun t => bif t then ((nilCheck (.ptr b 0 0)).bind fun v41 => (fa 2 v41).bind fun v42 => (st 1 r39.2 v42 (D.bool true)).bind fun H43 => J E 154 17 [.ptr b 0 0, .ptr p 0 0, .ptr q 0 0, r39.1] H43) else (J E 154 17 [.ptr b 0 0, .ptr p 0 0, .ptr q 0 0, r39.1] r39.2)) = some (.agg cs, H') ∧ Own H' (.val 4 (.agg cs) (.agg (SMethod.row { m with Frames := l2 })) :: rd b s k' bad' :: L) ∧ k' ≤ s.length ∧ Took (gList 8 gFrame) (s.drop k) bad l2 (s.drop k') bad' := by
    intro m H L k bad h hk hf
    obtain ⟨t, H1, k1, b1, e1, h1, q1, t1, g0, g1⟩ := c129 h.pull2 hk hs
    obtain ⟨H2, h2, e2⟩ := rlimit h1 t 8
    simp only [call_raw, e1, Option.bind_some]
    rw [e2, j154_17]
    obtain ⟨M, rfl⟩ : ∃ M : Nat, t = M := ⟨t.toNat, by omega⟩
    obtain ⟨cs, H', k', bad', l, e8, h8, q8, t8⟩ := c154_18 b p q ts0 h0 s hs M (by omega) M m H2 L k1 _ (h2.pull2.pull2) q1 (Nat.le_refl _) (by simp [hf]; omega)
    rw [hf, List.nil_append] at h8
    rw [Nat.sub_self] at e8
    exact ⟨cs, H', k', bad', l, e8, h8, q8, (rup t1).seq t8⟩
  intro n
  induction n with
  | zero =>
    intro m H L k bad h hk hn ha hf
    rw [j154_11, Nat.sub_zero]
    simp only [bI_lss, Int.lt_irrefl, decide_false, Option.bind_some, asB_bool, cond_false]
    obtain ⟨cs, H', k', bad', l2, e1, h1, q1, t1⟩ := fin m H L k bad h hk hf
    exact ⟨cs, H', k', bad', [], k, bad, l2, e1, by simpa using h1, q1, Took.pure _ _ _, t1⟩
  | succ n ih =>
    intro m H L k bad h hk hn ha hf
    have hlt : ((N - (n + 1) : Nat) : Int) < (N : Int) := by omega
    have l1 := h.pull2.ld (f := 2) rfl rfl
    rw [j154_11]
    simp only [bI_lss, hlt, decide_true, Option.bind_some, asB_bool, cond_true, nilCheck_ptr, fa_ptr, Nat.zero_add, l1, unOp_not]
    cases bad with
    | true =>
      simp only [Bool.not_true, cond_false]
      obtain ⟨cs, H', k', bad', l2, e1, h1, q1, t1⟩ := fin m H L k true h hk hf
      exact ⟨cs, H', k', bad', [], k, true, l2, e1, by simpa using h1, q1, Took.bad _ _ _, t1⟩
    | false =>
      obtain ⟨d, e1, h1⟩ := h.take (f := 6) (t := .list (m.Traps.map STrap.row)) rfl
      have hsame := rep_same h1.val.choose_spec.1
      obtain ⟨x1, H2, k2, b2, e2, h2, q2, t2, -, -⟩ := c130 h1.pull3 hk hs
      have l2 := h2.pull2.ldraw (f := 6) (d := d) rfl
      obtain ⟨x2, H3, k3, b3, e3, h3, q3, t3, -, -⟩ := c130 h2 q2 hs
      have l3 := h3.pull2.ldraw (f := 6) (d := d) rfl
      obtain ⟨x3, H4, k4, b4, e4, h4, q4, t4, -, -⟩ := c130 h3 q3 hs
      have l4 := h4.pull2.ldraw (f := 6) (d := d) rfl
      obtain ⟨x4, H5, k5, b5, e5, h5, q5, t5, -, -⟩ := c130 h4 q4 hs
      have l5 := h5.pull2.ldraw (f := 6) (d := d) rfl
      have h6 := h5.lit (n := 2) (cs := STrap.row ⟨x1, x2, x3, x4⟩) (ts := STrap.row ⟨x1, x2, x3, x4⟩) (RepR.scalars rfl) rfl (fun f hf => by rcases f with _ | _ | _ | _ | f <;> simp [STrap.row] at hf)
      obtain ⟨d7, H7, e6, e7, h7, c7⟩ := h6.pull2.app (n := 2) (t := STrap.row ⟨x1, x2, x3, x4⟩) rowOf_agg (esz := 4) (eb := 32) (zero := [.int .i64 0, .int .i64 0, .int .i64 0, .int .i64 0]) rfl (by decide) rfl rfl (fun r hr => by obtain ⟨x, _, rfl⟩ := List.mem_map.mp hr; rfl) (by simp [maxLen]; omega)
      obtain ⟨H8, e8, h8⟩ := h7.pull2.pull1.put (f := 6) (by decide) (by simp [SMethod.row]) rfl c7
      have e6' : bsl 4 [.int .i64 0, .int .i64 0, .int .i64 0, .int .i64 0] H5 1 [(0, .agg [.int .i64 x1, .int .i64 x2, .int .i64 x3, .int .i64 x4])] = some (.sl H5.length 0 1, H5 ++ [some [D.cells (.agg (STrap.row ⟨x1, x2, x3, x4⟩))]]) := e6
      simp only [Bool.not_false, cond_true, call_raw, e1, e2, l2, e3, l3, e4, l4, e5, l5, bld4, e6', e7, e8, Option.bind_some, again_same hsame, bI_add]
      rw [wrap_i64 (n := ((N - (n + 1) : Nat) : Int) + 1) (by omega) (by omega), show ((N - (n + 1) : Nat) : Int) + 1 = ((N - n : Nat) : Int) by omega]
      have hrow : ((((mrow m).set 6 (Cell.raw d)).set 6 (Cell.own (D.list (m.Traps.map STrap.row ++ [STrap.row ⟨x1, x2, x3, x4⟩]))))) = mrow { m with Traps := m.Traps ++ [⟨x1, x2, x3, x4⟩] } := by
        simp [mrow, SMethod.row]
      rw [hrow] at h8
      obtain ⟨cs', H', k', bad', l, k9, b9, l2', e13, h13, q13, t13, t14⟩ := ih { m with Traps := m.Traps ++ [⟨x1, x2, x3, x4⟩] } H8 L k5 b5 (h8.pull2.pull1) q5 (by omega) (by simp; omega) hf
      refine ⟨cs', H', k', bad', ⟨x1, x2, x3, x4⟩ :: l, k9, b9, l2', e13, by simpa using h13, q13, ?_, t14⟩
      show Took (bindG gTrap fun a => bindG (gMany gTrap n) fun l => pureG (a :: l)) (s.drop k) false _ (s.drop k9) b9
      refine Took.seq ?_ (t13.seq (Took.pure _ _ _))
      exact t2.seq (t3.seq (t4.seq (t5.seq (Took.pure _ _ _))))
theorem c154 {H : Heap} {L : List Asset} {b : Nat} {s : List UInt8} {k : Nat} {bad : Bool} (f nm ds : Int) (h : Own H (rd b s k bad :: L)) (hk : k ≤ s.length) (hs : s.length ≤ 900) : ∃ cs H' k' bad' m, ent E 154 [.ptr b 0 0, .agg [.int .i64 f, .int .i64 nm, .int .i64 ds, .int .i64 0, .int .i64 0, .str [], .sl0, .sl0]] H = some (.agg cs, H') ∧ Own H' (.val 4 (.agg cs) (.agg (SMethod.row m)) :: rd b s k' bad' :: L) ∧ k' ≤ s.length ∧ Took (gBody f nm ds) (s.drop k) bad m (s.drop k') bad' := by
  rw [e154, alloc_eq _ _ _ rfl, alloc_eq _ _ _ rfl]
  have h1 := h.alloc 3 (cs := [.int .i64 f, .int .i64 nm, .int .i64 ds, .int .i64 0, .int .i64 0, .str [], .sl0, .sl0]) (ts := SMethod.row ⟨f, nm, ds, 0, 0, [], [], []⟩) ((zmeth ⟨f, nm, ds, 0, 0, [], [], []⟩ rfl rfl).frame fun c hc => by cases hc) rfl (zmeth0 _)
  have h2 := h1.alloc 3 (cs := [.int .i64 0, .int .i64 0, .int .i64 0, .int .i64 0, .int .i64 0, .str [], .sl0, .sl0]) (ts := (({} : SMethod)).row) ((zmeth {} rfl rfl).frame fun c hc => by cases hc) rfl (zmeth0 {})
  rw [show D.cells (.agg [.int .i64 f, .int .i64 nm, .int .i64 ds, .int .i64 0, .int .i64 0, .str [], .sl0, .sl0]) = [.int .i64 f, .int .i64 nm, .int .i64 ds, .int .i64 0, .int .i64 0, .str [], .sl0, .sl0] from rfl]
  obtain ⟨dp, H3, k3, b3, e3, h3, q3, t3, -, -⟩ := c129 h2.pull2 hk hs
  obtain ⟨H4, e4, h4⟩ := h3.pull2.st (f := 3) (v := .int .i64 dp) (by simp [SMethod.row]) rfl rfl
  obtain ⟨lc, H5, k5, b5, e5, h5, q5, t5, -, -⟩ := c129 h4.pull1 q3 hs
  obtain ⟨H6, e6, h6⟩ := h5.pull1.st (f := 4) (v := .int .i64 lc) (by simp [SMethod.row]) rfl rfl
  obtain ⟨cn, H7, k7, b7, e7, h7, q7, t7, g7, g8⟩ := c130 h6.pull1 q5 hs
  obtain ⟨H8, h8, e8⟩ := rlimit h7 cn 120
  simp only [call_raw, e3, e4, e5, e6, e7, Option.bind_some, fa_ptr, Nat.zero_add]
  rw [e8, j154_6]
  obtain ⟨cd, H9, k9, b9, e9, h9, q9, t9⟩ := c127 h8 q7 hs cn g7 g8
  obtain ⟨H10, e10, h10⟩ := h9.pull1.st (f := 5) (v := .str cd) (by simp [SMethod.row]) rfl rfl
  obtain ⟨r, H11, k11, b11, e11, h11, q11, t11, g11, g12⟩ := c129 h10.pull1 q9 hs
  obtain ⟨H12, h12, e12⟩ := rlimit h11 r 3
  simp only [call_raw, e9, e10, e11, Option.bind_some, fa_ptr, Nat.zero_add]
  rw [e12, j154_10]
  obtain ⟨M, rfl⟩ : ∃ M : Nat, r = M := ⟨r.toNat, by omega⟩
  obtain ⟨cs, H', k', bad', l, k13, b13, l2, e13, h13, q13, t13, t14⟩ := c154_11 b H.length _ _ rfl s hs M (by omega) M ⟨f, nm, ds, dp, lc, cd, [], []⟩ H12 L k11 _ (h12.pull1.pull2.pull1) q11 (Nat.le_refl _) (by simp; omega) rfl
  rw [Nat.sub_self] at e13
  refine ⟨cs, H', k', bad', ⟨f, nm, ds, dp, lc, cd, l, l2⟩, e13, h13, q13, ?_⟩
  exact t3.seq (t5.seq ((rup t7).seq (t9.seq (Took.seq (g := gList 3 gTrap) ((rup t11).seq t13) (t14.seq (Took.pure _ _ _))))))
theorem c131 {H : Heap} {L : List Asset} {b : Nat} {s : List UInt8} {k : Nat} {bad : Bool} (h : Own H (rd b s k bad :: L)) (hk : k ≤ s.length) (hs : s.length ≤ 900) : ∃ cs H' k' bad' m, ent E 131 [.ptr b 0 0] H = some (.agg cs, H') ∧ Own H' (.val 4 (.agg cs) (.agg (SMethod.row m)) :: rd b s k' bad' :: L) ∧ k' ≤ s.length ∧ Took gMethod (s.drop k) bad m (s.drop k') bad' := by
  rw [e131, alloc_eq _ _ _ rfl]
  have h1 := h.alloc 3 (cs := [.int .i64 0, .int .i64 0, .int .i64 0, .int .i64 0, .int .i64 0, .str [], .sl0, .sl0]) (ts := (({} : SMethod)).row) ((zmeth {} rfl rfl).frame fun c hc => by cases hc) rfl (zmeth0 {})
  obtain ⟨f, H2, k2, b2, e2, h2, q2, t2, g0, g1⟩ := c129 h1.pull1 hk hs
  obtain ⟨nm, H3, k3, b3, e3, h3, q3, t3, -, -⟩ := c130 h2 q2 hs
  obtain ⟨ds, H4, k4, b4, e4, h4, q4, t4, -, -⟩ := c130 h3 q3 hs
  simp only [call_raw, e2, e3, e4, Option.bind_some]
  rw [show bld [.int .i64 0, .int .i64 0, .int .i64 0, .int .i64 0, .int .i64 0, .str [], .sl0, .sl0] [(0, 1, false), (1, 1, false), (2, 1, false), (3, 1, false), (4, 1, false), (5, 1, false), (6, 1, false), (7, 1, false)] [(0, .int .i64 f), (1, .int .i64 nm), (2, .int .i64 ds)] = some (.agg [.int .i64 f, .int .i64 nm, .int .i64 ds, .int .i64 0, .int .i64 0, .str [], .sl0, .sl0]) from rfl]
  simp only [Option.bind_some]
  rw [alloc_eq _ _ _ rfl]
  obtain ⟨H5, e5, h5, l5⟩ := (h4.alloc 3 (cs := [.int .i64 0, .int .i64 0, .int .i64 0, .int .i64 0, .int .i64 0, .str [], .sl0, .sl0]) (ts := (({} : SMethod)).row) ((zmeth {} rfl rfl).frame fun c hc => by cases hc) rfl (zmeth0 {})).init (cs := [.int .i64 f, .int .i64 nm, .int .i64 ds, .int .i64 0, .int .i64 0, .str [], .sl0, .sl0]) (ts := SMethod.row ⟨f, nm, ds, 0, 0, [], [], []⟩) ((zmeth ⟨f, nm, ds, 0, 0, [], [], []⟩ rfl rfl).frame fun c hc => by cases hc) rfl (zmeth0 _) (z := 8) rfl rfl
  have l0 : ld false 1 H5 (.ptr H4.length 0 0) = some (.int .i64 f) := h5.ld (f := 0) rfl rfl
  simp only [e5, Option.bind_some, fa_ptr, Nat.zero_add, l0, bI_rem _ _ _ (show (16 : Int) ≠ 0 by decide), bI_quo _ _ _ (show (8 : Int) ≠ 0 by decide), bI_eql, asB_bool]
  rw [Int.tmod_eq_emod_of_nonneg g0, Int.tdiv_eq_ediv_of_nonneg (Int.emod_nonneg _ (by decide)), wrap_i64 (n := f % 16 / 8) (by omega) (by omega)]
  have goal : ∀ {m : SMethod} {s' : List UInt8} {b' : Bool} {x : Get SMethod}, (x = if isAbs f = true then pureG ⟨f, nm, ds, 0, 0, [], [], []⟩ else gBody f nm ds) → Took x (s.drop k4) b4 m s' b' → Took gMethod (s.drop k) bad m s' b' := by
    intro m s' b' x hx ht
    rw [hx] at ht
    exact t2.seq (t3.seq (t4.seq ht))
  have hab : decide (f % 16 / 8 = 1) = isAbs f := rfl
  rw [hab]
  cases ha : isAbs f with
  | true =>
    simp only [cond_true]
    obtain ⟨cs, H', e8, h8⟩ := c154_end (h5.pull2.pull1) rfl
    exact ⟨cs, H', k4, b4, _, e8, h8, q4, goal rfl (by rw [if_pos ha]; exact Took.pure _ _ _)⟩
  | false =>
    simp only [cond_false, l5, Option.bind_some]
    obtain ⟨cs, H6, k6, b6, m, e6, h6, q6, t6⟩ := c154 f nm ds h5.pull1 q4 hs
    obtain ⟨H7, e7, h7, l7⟩ := (h6.pull3.pull1).over (m := 3) (n := 3) (by decide) (z := 8) rfl rfl
    obtain ⟨cs', e9, h9, -⟩ := h7.whole (z := 8) rfl
    rw [l7] at e9
    cases e9
    simp only [call_raw, e6, e7, l7, Option.bind_some, ret_one]
    exact ⟨cs, H7, k6, b6, m, rfl, h9.pull2.drop, q6, goal rfl (by rw [if_neg (by simp [ha])]; exact t6)⟩

end Go.Ev.Ytmljkoieihaomaa
