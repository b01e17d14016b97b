/- Contracts. -/
import Derived.Test.YtmljkoieihaomaaC4A1
namespace Go.Ev.Ytmljkoieihaomaa
set_option linter.unusedVariables false
set_option linter.unusedSimpArgs false
open Go.Ev
/-! Flags; methods. -/
theorem nat_and_pow (m i : Nat) : m &&& 2 ^ i = if m / 2 ^ i % 2 = 1 then 2 ^ i else 0 := by
  apply Nat.eq_of_testBit_eq
  intro j
  rw [Nat.testBit_and, Nat.testBit_two_pow]
  by_cases hj : i = j
  · subst hj
    rw [Nat.testBit_eq_decide_div_mod_eq]
    by_cases h : m / 2 ^ i % 2 = 1
    · simp [h]
    · simp [h]
  · have : decide (i = j) = false := by simpa using hj
    rw [this, Bool.and_false]
    split
    · rw [Nat.testBit_two_pow]; simp [hj]
    · simp
theorem bit_and (n : Int) (i : Nat) (hi : i < 4) : (BitVec.ofInt 64 n &&& BitVec.ofInt 64 ((2 ^ i : Nat) : Int)).toNat = if n / (2 ^ i : Nat) % 2 = 1 then 2 ^ i else 0 := by
  have h4 : i = 0 ∨ i = 1 ∨ i = 2 ∨ i = 3 := by omega
  rcases h4 with h | h | h | h <;> subst h
  all_goals
    rw [BitVec.toNat_and, BitVec.toNat_ofInt, BitVec.toNat_ofInt]
  · rw [show ((((2 ^ 0 : Nat) : Int)) % ((2 ^ 64 : Nat) : Int)).toNat = 2 ^ 0 from rfl, nat_and_pow]
    simp only [Nat.reducePow]
    split <;> split <;> omega
  · rw [show ((((2 ^ 1 : Nat) : Int)) % ((2 ^ 64 : Nat) : Int)).toNat = 2 ^ 1 from rfl, nat_and_pow]
    simp only [Nat.reducePow]
    split <;> split <;> omega
  · rw [show ((((2 ^ 2 : Nat) : Int)) % ((2 ^ 64 : Nat) : Int)).toNat = 2 ^ 2 from rfl, nat_and_pow]
    simp only [Nat.reducePow]
    split <;> split <;> omega
  · rw [show ((((2 ^ 3 : Nat) : Int)) % ((2 ^ 64 : Nat) : Int)).toNat = 2 ^ 3 from rfl, nat_and_pow]
    simp only [Nat.reducePow]
    split <;> split <;> omega
theorem bI_and (n : Int) (i : Nat) (hi : i < 4) : bI .and (.int .i64 n) (.int .i64 ((2 ^ i : Nat) : Int)) = some (.int .i64 (if n / (2 ^ i : Nat) % 2 = 1 then ((2 ^ i : Nat) : Int) else 0)) := by
  show some (D.int .i64 (IntKind.wrap .i64 (((BitVec.ofInt 64 n &&& BitVec.ofInt 64 ((2 ^ i : Nat) : Int)).toNat : Nat) : Int))) = _
  rw [bit_and n i hi]
  have h4 : i = 0 ∨ i = 1 ∨ i = 2 ∨ i = 3 := by omega
  rcases h4 with h | h | h | h <;> subst h <;> simp only [Nat.reducePow] <;> split <;> rfl
theorem rep_cells {H : Heap} {n : Nat} {d : D} {rows : Rows} {B : List Nat} (h : RepT true H n d (.list rows) B) : d.cells = [d] := by
  generalize ht : D.list rows = t at h
  cases h with
  | sc h => subst ht; cases h
  | sl0 => rfl
  | fz h => cases h
  | sl h1 h2 => rfl
  | agg h => cases ht
  | tup h => cases ht
theorem c84 (n : Int) : run E (exec E) false 84 [.int .i64 n] = some (.bool (isAbs n)) := by
  rw [run_ent, e84]
  have := bI_and n 3 (by decide)
  simp only [Nat.reducePow, Int.cast_ofNat_Int] at this
  rw [this]
  simp only [Option.bind_some, bI_neq, ret_one, readT_bool, isAbs]
  congr 2
  by_cases h : n / 8 % 2 = 1
  · rw [if_pos h]; simp; omega
  · rw [if_neg h]; simp; omega
abbrev mrow (m : SMethod) : List Cell := m.row.map Cell.own
theorem zmeth (m : SMethod) (h1 : m.Traps = []) (h2 : m.Frames = []) : RepR true [] 3 [.int .i64 m.Flags, .int .i64 m.Name, .int .i64 m.Desc, .int .i64 m.Deep, .int .i64 m.Locals, .str m.Code, .sl0, .sl0] m.row [] := by
  have : m.row = [.int .i64 m.Flags, .int .i64 m.Name, .int .i64 m.Desc, .int .i64 m.Deep, .int .i64 m.Locals, .str m.Code, .list [], .list []] := by simp [SMethod.row, h1, h2]
  rw [this]
  exact .cons (B := []) (B' := []) (.sc rfl) (.cons (B := []) (B' := []) (.sc rfl) (.cons (B := []) (B' := []) (.sc rfl) (.cons (B := []) (B' := []) (.sc rfl) (.cons (B := []) (B' := []) (.sc rfl) (.cons (B := []) (B' := []) (.sc rfl) (.cons (B := []) (B' := []) .sl0 (.cons (B := []) (B' := []) .sl0 .nil)))))))
theorem zmeth0 (m : SMethod) : ∀ f : Nat, m.row[f]? = some (D.list []) → [D.int .i64 m.Flags, .int .i64 m.Name, .int .i64 m.Desc, .int .i64 m.Deep, .int .i64 m.Locals, .str m.Code, .sl0, .sl0][f]? = some D.sl0 := fun f hf => by
  rcases f with _ | _ | _ | _ | _ | _ | _ | _ | f <;> simp [SMethod.row] at hf ⊢
theorem mcells (m : SMethod) : m.row.all D.isCell = true := rfl
theorem c39_end {H : Heap} {L : List Asset} {p q : Nat} {m : SMethod} {ts0 : List Cell} (h : Own H (.var 3 p (mrow m) :: .var 3 q ts0 :: L)) (h0 : ts0.length = 8) : ∃ cs H', ((ld true 8 H (.ptr p 0 0)).bind fun v => (st 8 H (.ptr q 0 0) v).bind fun H1 => ret_ H1 [ld true 8 H1 (.ptr q 0 0)]) = some (.agg cs, H') ∧ Own H' (.val 4 (.agg cs) (.agg m.row) :: L) := by
  obtain ⟨cs, H', e1, e2, e3, h1⟩ := h.copyout (z := 8) rfl h0
  simp only [e1, e2, e3, Option.bind_some, ret_one]
  exact ⟨cs, H', rfl, h1⟩
theorem c39_18 (b p q : Nat) (ts0 : List Cell) (h0 : ts0.length = 8) : ∀ (n : Nat) (m : SMethod) (H : Heap) (L : List Asset) (s : List UInt8) (bad : Bool), Own H (.var 3 p (mrow m) :: .var 3 q ts0 :: tk b s bad :: L) → m.Frames.length + n ≤ 1000 →
    ∃ cs H' s' bad' l, J E 39 18 [.ptr b 0 0, .ptr q 0 0, .ptr p 0 0, .int .i64 n] H = some (.agg cs, H') ∧ Own H' (.val 4 (.agg cs) (.agg (SMethod.row { m with Frames := m.Frames ++ l })) :: tk b s' bad' :: L) ∧ Took (gMany gFrame n) s bad l s' bad'
  | 0, m, H, L, s, bad, h, hn => by
    rw [j39_18]
    obtain ⟨cs, H', e1, h1⟩ := c39_end h h0
    simp only [bI_gtr, Int.natCast_zero, Int.lt_irrefl, decide_false, Option.bind_some, asB_bool, cond_false]
    exact ⟨cs, H', s, bad, [], e1, by simpa using h1, Took.pure _ _ _⟩
  | n + 1, m, H, L, s, bad, h, hn => by
    have hgt : (0 : Int) < ((n + 1 : Nat) : Int) := by omega
    have l1 := h.pull2.ld (f := 1) rfl rfl
    rw [j39_18]
    simp only [bI_gtr, hgt, decide_true, Option.bind_some, asB_bool, cond_true, nilCheck_ptr, fa_ptr, Nat.zero_add, l1, unOp_not]
    cases bad with
    | true =>
      obtain ⟨cs, H', e1, h1⟩ := c39_end h h0
      simp only [Bool.not_true, cond_false]
      exact ⟨cs, H', s, true, [], e1, by simpa using h1, Took.bad _ _ _⟩
    | false =>
      simp only [Bool.not_false, cond_true, call_raw]
      obtain ⟨t, H1, s1, b1, e1, h1, t1, g0, g1⟩ := c38 h.pull2
      simp only [e1, Option.bind_some]
      rw [show bld [.int .i64 0, .sl0, .sl0] [(0, 1, false), (1, 1, false), (2, 1, false)] [(0, .int .i64 t)] = some (.agg [.int .i64 t, .sl0, .sl0]) from rfl]
      simp only [Option.bind_some]
      rw [alloc_eq _ _ _ rfl]
      have z1 : ∀ t : Int, RepR true [] 2 [.int .i64 t, .sl0, .sl0] (SFrame.row ⟨t, [], []⟩) [] := fun t => .cons (B := []) (B' := []) (.sc rfl) (.cons (B := []) (B' := []) .sl0 (.cons (B := []) (B' := []) .sl0 .nil))
      have z2 : ∀ t : Int, ∀ f : Nat, (SFrame.row ⟨t, [], []⟩)[f]? = some (D.list []) → [D.int .i64 t, .sl0, .sl0][f]? = some D.sl0 := fun t f hf => by rcases f with _ | _ | _ | f <;> simp [SFrame.row] at hf ⊢
      obtain ⟨H3, e3, h3, -⟩ := (h1.alloc 2 (cs := [.int .i64 0, .sl0, .sl0]) (ts := SFrame.row ⟨0, [], []⟩) ((z1 0).frame fun c hc => by cases hc) rfl (z2 0)).init (cs := [.int .i64 t, .sl0, .sl0]) (ts := SFrame.row ⟨t, [], []⟩) ((z1 t).frame fun c hc => by cases hc) rfl (z2 t) (z := 3) rfl rfl
      obtain ⟨d4, H4, s4, b4, ll, e4, h4, t4⟩ := c85 h3.pull1
      obtain ⟨v5, q5⟩ := h4.val
      have c4 : d4.cells = [d4] := rep_cells q5.1
      obtain ⟨H5, e5, h5⟩ := h4.pull2.pull1.put (f := 1) (by decide) (by simp [SFrame.row]) rfl c4
      obtain ⟨d6, H6, s6, b6, ls, e6, h6, t6⟩ := c85 h5.pull1
      obtain ⟨v7, q7⟩ := h6.val
      have c6 : d6.cells = [d6] := rep_cells q7.1
      obtain ⟨H7, e7, h7⟩ := h6.pull2.pull1.put (f := 2) (by decide) (by simp [SFrame.row]) rfl c6
      simp only [e3, e4, e5, e6, e7, Option.bind_some, fa_ptr, Nat.zero_add]
      have h7' : Own H7 (.var 2 H1.length ((SFrame.row ⟨t, ll, ls⟩).map Cell.own) :: tk b s6 b6 :: .var 3 p (mrow m) :: .var 3 q ts0 :: L) := h7
      obtain ⟨d8, e8, h8⟩ := h7'.pull2.take (f := 7) (t := .list (m.Frames.map SFrame.row)) rfl
      obtain ⟨cs, e9, h9, -⟩ := (h8.pull2.whole (z := 3) rfl)
      obtain ⟨d10, H10, e10, e11, h10, c10⟩ := h9.pull1.app (n := 2) (t := SFrame.row ⟨t, ll, ls⟩) rowOf_agg (esz := 3) (eb := 56) (zero := [.int .i64 0, .sl0, .sl0]) rfl (by decide) rfl rfl (fun r hr => by obtain ⟨x, _, rfl⟩ := List.mem_map.mp hr; rfl) (by simp [maxLen]; omega)
      obtain ⟨H11, e12, h11⟩ := h10.put (f := 7) (by decide) (by simp [SMethod.row]) rfl c10
      simp only [e8, e9, e10, e11, e12, Option.bind_some, bI_sub]
      rw [wrap_i64 (n := ((n + 1 : Nat) : Int) - 1) (by omega) (by omega), show ((n + 1 : Nat) : Int) - 1 = (n : Int) by omega]
      have hrow : ((((mrow m).set 7 (Cell.raw d8)).set 7 (Cell.own (D.list (m.Frames.map SFrame.row ++ [SFrame.row ⟨t, ll, ls⟩]))))) = mrow { m with Frames := m.Frames ++ [⟨t, ll, ls⟩] } := by
        simp [mrow, SMethod.row]
      rw [hrow] at h11
      obtain ⟨cs', H', s', bad', l, e13, h13, t13⟩ := c39_18 b p q ts0 h0 n { m with Frames := m.Frames ++ [⟨t, ll, ls⟩] } H11 L s6 b6 (h11.pull2.pull1) (by simp; omega)
      refine ⟨cs', H', s', bad', ⟨t, ll, ls⟩ :: l, e13, by simpa using h13, ?_⟩
      show Took (bindG gFrame fun a => bindG (gMany gFrame n) fun l => pureG (a :: l)) s false _ s' bad'
      refine Took.seq ?_ (t13.seq (Took.pure _ _ _))
      exact t1.seq (t4.seq (t6.seq (Took.pure _ _ _)))
theorem c39_10 (b p q : Nat) (ts0 : List Cell) (h0 : ts0.length = 8) : ∀ (n : Nat) (m : SMethod) (H : Heap) (L : List Asset) (s : List UInt8) (bad : Bool), Own H (.var 3 p (mrow m) :: .var 3 q ts0 :: tk b s bad :: L) → m.Traps.length + n ≤ 1000 → m.Frames = [] →
    ∃ cs H' s' bad' l s1 b1 l2, J E 39 10 [.ptr b 0 0, .ptr q 0 0, .ptr p 0 0, .int .i64 n] H = some (.agg cs, H') ∧ Own H' (.val 4 (.agg cs) (.agg (SMethod.row { m with Traps := m.Traps ++ l, Frames := l2 })) :: tk b s' bad' :: L) ∧ Took (gMany gTrap n) s bad l s1 b1 ∧ Took (gList 8 gFrame) s1 b1 l2 s' bad' := by
  have fin : ∀ (m : SMethod) (H : Heap) (L : List Asset) (s : List UInt8) (bad : Bool), Own H (.var 3 p (mrow m) :: .var 3 q ts0 :: tk b s bad :: L) → m.Frames = [] →
      ∃ cs H' s' bad' l2, ((callFn E (exec E) .raw 36 [.ptr b 0 0] H).bind fun r58 => (callFn E (exec E) .raw 35 [.ptr b 0 0, r58.1, (D.int .i64 8)] r58.2).bind fun r59 => J E 39 18 [.ptr b 0 0, .ptr q 0 0, .ptr p 0 0, r59.1] r59.2) = some (.agg cs, H') ∧ Own H' (.val 4 (.agg cs) (.agg (SMethod.row { m with Frames := l2 })) :: tk b s' bad' :: L) ∧ Took (gList 8 gFrame) s bad l2 s' bad' := by
    intro m H L s bad h hf
    obtain ⟨t0, H1, s1, b1, e1, h1, t1, g0, g1⟩ := c36 h.pull2
    obtain ⟨t, H2, b2, e2, h2, t2, g2, g3, -⟩ := c35 h1 t1 g0 8 (by decide)
    simp only [call_raw, e1, e2, Option.bind_some]
    obtain ⟨k, rfl⟩ : ∃ k : Nat, t = k := ⟨t.toNat, by omega⟩
    obtain ⟨cs, H', s', bad', l, e8, h8, t8⟩ := c39_18 b p q ts0 h0 k m H2 L s1 b2 (h2.pull2.pull2) (by simp [hf]; omega)
    rw [hf, List.nil_append] at h8
    exact ⟨cs, H', s', bad', l, e8, h8, t2.seq t8⟩
  intro n
  induction n with
  | zero =>
    intro m H L s bad h hn hf
    rw [j39_10]
    simp only [bI_gtr, Int.natCast_zero, Int.lt_irrefl, decide_false, Option.bind_some, asB_bool, cond_false]
    obtain ⟨cs, H', s', bad', l2, e1, h1, t1⟩ := fin m H L s bad h hf
    exact ⟨cs, H', s', bad', [], s, bad, l2, e1, by simpa using h1, Took.pure _ _ _, t1⟩
  | succ n ih =>
    intro m H L s bad h hn hf
    have hgt : (0 : Int) < ((n + 1 : Nat) : Int) := by omega
    have l1 := h.pull2.ld (f := 1) rfl rfl
    rw [j39_10]
    simp only [bI_gtr, hgt, decide_true, Option.bind_some, asB_bool, cond_true, nilCheck_ptr, fa_ptr, Nat.zero_add, l1, unOp_not]
    cases bad with
    | true =>
      simp only [Bool.not_true, cond_false]
      obtain ⟨cs, H', s', bad', l2, e1, h1, t1⟩ := fin m H L s true h hf
      exact ⟨cs, H', s', bad', [], s, true, l2, e1, by simpa using h1, Took.bad _ _ _, t1⟩
    | false =>
      simp only [Bool.not_false, cond_true, call_raw]
      obtain ⟨t, H1, s1, b1, e1, h1, t1, g0, g1⟩ := c38 h.pull2
      simp only [e1, Option.bind_some]
      rw [show bld [.int .i64 0, .int .i64 0, .int .i64 0, .int .i64 0] [(0, 1, false), (1, 1, false), (2, 1, false), (3, 1, false)] [(0, .int .i64 t)] = some (.agg (STrap.row ⟨t, 0, 0, 0⟩)) from rfl]
      simp only [Option.bind_some]
      rw [alloc_eq _ _ _ rfl]
      have z2 : ∀ t : STrap, ∀ f : Nat, t.row[f]? = some (D.list []) → t.row[f]? = some D.sl0 := fun t f hf => by rcases f with _ | _ | _ | _ | f <;> simp [STrap.row] at hf
      obtain ⟨H3, e3, h3, -⟩ := (h1.alloc 0 (cs := STrap.row ⟨0, 0, 0, 0⟩) (ts := STrap.row ⟨0, 0, 0, 0⟩) (RepR.scalars rfl) rfl (z2 _)).init (cs := STrap.row ⟨t, 0, 0, 0⟩) (ts := STrap.row ⟨t, 0, 0, 0⟩) (RepR.scalars rfl) rfl (z2 _) (z := 4) rfl rfl
      rw [show H1 ++ [some [STrap.row ⟨0, 0, 0, 0⟩]] = H1 ++ [some [[D.int .i64 0, .int .i64 0, .int .i64 0, .int .i64 0]]] from rfl] at e3
      obtain ⟨t2, H4, s4, b4, e4, h4, k4, -, -⟩ := c38 h3.pull1
      obtain ⟨H5, e5, h5⟩ := h4.pull1.st (f := 1) (v := .int .i64 t2) (by simp [STrap.row]) rfl rfl
      obtain ⟨t3, H6, s6, b6, e6, h6, k6, -, -⟩ := c38 h5.pull1
      obtain ⟨H7, e7, h7⟩ := h6.pull1.st (f := 2) (v := .int .i64 t3) (by simp [STrap.row]) rfl rfl
      obtain ⟨t4, H8, s8, b8, e8, h8, k8, -, -⟩ := c38 h7.pull1
      obtain ⟨H9, e9, h9⟩ := h8.pull1.st (f := 3) (v := .int .i64 t4) (by simp [STrap.row]) rfl rfl
      simp only [e3, e4, e5, e6, e7, e8, e9, Option.bind_some, fa_ptr, Nat.zero_add]
      have h9' : Own H9 (.var 0 H1.length ((STrap.row ⟨t, t2, t3, t4⟩).map Cell.own) :: tk b s8 b8 :: .var 3 p (mrow m) :: .var 3 q ts0 :: L) := h9
      obtain ⟨d10, e10, h10⟩ := h9'.pull2.take (f := 6) (t := .list (m.Traps.map STrap.row)) rfl
      obtain ⟨cs, e11, h11, -⟩ := (h10.pull2.whole (z := 4) rfl)
      obtain ⟨d12, H12, e12, e13, h12, c12⟩ := h11.pull1.app (n := 2) (t := STrap.row ⟨t, t2, t3, t4⟩) (fun B hB => (rowOf_agg B hB).up (by decide)) (esz := 4) (eb := 32) (zero := [.int .i64 0, .int .i64 0, .int .i64 0, .int .i64 0]) rfl (by decide) rfl rfl (fun r hr => by obtain ⟨x, _, rfl⟩ := List.mem_map.mp hr; rfl) (by simp [maxLen]; omega)
      obtain ⟨H14, e14, h14⟩ := h12.put (f := 6) (by decide) (by simp [SMethod.row]) rfl c12
      simp only [e10, e11, e12, e13, e14, Option.bind_some, bI_sub]
      rw [wrap_i64 (n := ((n + 1 : Nat) : Int) - 1) (by omega) (by omega), show ((n + 1 : Nat) : Int) - 1 = (n : Int) by omega]
      have hrow : ((((mrow m).set 6 (Cell.raw d10)).set 6 (Cell.own (D.list (m.Traps.map STrap.row ++ [STrap.row ⟨t, t2, t3, t4⟩]))))) = mrow { m with Traps := m.Traps ++ [⟨t, t2, t3, t4⟩] } := by
        simp [mrow, SMethod.row]
      rw [hrow] at h14
      obtain ⟨cs', H', s', bad', l, s15, b15, l2, e15, h15, t15, t16⟩ := ih { m with Traps := m.Traps ++ [⟨t, t2, t3, t4⟩] } H14 L s8 b8 (h14.pull2.pull1) (by simp; omega) hf
      refine ⟨cs', H', s', bad', ⟨t, t2, t3, t4⟩ :: l, s15, b15, l2, e15, by simpa using h15, ?_, t16⟩
      show Took (bindG gTrap fun a => bindG (gMany gTrap n) fun l => pureG (a :: l)) s false _ s15 b15
      refine Took.seq ?_ (t15.seq (Took.pure _ _ _))
      exact t1.seq (k4.seq (k6.seq (k8.seq (Took.pure _ _ _))))
theorem c39 {H : Heap} {L : List Asset} {b : Nat} {s : List UInt8} {bad : Bool} (h : Own H (tk b s bad :: L)) : ∃ cs H' s' bad' m, ent E 39 [.ptr b 0 0] H = some (.agg cs, H') ∧ Own H' (.val 4 (.agg cs) (.agg (SMethod.row m)) :: tk b s' bad' :: L) ∧ Took gMethod s bad m s' bad' := by
  rw [e39, alloc_eq _ _ _ rfl]
  have h1 := h.alloc 3 (cs := [.int .i64 0, .int .i64 0, .int .i64 0, .int .i64 0, .int .i64 0, .str [], .sl0, .sl0]) (ts := (({} : SMethod)).row) ((zmeth {} rfl rfl).frame fun c hc => by cases hc) rfl (zmeth0 {})
  obtain ⟨f, H2, s2, b2, e2, h2, t2, g0, g1⟩ := c36 h1.pull1
  simp only [call_raw, e2, Option.bind_some]
  rw [show bld [.int .i64 0, .int .i64 0, .int .i64 0, .int .i64 0, .int .i64 0, .str [], .sl0, .sl0] [(0, 1, false), (1, 1, false), (2, 1, false), (3, 1, false), (4, 1, false), (5, 1, false), (6, 1, false), (7, 1, false)] [(0, .int .i64 f)] = some (.agg [.int .i64 f, .int .i64 0, .int .i64 0, .int .i64 0, .int .i64 0, .str [], .sl0, .sl0]) from rfl]
  simp only [Option.bind_some]
  rw [alloc_eq _ _ _ rfl]
  obtain ⟨H3, e3, h3, -⟩ := (h2.alloc 3 (cs := [.int .i64 0, .int .i64 0, .int .i64 0, .int .i64 0, .int .i64 0, .str [], .sl0, .sl0]) (ts := (({} : SMethod)).row) ((zmeth {} rfl rfl).frame fun c hc => by cases hc) rfl (zmeth0 {})).init (cs := [.int .i64 f, .int .i64 0, .int .i64 0, .int .i64 0, .int .i64 0, .str [], .sl0, .sl0]) (ts := SMethod.row ⟨f, 0, 0, 0, 0, [], [], []⟩) ((zmeth ⟨f, 0, 0, 0, 0, [], [], []⟩ rfl rfl).frame fun c hc => by cases hc) rfl (zmeth0 _) (z := 8) rfl rfl
  obtain ⟨nm, H4, s4, b4, e4, h4, t4, -, -⟩ := c38 h3.pull1
  obtain ⟨H5, e5, h5⟩ := h4.pull1.st (f := 1) (v := .int .i64 nm) (by simp [SMethod.row]) rfl rfl
  obtain ⟨ds, H6, s6, b6, e6, h6, t6, -, -⟩ := c38 h5.pull1
  obtain ⟨H7, e7, h7⟩ := h6.pull1.st (f := 2) (v := .int .i64 ds) (by simp [SMethod.row]) rfl rfl
  have h7' : Own H7 (.var 3 H2.length (mrow ⟨f, nm, ds, 0, 0, [], [], []⟩) :: tk b s6 b6 :: .var 3 H.length (mrow {}) :: L) := h7
  have l7 : ld false 1 H7 (.ptr H2.length 0 0) = some (.int .i64 f) := h7'.ld (f := 0) rfl rfl
  simp only [e3, e4, e5, e6, e7, l7, Option.bind_some, fa_ptr, Nat.zero_add]
  rw [pure_call (ts := [.int .i64 f]) (by simp) (c84 f)]
  simp only [Option.bind_some, asB_bool]
  have goal : ∀ {m : SMethod} {s' : List UInt8} {b' : Bool} {x : Get SMethod}, (x = if isAbs f = true then pureG ⟨f, nm, ds, 0, 0, [], [], []⟩ else gBody f nm ds) → Took x s6 b6 m s' b' → Took gMethod s bad m s' b' := by
    intro m s' b' x hx ht
    rw [hx] at ht
    exact t2.seq (t4.seq (t6.seq ht))
  cases ha : isAbs f with
  | true =>
    simp only [cond_true]
    obtain ⟨cs, H', e8, h8⟩ := c39_end (h7'.pull2.pull1) rfl
    exact ⟨cs, H', s6, b6, _, e8, h8, goal rfl (by rw [if_pos ha]; exact Took.pure _ _ _)⟩
  | false =>
    simp only [cond_false]
    obtain ⟨dp, H8, s8, b8, e8, h8, t8, -, -⟩ := c36 h7'.pull1
    obtain ⟨H9, e9, h9⟩ := h8.pull1.st (f := 3) (v := .int .i64 dp) (by simp [SMethod.row]) rfl rfl
    obtain ⟨lc, H10, s10, b10, e10, h10, t10, -, -⟩ := c36 h9.pull1
    obtain ⟨H11, e11, h11⟩ := h10.pull1.st (f := 4) (v := .int .i64 lc) (by simp [SMethod.row]) rfl rfl
    obtain ⟨c0, H12, s12, b12, e12, h12, t12, g12, -⟩ := c38 h11.pull1
    obtain ⟨cn, H13, b13, e13, h13, t13, g13, g14, -⟩ := c35 h12 t12 g12 120 (by decide)
    obtain ⟨cd, H14, s14, b14, e14, h14, t14, -, -⟩ := c34 h13 cn g13
    obtain ⟨H15, e15, h15⟩ := h14.pull1.st (f := 5) (v := .str cd) (by simp [SMethod.row]) rfl rfl
    obtain ⟨r0, H16, s16, b16, e16, h16, t16, g16, -⟩ := c36 h15.pull1
    obtain ⟨r, H17, b17, e17, h17, t17, g17, g18, -⟩ := c35 h16 t16 g16 3 (by decide)
    simp only [e8, e9, e10, e11, e12, e13, e14, e15, e16, e17, Option.bind_some]
    obtain ⟨k, rfl⟩ : ∃ k : Nat, r = k := ⟨r.toNat, by omega⟩
    have h17' : Own H17 (tk b s16 b17 :: .var 3 H2.length (mrow ⟨f, nm, ds, dp, lc, cd, [], []⟩) :: .var 3 H.length (mrow {}) :: L) := h17
    obtain ⟨cs, H', s', bad', l, s19, b19, l2, e19, h19, t19, t20⟩ := c39_10 b H2.length H.length _ rfl k ⟨f, nm, ds, dp, lc, cd, [], []⟩ H17 L s16 b17 (h17'.pull2.pull2) (by simp; omega) rfl
    refine ⟨cs, H', s', bad', ⟨f, nm, ds, dp, lc, cd, l, l2⟩, e19, h19, goal rfl ?_⟩
    rw [if_neg (by simp [ha])]
    exact t8.seq (t10.seq (t13.seq (t14.seq (Took.seq (g := gList 3 gTrap) (t17.seq t19) (t20.seq (Took.pure _ _ _))))))

end Go.Ev.Ytmljkoieihaomaa
