/- Contracts. -/
import Derived.Test.YtmljkoieihaomaaC4B2
namespace Go.Ev.Ytmljkoieihaomaa
set_option linter.unusedVariables false
set_option linter.unusedSimpArgs false
open Go.Ev
theorem c83_26 (b p q : Nat) (ts0 : List Cell) (h0 : ts0.length = 7) (s : List UInt8) (hs : s.length ≤ 900) (N : Nat) (hN : N ≤ 65535) : ∀ (n : Nat) (c : SClass) (H : Heap) (L : List Asset) (k : Nat) (bad : Bool), Own H (.var 4 p (crow c) :: .var 4 q ts0 :: rd b s k bad :: L) → k ≤ s.length → n ≤ N → c.Methods.length + n ≤ 100000 →
    ∃ cs H' k' bad' l, J E 83 26 [.ptr b 0 0, .ptr q 0 0, .ptr p 0 0, .int .i64 N, .int .i64 ((N - n : Nat) : Int)] H = some (.agg cs, H') ∧ Own H' (.val 5 (.agg cs) (.agg (SClass.row { c with Methods := c.Methods ++ l })) :: rd b s k' bad' :: L) ∧ k' ≤ s.length ∧ Took (gMany gMethod n) (s.drop k) bad l (s.drop k') bad'
  | 0, c, H, L, k, bad, h, hk, hn, ha => by
    rw [j83_26, Nat.sub_zero]
    obtain ⟨cs, H', e1, e2, e3, h1⟩ := h.copyout (z := 7) rfl h0
    simp only [bI_lss, Int.lt_irrefl, decide_false, Option.bind_some, asB_bool, cond_false, e1, e2, e3, ret_one]
    exact ⟨cs, H', k, bad, [], rfl, by simpa using h1, hk, Took.pure _ _ _⟩
  | n + 1, c, H, L, k, bad, h, hk, hn, ha => by
    have hlt : ((N - (n + 1) : Nat) : Int) < (N : Int) := by omega
    have l1 := h.pull2.ld (f := 2) rfl rfl
    rw [j83_26]
    simp only [bI_lss, hlt, decide_true, Option.bind_some, asB_bool, cond_true, nilCheck_ptr, fa_ptr, Nat.zero_add, l1, unOp_not]
    cases bad with
    | true =>
      obtain ⟨cs, H', e1, e2, e3, h1⟩ := h.copyout (z := 7) rfl h0
      simp only [Bool.not_true, cond_false, e1, e2, e3, Option.bind_some, ret_one]
      exact ⟨cs, H', k, true, [], rfl, by simpa using h1, hk, Took.bad _ _ _⟩
    | false =>
      obtain ⟨d, e1, h1⟩ := h.take (f := 6) (t := .list (c.Methods.map SMethod.row)) rfl
      have hsame := rep_same h1.val.choose_spec.1
      obtain ⟨cs, H2, k2, b2, m, e2, h2, q2, t2⟩ := c131 h1.pull3 hk hs
      have l2 := (h2.pull3.ldraw (f := 6) (d := d) rfl)
      obtain ⟨d3, H3, e3, e4, h3, c3⟩ := h2.pull2.app (n := 3) (t := m.row) rowOf_agg (esz := 8) (eb := 104) (zero := [.int .i64 0, .int .i64 0, .int .i64 0, .int .i64 0, .int .i64 0, .str [], .sl0, .sl0]) rfl (by decide) rfl rfl (fun r hr => by obtain ⟨x, _, rfl⟩ := List.mem_map.mp hr; rfl) (by simp [maxLen]; omega)
      obtain ⟨H5, e5, h5⟩ := h3.pull2.pull1.put (f := 6) (by decide) (by simp [SClass.row]) rfl c3
      simp only [Bool.not_false, cond_true, call_raw, e1, e2, l2, e3, e4, e5, Option.bind_some, again_same hsame, bI_add]
      rw [wrap_i64 (n := ((N - (n + 1) : Nat) : Int) + 1) (by omega) (by omega), show ((N - (n + 1) : Nat) : Int) + 1 = ((N - n : Nat) : Int) by omega]
      have hrow : ((((crow c).set 6 (Cell.raw d)).set 6 (Cell.own (D.list (c.Methods.map SMethod.row ++ [m.row]))))) = crow { c with Methods := c.Methods ++ [m] } := by
        simp [crow, SClass.row]
      rw [hrow] at h5
      obtain ⟨cs', H', k', bad', l, e9, h9, q9, t9⟩ := c83_26 b p q ts0 h0 s hs N hN n { c with Methods := c.Methods ++ [m] } H5 L k2 b2 (h5.pull2.pull1) q2 (by omega) (by simp; omega)
      refine ⟨cs', H', k', bad', m :: l, e9, by simpa using h9, q9, ?_⟩
      show Took (bindG gMethod fun a => bindG (gMany gMethod n) fun l => pureG (a :: l)) (s.drop k) false (m :: l) (s.drop k') bad'
      exact t2.seq (t9.seq (Took.pure _ _ _))
theorem bld3i {a b c : Int} : bld [.int .i64 0, .int .i64 0, .int .i64 0] [(0, 1, false), (1, 1, false), (2, 1, false)] [(0, .int .i64 a), (1, .int .i64 b), (2, .int .i64 c)] = some (.agg [.int .i64 a, .int .i64 b, .int .i64 c]) := rfl
theorem c83_19 (b p q : Nat) (ts0 : List Cell) (h0 : ts0.length = 7) (s : List UInt8) (hs : s.length ≤ 900) (N : Nat) (hN : N ≤ 65535) : ∀ (n : Nat) (c : SClass) (H : Heap) (L : List Asset) (k : Nat) (bad : Bool), Own H (.var 4 p (crow c) :: .var 4 q ts0 :: rd b s k bad :: L) → k ≤ s.length → n ≤ N → c.Fields.length + n ≤ 100000 → c.Methods = [] →
    ∃ cs H' k' bad' l k1 b1 l2, J E 83 19 [.ptr b 0 0, .ptr q 0 0, .ptr p 0 0, .int .i64 N, .int .i64 ((N - n : Nat) : Int)] H = some (.agg cs, H') ∧ Own H' (.val 5 (.agg cs) (.agg (SClass.row { c with Fields := c.Fields ++ l, Methods := l2 })) :: rd b s k' bad' :: L) ∧ k' ≤ s.length ∧ Took (gMany gField n) (s.drop k) bad l (s.drop k1) b1 ∧ Took (gList 6 gMethod) (s.drop k1) b1 l2 (s.drop k') bad' := by
  have rest : ∀ (c : SClass) (H : Heap) (L : List Asset) (k : Nat) (bad : Bool), Own H (.var 4 p (crow c) :: .var 4 q ts0 :: rd b s k bad :: L) → k ≤ s.length → c.Methods = [] →
      ∃ cs H' k' bad' l2, ((callFn E (exec E) .raw 129 [.ptr b 0 0] H).bind fun r39 => (bI .gtr r39.1 (D.int .i64 6)).bind fun v40 => asB v40 fun t => bif t then ((nilCheck (.ptr b 0 0)).bind fun v41 => (fa 2 v41).bind fun v42 => (st 1 r39.2 v42 (D.bool true)).bind fun H43 => J E 83 25 [.ptr b 0 0, .ptr q 0 0, .ptr p 0 0, r39.1] H43) else (J E 83 25 [.ptr b 0 0, .ptr q 0 0, .ptr p 0 0, r39.1] r39.2)) = some (.agg cs, H') ∧ Own H' (.val 5 (.agg cs) (.agg (SClass.row { c with Methods := l2 })) :: rd b s k' bad' :: L) ∧ k' ≤ s.length ∧ Took (gList 6 gMethod) (s.drop k) bad l2 (s.drop k') bad' := by
    intro c H L k bad h hk hf
    obtain ⟨t, H1, k1, b1, e1, h1, q1, t1, g0, g1⟩ := c129 h.pull2 hk hs
    obtain ⟨H2, h2, e2⟩ := rlimit h1 t 6
    simp only [call_raw, e1, Option.bind_some]
    rw [e2, j83_25]
    obtain ⟨M, rfl⟩ : ∃ M : Nat, t = M := ⟨t.toNat, by omega⟩
    obtain ⟨cs, H', k', bad', l, e8, h8, q8, t8⟩ := c83_26 b p q ts0 h0 s hs M (by omega) M c H2 L k1 _ (h2.pull2.pull2) q1 (Nat.le_refl _) (by simp [hf]; omega)
    rw [hf, List.nil_append] at h8
    rw [Nat.sub_self] at e8
    exact ⟨cs, H', k', bad', l, e8, h8, q8, (rup t1).seq t8⟩
  intro n
  induction n with
  | zero =>
    intro c H L k bad h hk hn ha hf
    rw [j83_19, Nat.sub_zero]
    simp only [bI_lss, Int.lt_irrefl, decide_false, Option.bind_some, asB_bool, cond_false]
    obtain ⟨cs, H', k', bad', l2, e1, h1, q1, t1⟩ := rest c H L k bad h hk hf
    exact ⟨cs, H', k', bad', [], k, bad, l2, e1, by simpa using h1, q1, Took.pure _ _ _, t1⟩
  | succ n ih =>
    intro c H L k bad h hk hn ha hf
    have hlt : ((N - (n + 1) : Nat) : Int) < (N : Int) := by omega
    have l1 := h.pull2.ld (f := 2) rfl rfl
    rw [j83_19]
    simp only [bI_lss, hlt, decide_true, Option.bind_some, asB_bool, cond_true, nilCheck_ptr, fa_ptr, Nat.zero_add, l1, unOp_not]
    cases bad with
    | true =>
      simp only [Bool.not_true, cond_false]
      obtain ⟨cs, H', k', bad', l2, e1, h1, q1, t1⟩ := rest c H L k true h hk hf
      exact ⟨cs, H', k', bad', [], k, true, l2, e1, by simpa using h1, q1, Took.bad _ _ _, t1⟩
    | false =>
      obtain ⟨d, e1, h1⟩ := h.take (f := 5) (t := .list (c.Fields.map SField.row)) rfl
      have hsame := rep_same h1.val.choose_spec.1
      obtain ⟨x1, H2, k2, b2, e2, h2, q2, t2, -, -⟩ := c129 h1.pull3 hk hs
      have l2 := h2.pull2.ldraw (f := 5) (d := d) rfl
      obtain ⟨x2, H3, k3, b3, e3, h3, q3, t3, -, -⟩ := c130 h2 q2 hs
      have l3 := h3.pull2.ldraw (f := 5) (d := d) rfl
      obtain ⟨x3, H4, k4, b4, e4, h4, q4, t4, -, -⟩ := c130 h3 q3 hs
      have l4 := h4.pull2.ldraw (f := 5) (d := d) rfl
      have h6 := h4.lit (n := 3) (cs := SField.row ⟨x1, x2, x3⟩) (ts := SField.row ⟨x1, x2, x3⟩) (RepR.scalars rfl) rfl (fun f hf => by rcases f with _ | _ | _ | f <;> simp [SField.row] at hf)
      obtain ⟨d7, H7, e6, e7, h7, c7⟩ := h6.pull2.app (n := 3) (t := SField.row ⟨x1, x2, x3⟩) rowOf_agg (esz := 3) (eb := 24) (zero := [.int .i64 0, .int .i64 0, .int .i64 0]) rfl (by decide) rfl rfl (fun r hr => by obtain ⟨x, _, rfl⟩ := List.mem_map.mp hr; rfl) (by simp [maxLen]; omega)
      obtain ⟨H8, e8, h8⟩ := h7.pull2.pull1.put (f := 5) (by decide) (by simp [SClass.row]) rfl c7
      have e6' : bsl 3 [.int .i64 0, .int .i64 0, .int .i64 0] H4 1 [(0, .agg [.int .i64 x1, .int .i64 x2, .int .i64 x3])] = some (.sl H4.length 0 1, H4 ++ [some [D.cells (.agg (SField.row ⟨x1, x2, x3⟩))]]) := e6
      simp only [Bool.not_false, cond_true, call_raw, e1, e2, l2, e3, l3, e4, l4, bld3i, e6', e7, e8, Option.bind_some, again_same hsame, bI_add]
      rw [wrap_i64 (n := ((N - (n + 1) : Nat) : Int) + 1) (by omega) (by omega), show ((N - (n + 1) : Nat) : Int) + 1 = ((N - n : Nat) : Int) by omega]
      have hrow : ((((crow c).set 5 (Cell.raw d)).set 5 (Cell.own (D.list (c.Fields.map SField.row ++ [SField.row ⟨x1, x2, x3⟩]))))) = crow { c with Fields := c.Fields ++ [⟨x1, x2, x3⟩] } := by
        simp [crow, SClass.row]
      rw [hrow] at h8
      obtain ⟨cs', H', k', bad', l, k9, b9, l2', e13, h13, q13, t13, t14⟩ := ih { c with Fields := c.Fields ++ [⟨x1, x2, x3⟩] } H8 L k4 b4 (h8.pull2.pull1) q4 (by omega) (by simp; omega) hf
      refine ⟨cs', H', k', bad', ⟨x1, x2, x3⟩ :: l, k9, b9, l2', e13, by simpa using h13, q13, ?_, t14⟩
      show Took (bindG gField fun a => bindG (gMany gField n) fun l => pureG (a :: l)) (s.drop k) false _ (s.drop k9) b9
      refine Took.seq ?_ (t13.seq (Took.pure _ _ _))
      exact t2.seq (t3.seq (t4.seq (Took.pure _ _ _)))
theorem c83_12 (b p q : Nat) (ts0 : List Cell) (h0 : ts0.length = 7) (s : List UInt8) (hs : s.length ≤ 900) (N : Nat) (hN : N ≤ 65535) : ∀ (n : Nat) (c : SClass) (H : Heap) (L : List Asset) (k : Nat) (bad : Bool), Own H (.var 4 p (crow c) :: .var 4 q ts0 :: rd b s k bad :: L) → k ≤ s.length → n ≤ N → c.Faces.length + n ≤ 100000 → c.Fields = [] → c.Methods = [] →
    ∃ cs H' k' bad' l k1 b1 l2 k2 b2 l3, J E 83 12 [.ptr b 0 0, .ptr q 0 0, .ptr p 0 0, .int .i64 N, .int .i64 ((N - n : Nat) : Int)] H = some (.agg cs, H') ∧ Own H' (.val 5 (.agg cs) (.agg (SClass.row { c with Faces := c.Faces ++ l, Fields := l2, Methods := l3 })) :: rd b s k' bad' :: L) ∧ k' ≤ s.length ∧ Took (gMany gTwo n) (s.drop k) bad l (s.drop k1) b1 ∧ Took (gList 5 gField) (s.drop k1) b1 l2 (s.drop k2) b2 ∧ Took (gList 6 gMethod) (s.drop k2) b2 l3 (s.drop k') bad' := by
  have rest : ∀ (c : SClass) (H : Heap) (L : List Asset) (k : Nat) (bad : Bool), Own H (.var 4 p (crow c) :: .var 4 q ts0 :: rd b s k bad :: L) → k ≤ s.length → c.Fields = [] → c.Methods = [] →
      ∃ cs H' k' bad' l2 k2 b2 l3, ((callFn E (exec E) .raw 129 [.ptr b 0 0] H).bind fun r39 => (bI .gtr r39.1 (D.int .i64 5)).bind fun v40 => asB v40 fun t => bif t then ((nilCheck (.ptr b 0 0)).bind fun v41 => (fa 2 v41).bind fun v42 => (st 1 r39.2 v42 (D.bool true)).bind fun H43 => J E 83 18 [.ptr b 0 0, .ptr q 0 0, .ptr p 0 0, r39.1] H43) else (J E 83 18 [.ptr b 0 0, .ptr q 0 0, .ptr p 0 0, r39.1] r39.2)) = some (.agg cs, H') ∧ Own H' (.val 5 (.agg cs) (.agg (SClass.row { c with Fields := l2, Methods := l3 })) :: rd b s k' bad' :: L) ∧ k' ≤ s.length ∧ Took (gList 5 gField) (s.drop k) bad l2 (s.drop k2) b2 ∧ Took (gList 6 gMethod) (s.drop k2) b2 l3 (s.drop k') bad' := by
    intro c H L k bad h hk hf hm
    obtain ⟨t, H1, k1, b1, e1, h1, q1, t1, g0, g1⟩ := c129 h.pull2 hk hs
    obtain ⟨H2, h2, e2⟩ := rlimit h1 t 5
    simp only [call_raw, e1, Option.bind_some]
    rw [e2, j83_18]
    obtain ⟨M, rfl⟩ : ∃ M : Nat, t = M := ⟨t.toNat, by omega⟩
    obtain ⟨cs, H', k', bad', l, k2, b2, l3, e8, h8, q8, t8, t9⟩ := c83_19 b p q ts0 h0 s hs M (by omega) M c H2 L k1 _ (h2.pull2.pull2) q1 (Nat.le_refl _) (by simp [hf]; omega) hm
    rw [hf, List.nil_append] at h8
    rw [Nat.sub_self] at e8
    exact ⟨cs, H', k', bad', l, k2, b2, l3, e8, h8, q8, (rup t1).seq t8, t9⟩
  intro n
  induction n with
  | zero =>
    intro c H L k bad h hk hn ha hf hm
    rw [j83_12, Nat.sub_zero]
    simp only [bI_lss, Int.lt_irrefl, decide_false, Option.bind_some, asB_bool, cond_false]
    obtain ⟨cs, H', k', bad', l2, k2, b2, l3, e1, h1, q1, t1, t2⟩ := rest c H L k bad h hk hf hm
    exact ⟨cs, H', k', bad', [], k, bad, l2, k2, b2, l3, e1, by simpa using h1, q1, Took.pure _ _ _, t1, t2⟩
  | succ n ih =>
    intro c H L k bad h hk hn ha hf hm
    have hlt : ((N - (n + 1) : Nat) : Int) < (N : Int) := by omega
    have l1 := h.pull2.ld (f := 2) rfl rfl
    rw [j83_12]
    simp only [bI_lss, hlt, decide_true, Option.bind_some, asB_bool, cond_true, nilCheck_ptr, fa_ptr, Nat.zero_add, l1, unOp_not]
    cases bad with
    | true =>
      simp only [Bool.not_true, cond_false]
      obtain ⟨cs, H', k', bad', l2, k2, b2, l3, e1, h1, q1, t1, t2⟩ := rest c H L k true h hk hf hm
      exact ⟨cs, H', k', bad', [], k, true, l2, k2, b2, l3, e1, by simpa using h1, q1, Took.bad _ _ _, t1, t2⟩
    | false =>
      obtain ⟨d, e1, h1⟩ := h.take (f := 4) (t := .list (c.Faces.map rInt)) rfl
      have hsame := rep_same h1.val.choose_spec.1
      obtain ⟨x1, H2, k2, b2, e2, h2, q2, t2, -, -⟩ := c130 h1.pull3 hk hs
      have l2 := h2.pull2.ldraw (f := 4) (d := d) rfl
      obtain ⟨d7, H7, e6, e7, h7, c7⟩ := ((h2.sc 3 (v := .int .i64 x1) rfl).pull2).app (n := 3) (t := rInt x1) (rowOf_sc rfl rfl) (esz := 1) (eb := 8) (zero := [.int .i64 0]) rfl (by decide) rfl rfl (fun r hr => by obtain ⟨x, _, rfl⟩ := List.mem_map.mp hr; rfl) (by simp [maxLen]; omega)
      obtain ⟨H8, e8, h8⟩ := h7.pull2.pull1.put (f := 4) (by decide) (by simp [SClass.row]) rfl c7
      simp only [Bool.not_false, cond_true, call_raw, e1, e2, l2, e6, e7, e8, Option.bind_some, again_same hsame, bI_add]
      rw [wrap_i64 (n := ((N - (n + 1) : Nat) : Int) + 1) (by omega) (by omega), show ((N - (n + 1) : Nat) : Int) + 1 = ((N - n : Nat) : Int) by omega]
      have hrow : ((((crow c).set 4 (Cell.raw d)).set 4 (Cell.own (D.list (c.Faces.map rInt ++ [rInt x1]))))) = crow { c with Faces := c.Faces ++ [x1] } := by
        simp [crow, SClass.row]
      rw [hrow] at h8
      obtain ⟨cs', H', k', bad', l, k9, b9, l2', k10, b10, l3', e13, h13, q13, t13, t14, t15⟩ := ih { c with Faces := c.Faces ++ [x1] } H8 L k2 b2 (h8.pull2.pull1) q2 (by omega) (by simp; omega) hf hm
      refine ⟨cs', H', k', bad', x1 :: l, k9, b9, l2', k10, b10, l3', e13, by simpa using h13, q13, ?_, t14, t15⟩
      show Took (bindG gTwo fun a => bindG (gMany gTwo n) fun l => pureG (a :: l)) (s.drop k) false _ (s.drop k9) b9
      exact t2.seq (t13.seq (Took.pure _ _ _))
def gRest : Get SClass := bindG (gList 60 gConst) fun p => bindG gOne fun f => bindG gTwo fun n => bindG gTwo fun u => bindG (gList 3 gTwo) fun a => bindG (gList 5 gField) fun i => bindG (gList 6 gMethod) fun m => pureG ⟨p, f, n, u, a, i, m⟩
theorem c83_4 (b p q : Nat) (ts0 : List Cell) (h0 : ts0.length = 7) (s : List UInt8) (hs : s.length ≤ 900) {H : Heap} {L : List Asset} {k : Nat} {bad : Bool} (h : Own H (.var 4 p (crow {}) :: .var 4 q ts0 :: rd b s k bad :: L)) (hk : k ≤ s.length) :
    ∃ cs H' k' bad' c, J E 83 4 [.ptr b 0 0, .ptr q 0 0, .ptr p 0 0] H = some (.agg cs, H') ∧ Own H' (.val 5 (.agg cs) (.agg (SClass.row c)) :: rd b s k' bad' :: L) ∧ k' ≤ s.length ∧ Took gRest (s.drop k) bad c (s.drop k') bad' := by
  rw [j83_4]
  obtain ⟨d1, H1, k1, b1, pl, e1, h1, q1, t1⟩ := c128 h.pull2 hk hs
  have c1 := h1.cellOf
  obtain ⟨H2, e2, h2⟩ := h1.pull2.pull1.put (f := 0) (by decide) (by simp [SClass.row]) rfl c1.1
  obtain ⟨f, H3, k3, b3, e3, h3, q3, t3, -, -⟩ := c129 h2.pull1 q1 hs
  obtain ⟨H4, e4, h4⟩ := h3.pull1.st (f := 1) (v := .int .i64 f) (by simp [SClass.row]) rfl rfl
  obtain ⟨nm, H5, k5, b5, e5, h5, q5, t5, -, -⟩ := c130 h4.pull1 q3 hs
  obtain ⟨H6, e6, h6⟩ := h5.pull1.st (f := 2) (v := .int .i64 nm) (by simp [SClass.row]) rfl rfl
  obtain ⟨u, H7, k7, b7, e7, h7, q7, t7, -, -⟩ := c130 h6.pull1 q5 hs
  obtain ⟨H8, e8, h8⟩ := h7.pull1.st (f := 3) (v := .int .i64 u) (by simp [SClass.row]) rfl rfl
  have h8' : Own H8 (.var 4 p (crow ⟨pl, f, nm, u, [], [], []⟩) :: rd b s k7 b7 :: .var 4 q ts0 :: L) := h8
  obtain ⟨t, H9, k9, b9, e9, h9, q9, t9, g9, g10⟩ := c129 h8'.pull1 q7 hs
  obtain ⟨H10, h10, e10⟩ := rlimit h9 t 3
  simp only [call_raw, e1, e2, e3, e4, e5, e6, e7, e8, e9, Option.bind_some, fa_ptr, Nat.zero_add]
  rw [e10, j83_11]
  obtain ⟨M, rfl⟩ : ∃ M : Nat, t = M := ⟨t.toNat, by omega⟩
  obtain ⟨cs, H', k', bad', l, k11, b11, l2, k12, b12, l3, e12, h12, q12, t12, t13, t14⟩ := c83_12 b p q ts0 h0 s hs M (by omega) M ⟨pl, f, nm, u, [], [], []⟩ H10 L k9 _ (h10.pull1.pull2.pull1) q9 (Nat.le_refl _) (by simp; omega) rfl rfl
  rw [Nat.sub_self] at e12
  refine ⟨cs, H', k', bad', ⟨pl, f, nm, u, l, l2, l3⟩, e12, h12, q12, ?_⟩
  exact t1.seq (t3.seq (t5.seq (t7.seq (Took.seq (g := gList 3 gTwo) ((rup t9).seq t12) (t13.seq (t14.seq (Took.pure _ _ _)))))))
theorem c83 {H : Heap} {L : List Asset} {b : Nat} {s : List UInt8} (h : Own H (rd b s 0 false :: L)) (hs : s.length ≤ 900) : ∃ cs H' k' bad' c, ent E 83 [.ptr b 0 0] H = some (.agg cs, H') ∧ Own H' (.val 5 (.agg cs) (.agg (SClass.row c)) :: rd b s k' bad' :: L) ∧ k' ≤ s.length ∧ Took gClass s false c (s.drop k') bad' := by
  rw [e83, alloc_eq _ _ _ rfl]
  have h1 := h.alloc 4 (cs := zcls) (ts := (({} : SClass)).row) (zcls_rep.frame fun c hc => by cases hc) rfl zcls_nil
  rw [show bld [.sl0, .int .i64 0, .int .i64 0, .int .i64 0, .sl0, .sl0, .sl0] [(0, 1, false), (1, 1, false), (2, 1, false), (3, 1, false), (4, 1, false), (5, 1, false), (6, 1, false)] [] = some (.agg zcls) from rfl]
  simp only [Option.bind_some]
  rw [alloc_eq _ _ _ rfl]
  obtain ⟨H2, e2, h2, -⟩ := (h1.alloc 4 (cs := zcls) (ts := (({} : SClass)).row) (zcls_rep.frame fun c hc => by cases hc) rfl zcls_nil).init (cs := zcls) (ts := (({} : SClass)).row) (zcls_rep.frame fun c hc => by cases hc) rfl zcls_nil (z := 7) rfl rfl
  obtain ⟨t, H3, k3, b3, e3, h3, q3, t3⟩ := c127 h2.pull2 (Nat.zero_le _) hs 4 (by decide) (by decide)
  rw [List.drop_zero] at t3
  simp only [e2, call_raw, e3, Option.bind_some, bS_neq, asB_bool]
  have t3' : Took (gText 4) s false t (s.drop k3) b3 := t3
  by_cases ht : t = [83, 84, 79, 87]
  · simp only [ht, decide_true, Bool.not_true, cond_false]
    obtain ⟨cs, H', k', bad', c, e4, h4, q4, t4⟩ := c83_4 b _ _ _ rfl s hs (h3.pull2.pull2.pull1.pull1) q3
    refine ⟨cs, H', k', bad', c, e4, h4, q4, t3'.seq ?_⟩
    rw [if_pos (show t = stow from ht)]
    exact t4
  · simp only [ht, decide_false, Bool.not_false, cond_true]
    obtain ⟨H4, e4, h4⟩ := h3.st (f := 2) (v := .bool true) (by simp) rfl rfl
    simp only [nilCheck_ptr, fa_ptr, Nat.zero_add, e4, Option.bind_some]
    obtain ⟨cs, H', k', bad', c, e5, h5, q5, t5⟩ := c83_4 b _ _ _ rfl s hs (h4.pull2.pull2.pull1.pull1) q3
    refine ⟨cs, H', k', bad', c, e5, h5, q5, t3'.seq ?_⟩
    rw [if_neg (show ¬ t = stow from ht)]
    refine ⟨t5.1, ?_⟩
    rw [t5.dead]
    cases b3 <;> simp [failG]

end Go.Ev.Ytmljkoieihaomaa
