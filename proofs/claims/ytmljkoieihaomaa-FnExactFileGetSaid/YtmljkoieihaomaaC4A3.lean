/- Contracts. -/
import Derived.Test.YtmljkoieihaomaaC4A2
namespace Go.Ev.Ytmljkoieihaomaa
set_option linter.unusedVariables false
set_option linter.unusedSimpArgs false
open Go.Ev
/-! Reading a file: all of it. -/
def fin (g : Get SClass) (s : List UInt8) (bad : Bool) : Option SClass := match (if bad = true then none else g s) with
  | some (c, []) => some c
  | _ => none
theorem fin_seq {α : Type} {g : Get α} {h : α → Get SClass} {s s1 : List UInt8} {bad b1 : Bool} {a : α} (t : Took g s bad a s1 b1) : fin (bindG g h) s bad = fin (h a) s1 b1 := by
  obtain ⟨-, t⟩ := t
  cases bad with
  | true => simp at t; subst t; rfl
  | false =>
    simp only [Bool.false_eq_true, if_false] at t
    unfold fin bindG
    simp only [Bool.false_eq_true, if_false]
    cases hg : g s with
    | none => rw [hg] at t; simp only at t; subst t; rfl
    | some q =>
      rw [hg] at t
      simp only at t
      obtain ⟨rfl, rfl, rfl⟩ := t
      simp
theorem bindG_assoc {α β γ : Type} (g : Get α) (h : α → Get β) (k : β → Get γ) : bindG (bindG g h) k = bindG g fun a => bindG (h a) k := by
  funext s
  unfold bindG
  simp only [Option.bind_assoc]
theorem bindG_pure {α β : Type} (a : α) (h : α → Get β) : bindG (pureG a) h = h a := rfl
theorem fin_bad (g : Get SClass) (s : List UInt8) : fin g s true = none := rfl
theorem fin_many {α : Type} {f : Get α} {n : Nat} {h : List α → Get SClass} {s s1 : List UInt8} {bad b1 : Bool} {a : α} (t : Took f s bad a s1 b1) : fin (bindG (gMany f (n + 1)) h) s bad = fin (bindG (gMany f n) fun l => h (a :: l)) s1 b1 := by
  show fin (bindG (bindG f fun a => bindG (gMany f n) fun l => pureG (a :: l)) h) s bad = _
  rw [bindG_assoc, fin_seq t, bindG_assoc]
  rfl
theorem fin_list {α : Type} {f : Get α} {most : Int} {h : List α → Get SClass} {s s1 : List UInt8} {bad b1 : Bool} {k : Nat} (t : Took (gUp most gOne) s bad (k : Int) s1 b1) : fin (bindG (gList most f) h) s bad = fin (bindG (gMany f k) h) s1 b1 := by
  show fin (bindG (bindG (gUp most gOne) fun n => gMany f n.toNat) h) s bad = _
  rw [bindG_assoc, fin_seq t]
  rfl
def FOut (res : Option (D × Heap)) (q : Option SClass) : Prop := ∃ cs H' L, res = some (.tup [.agg cs, .bool q.isSome], H') ∧ Own H' (.val 5 (.agg cs) (.agg (q.getD {}).row) :: L)
abbrev crow (c : SClass) : List Cell := c.row.map Cell.own
abbrev zcls : List D := [.sl0, .int .i64 0, .int .i64 0, .int .i64 0, .sl0, .sl0, .sl0]
theorem zcls_rep : RepR true [] 4 zcls (({} : SClass)).row [] :=
  .cons (B := []) (B' := []) .sl0 (.cons (B := []) (B' := []) (.sc rfl) (.cons (B := []) (B' := []) (.sc rfl) (.cons (B := []) (B' := []) (.sc rfl) (.cons (B := []) (B' := []) .sl0 (.cons (B := []) (B' := []) .sl0 (.cons (B := []) (B' := []) .sl0 .nil))))))
theorem zcls_nil : ∀ f : Nat, (({} : SClass)).row[f]? = some (D.list []) → zcls[f]? = some D.sl0 := fun f hf => by
  rcases f with _ | _ | _ | _ | _ | _ | _ | f <;> simp [SClass.row, zcls] at hf ⊢
theorem ccells (c : SClass) : c.row.all D.isCell = true := rfl
theorem fnone {H : Heap} {L : List Asset} {q : Nat} {ts0 : List Cell} (h : Own H (.var 4 q ts0 :: L)) (h0 : ts0.length = 7) : FOut ((bld [.sl0, .int .i64 0, .int .i64 0, .int .i64 0, .sl0, .sl0, .sl0] [(0, 1, false), (1, 1, false), (2, 1, false), (3, 1, false), (4, 1, false), (5, 1, false), (6, 1, false)] []).bind fun v => (st 7 H (.ptr q 0 0) v).bind fun H1 => ret_ H1 [ld true 7 H1 (.ptr q 0 0), some (D.bool false)]) none := by
  obtain ⟨H', e1, h1, e2⟩ := h.init (cs := zcls) (ts := (({} : SClass)).row) (zcls_rep.frame fun c hc => by cases hc) rfl zcls_nil (z := 7) rfl h0
  obtain ⟨cs, e3, h3, -⟩ := h1.whole (z := 7) rfl
  rw [e2] at e3
  cases e3
  rw [show bld [.sl0, .int .i64 0, .int .i64 0, .int .i64 0, .sl0, .sl0, .sl0] [(0, 1, false), (1, 1, false), (2, 1, false), (3, 1, false), (4, 1, false), (5, 1, false), (6, 1, false)] [] = some (.agg zcls) from rfl]
  simp only [Option.bind_some, e1, e2, ret_two]
  exact ⟨_, _, _, rfl, h3⟩
theorem fsome {H : Heap} {L : List Asset} {p q : Nat} {c : SClass} {ts0 : List Cell} (h : Own H (.var 4 p (crow c) :: .var 4 q ts0 :: L)) (h0 : ts0.length = 7) : FOut ((ld true 7 H (.ptr p 0 0)).bind fun v => (st 7 H (.ptr q 0 0) v).bind fun H1 => ret_ H1 [ld true 7 H1 (.ptr q 0 0), some (D.bool true)]) (some c) := by
  obtain ⟨cs, H', e1, e2, e3, h1⟩ := h.copyout (z := 7) rfl h0
  simp only [e1, e2, e3, Option.bind_some, ret_two]
  exact ⟨_, _, _, rfl, h1⟩
theorem fend {H : Heap} {L : List Asset} {b p q : Nat} {c : SClass} {ts0 : List Cell} {s : List UInt8} {bad : Bool} (h : Own H (.var 4 p (crow c) :: .var 4 q ts0 :: tk b s bad :: L)) (h0 : ts0.length = 7) :
    FOut ((nilCheck (.ptr b 0 0)).bind fun v107 => (fa 1 v107).bind fun v108 => (ld false 1 H v108).bind fun v109 => asB v109 fun t => bif t then ((bld [.sl0, .int .i64 0, .int .i64 0, .int .i64 0, .sl0, .sl0, .sl0] [(0, 1, false), (1, 1, false), (2, 1, false), (3, 1, false), (4, 1, false), (5, 1, false), (6, 1, false)] []).bind fun v110 => (st 7 H (.ptr q 0 0) v110).bind fun H111 => ret_ H111 [ld true 7 H111 (.ptr q 0 0), some (D.bool false)]) else ((nilCheck (.ptr b 0 0)).bind fun v112 => (fa 0 v112).bind fun v113 => (ld false 1 H v113).bind fun v114 => (bS .neq v114 (D.str [])).bind fun v115 => asB v115 fun t => bif t then ((bld [.sl0, .int .i64 0, .int .i64 0, .int .i64 0, .sl0, .sl0, .sl0] [(0, 1, false), (1, 1, false), (2, 1, false), (3, 1, false), (4, 1, false), (5, 1, false), (6, 1, false)] []).bind fun v116 => (st 7 H (.ptr q 0 0) v116).bind fun H117 => ret_ H117 [ld true 7 H117 (.ptr q 0 0), some (D.bool false)]) else ((ld true 7 H (.ptr p 0 0)).bind fun v118 => (st 7 H (.ptr q 0 0) v118).bind fun H119 => ret_ H119 [ld true 7 H119 (.ptr q 0 0), some (D.bool true)]))) (fin (pureG c) s bad) := by
  have l1 := h.pull2.ld (f := 1) rfl rfl
  have l0 := h.pull2.ld (f := 0) rfl rfl
  simp only [nilCheck_ptr, fa_ptr, Nat.zero_add, l1, l0, Option.bind_some, asB_bool]
  cases bad with
  | true => exact fnone h.pull1 h0
  | false =>
    simp only [cond_false, bS_neq, asB_bool]
    by_cases hs : s = []
    · subst hs
      simp only [decide_true, Bool.not_true, cond_false]
      exact fsome h h0
    · simp only [hs, decide_false, Bool.not_false, cond_true]
      have : fin (pureG c) s false = none := by
        cases s with
        | nil => exact absurd rfl hs
        | cons a r => rfl
      rw [this]
      exact fnone h.pull1 h0
theorem c16_26 (b p q : Nat) (ts0 : List Cell) (h0 : ts0.length = 7) : ∀ (n : Nat) (c : SClass) (H : Heap) (L : List Asset) (s : List UInt8) (bad : Bool), Own H (.var 4 p (crow c) :: .var 4 q ts0 :: tk b s bad :: L) → c.Methods.length + n ≤ 1000 →
    FOut (J E 16 26 [.ptr q 0 0, .ptr b 0 0, .ptr p 0 0, .int .i64 n] H) (fin (bindG (gMany gMethod n) fun l => pureG { c with Methods := c.Methods ++ l }) s bad)
  | 0, c, H, L, s, bad, h, hn => by
    rw [j16_26]
    simp only [bI_gtr, Int.natCast_zero, Int.lt_irrefl, decide_false, Option.bind_some, asB_bool, cond_false]
    have := fend h h0
    have e : fin (bindG (gMany gMethod 0) fun l => pureG { c with Methods := c.Methods ++ l }) s bad = fin (pureG c) s bad := by
      show fin (pureG { c with Methods := c.Methods ++ [] }) s bad = _
      rw [List.append_nil]
    rw [e]
    exact this
  | n + 1, c, H, L, s, bad, h, hn => by
    have hgt : (0 : Int) < ((n + 1 : Nat) : Int) := by omega
    have l1 := h.pull2.ld (f := 1) rfl rfl
    rw [j16_26]
    simp only [bI_gtr, hgt, decide_true, Option.bind_some, asB_bool, cond_true, nilCheck_ptr, fa_ptr, Nat.zero_add, l1, unOp_not]
    cases bad with
    | true =>
      have := fend h h0
      simp only [nilCheck_ptr, fa_ptr, Nat.zero_add, l1, Option.bind_some, asB_bool] at this
      simp only [Bool.not_true, cond_false]
      exact this
    | false =>
      obtain ⟨d, e1, h1⟩ := h.take (f := 6) (t := .list (c.Methods.map SMethod.row)) rfl
      have hsame := rep_same h1.val.choose_spec.1
      obtain ⟨cs, H2, s2, b2, m, e2, h2, t2⟩ := c39 h1.pull3
      have l2 := (h2.pull3.ldraw (f := 6) (d := d) rfl)
      obtain ⟨d3, H3, e3, e4, h3, c3⟩ := h2.pull2.app (n := 3) (t := m.row) rowOf_agg (esz := 8) (eb := 104) (zero := [.int .i64 0, .int .i64 0, .int .i64 0, .int .i64 0, .int .i64 0, .str [], .sl0, .sl0]) rfl (by decide) rfl rfl (fun r hr => by obtain ⟨x, _, rfl⟩ := List.mem_map.mp hr; rfl) (by simp [maxLen]; omega)
      obtain ⟨H5, e5, h5⟩ := h3.pull2.pull1.put (f := 6) (by decide) (by simp [SClass.row]) rfl c3
      simp only [Bool.not_false, cond_true, call_raw, e1, e2, l2, e3, e4, e5, Option.bind_some, again_same hsame, bI_sub]
      rw [wrap_i64 (n := ((n + 1 : Nat) : Int) - 1) (by omega) (by omega), show ((n + 1 : Nat) : Int) - 1 = (n : Int) by omega, fin_many t2]
      have hrow : ((((crow c).set 6 (Cell.raw d)).set 6 (Cell.own (D.list (c.Methods.map SMethod.row ++ [m.row]))))) = crow { c with Methods := c.Methods ++ [m] } := by
        simp [crow, SClass.row]
      rw [hrow] at h5
      have := c16_26 b p q ts0 h0 n { c with Methods := c.Methods ++ [m] } H5 L s2 b2 (h5.pull2.pull1) (by simp; omega)
      simpa using this
/-- What stands behind a list: the next one's length. -/
theorem fup {H : Heap} {L : List Asset} {b : Nat} {s : List UInt8} {bad : Bool} (h : Own H (tk b s bad :: L)) (most : Int) (hm : 0 ≤ most) : ∃ (k : Nat) (H' : Heap) (s' : List UInt8) (b' : Bool), (∀ F : D × Heap → R, ((ent E 36 [.ptr b 0 0] H).bind fun r => (ent E 35 [.ptr b 0 0, r.1, .int .i64 most] r.2).bind F) = F (.int .i64 k, H')) ∧ Own H' (tk b s' b' :: L) ∧ Took (gUp most gOne) s bad (k : Int) s' b' ∧ (k : Int) ≤ most := by
  obtain ⟨t0, H1, s1, b1, e1, h1, t1, g0, g1⟩ := c36 h
  obtain ⟨t, H2, b2, e2, h2, t2, g2, g3, -⟩ := c35 h1 t1 g0 most hm
  obtain ⟨k, rfl⟩ : ∃ k : Nat, t = k := ⟨t.toNat, by omega⟩
  exact ⟨k, H2, s1, b2, fun F => by simp only [e1, e2, Option.bind_some], h2, t2, g3⟩
theorem c16_19 (b p q : Nat) (ts0 : List Cell) (h0 : ts0.length = 7) : ∀ (n : Nat) (c : SClass) (H : Heap) (L : List Asset) (s : List UInt8) (bad : Bool), Own H (.var 4 p (crow c) :: .var 4 q ts0 :: tk b s bad :: L) → c.Fields.length + n ≤ 1000 → c.Methods = [] →
    FOut (J E 16 19 [.ptr q 0 0, .ptr b 0 0, .ptr p 0 0, .int .i64 n] H) (fin (bindG (gMany gField n) fun i => bindG (gList 6 gMethod) fun m => pureG { c with Fields := c.Fields ++ i, Methods := m }) s bad) := by
  have rest : ∀ (c : SClass) (H : Heap) (L : List Asset) (s : List UInt8) (bad : Bool), Own H (.var 4 p (crow c) :: .var 4 q ts0 :: tk b s bad :: L) → c.Methods = [] →
      FOut ((callFn E (exec E) .raw 36 [.ptr b 0 0] H).bind fun r63 => (callFn E (exec E) .raw 35 [.ptr b 0 0, r63.1, (D.int .i64 6)] r63.2).bind fun r64 => J E 16 26 [.ptr q 0 0, .ptr b 0 0, .ptr p 0 0, r64.1] r64.2) (fin (bindG (gList 6 gMethod) fun m => pureG { c with Methods := m }) s bad) := by
    intro c H L s bad h hc
    obtain ⟨k, H', s', b', e, h1, t, hk⟩ := fup h.pull2 6 (by decide)
    simp only [call_raw]
    rw [e, fin_list t]
    have := c16_26 b p q ts0 h0 k c H' L s' b' (h1.pull2.pull2) (by simp [hc]; omega)
    rw [hc] at this
    simpa using this
  intro n
  induction n with
  | zero =>
    intro c H L s bad h hn hc
    rw [j16_19]
    simp only [bI_gtr, Int.natCast_zero, Int.lt_irrefl, decide_false, Option.bind_some, asB_bool, cond_false]
    have := rest c H L s bad h hc
    have e : fin (bindG (gMany gField 0) fun i => bindG (gList 6 gMethod) fun m => pureG { c with Fields := c.Fields ++ i, Methods := m }) s bad = fin (bindG (gList 6 gMethod) fun m => pureG { c with Methods := m }) s bad := by
      show fin (bindG (gList 6 gMethod) fun m => pureG { c with Fields := c.Fields ++ [], Methods := m }) s bad = _
      rw [List.append_nil]
    rw [e]
    exact this
  | succ n ih =>
    intro c H L s bad h hn hc
    have hgt : (0 : Int) < ((n + 1 : Nat) : Int) := by omega
    have l1 := h.pull2.ld (f := 1) rfl rfl
    rw [j16_19]
    simp only [bI_gtr, hgt, decide_true, Option.bind_some, asB_bool, cond_true, nilCheck_ptr, fa_ptr, Nat.zero_add, l1, unOp_not]
    cases bad with
    | true =>
      simp only [Bool.not_true, cond_false]
      exact rest c H L s true h hc
    | false =>
      simp only [Bool.not_false, cond_true, call_raw]
      obtain ⟨t, H1, s1, b1, e1, h1, t1, g0, g1⟩ := c36 h.pull2
      simp only [e1, Option.bind_some]
      rw [show bld [.int .i64 0, .int .i64 0, .int .i64 0] [(0, 1, false), (1, 1, false), (2, 1, false)] [(0, .int .i64 t)] = some (.agg (SField.row ⟨t, 0, 0⟩)) from rfl]
      simp only [Option.bind_some]
      rw [alloc_eq _ _ _ rfl]
      have z2 : ∀ t : SField, ∀ f : Nat, t.row[f]? = some (D.list []) → t.row[f]? = some D.sl0 := fun t f hf => by rcases f with _ | _ | _ | f <;> simp [SField.row] at hf
      obtain ⟨H3, e3, h3, -⟩ := (h1.alloc 0 (cs := SField.row ⟨0, 0, 0⟩) (ts := SField.row ⟨0, 0, 0⟩) (RepR.scalars rfl) rfl (z2 _)).init (cs := SField.row ⟨t, 0, 0⟩) (ts := SField.row ⟨t, 0, 0⟩) (RepR.scalars rfl) rfl (z2 _) (z := 3) rfl rfl
      rw [show H1 ++ [some [SField.row ⟨0, 0, 0⟩]] = H1 ++ [some [[D.int .i64 0, .int .i64 0, .int .i64 0]]] from rfl] at e3
      obtain ⟨t2, H4, s4, b4, e4, h4, k4, -, -⟩ := c38 h3.pull1
      obtain ⟨H5, e5, h5⟩ := h4.pull1.st (f := 1) (v := .int .i64 t2) (by simp [SField.row]) rfl rfl
      obtain ⟨t3, H6, s6, b6, e6, h6, k6, -, -⟩ := c38 h5.pull1
      obtain ⟨H7, e7, h7⟩ := h6.pull1.st (f := 2) (v := .int .i64 t3) (by simp [SField.row]) rfl rfl
      simp only [e3, e4, e5, e6, e7, Option.bind_some, fa_ptr, Nat.zero_add]
      have h9' : Own H7 (.var 0 H1.length ((SField.row ⟨t, t2, t3⟩).map Cell.own) :: tk b s6 b6 :: .var 4 p (crow c) :: .var 4 q ts0 :: L) := h7
      obtain ⟨d10, e10, h10⟩ := h9'.pull2.take (f := 5) (t := .list (c.Fields.map SField.row)) rfl
      obtain ⟨cs, e11, h11, -⟩ := (h10.pull2.whole (z := 3) rfl)
      obtain ⟨d12, H12, e12, e13, h12, c12⟩ := h11.pull1.app (n := 3) (t := SField.row ⟨t, t2, t3⟩) (fun B hB => (rowOf_agg B hB).up (by decide)) (esz := 3) (eb := 24) (zero := [.int .i64 0, .int .i64 0, .int .i64 0]) rfl (by decide) rfl rfl (fun r hr => by obtain ⟨x, _, rfl⟩ := List.mem_map.mp hr; rfl) (by simp [maxLen]; omega)
      obtain ⟨H14, e14, h14⟩ := h12.put (f := 5) (by decide) (by simp [SClass.row]) rfl c12
      simp only [e10, e11, e12, e13, e14, Option.bind_some, bI_sub]
      have tf : Took gField s false ⟨t, t2, t3⟩ s6 b6 := t1.seq (k4.seq (k6.seq (Took.pure _ _ _)))
      rw [wrap_i64 (n := ((n + 1 : Nat) : Int) - 1) (by omega) (by omega), show ((n + 1 : Nat) : Int) - 1 = (n : Int) by omega, fin_many tf]
      have hrow : ((((crow c).set 5 (Cell.raw d10)).set 5 (Cell.own (D.list (c.Fields.map SField.row ++ [SField.row ⟨t, t2, t3⟩]))))) = crow { c with Fields := c.Fields ++ [⟨t, t2, t3⟩] } := by
        simp [crow, SClass.row]
      rw [hrow] at h14
      have := ih { c with Fields := c.Fields ++ [⟨t, t2, t3⟩] } H14 L s6 b6 (h14.pull2.pull1) (by simp; omega) hc
      simpa using this
theorem c16_15 (b p q : Nat) (ts0 : List Cell) (h0 : ts0.length = 7) : ∀ (n : Nat) (c : SClass) (H : Heap) (L : List Asset) (s : List UInt8) (bad : Bool), Own H (.var 4 p (crow c) :: .var 4 q ts0 :: tk b s bad :: L) → c.Faces.length + n ≤ 1000 → c.Fields = [] → c.Methods = [] →
    FOut (J E 16 15 [.ptr q 0 0, .ptr b 0 0, .ptr p 0 0, .int .i64 n] H) (fin (bindG (gMany gTwo n) fun a => bindG (gList 5 gField) fun i => bindG (gList 6 gMethod) fun m => pureG { c with Faces := c.Faces ++ a, Fields := i, Methods := m }) s bad) := by
  have rest : ∀ (c : SClass) (H : Heap) (L : List Asset) (s : List UInt8) (bad : Bool), Own H (.var 4 p (crow c) :: .var 4 q ts0 :: tk b s bad :: L) → c.Fields = [] → c.Methods = [] →
      FOut ((callFn E (exec E) .raw 36 [.ptr b 0 0] H).bind fun r63 => (callFn E (exec E) .raw 35 [.ptr b 0 0, r63.1, (D.int .i64 5)] r63.2).bind fun r64 => J E 16 19 [.ptr q 0 0, .ptr b 0 0, .ptr p 0 0, r64.1] r64.2) (fin (bindG (gList 5 gField) fun i => bindG (gList 6 gMethod) fun m => pureG { c with Fields := i, Methods := m }) s bad) := by
    intro c H L s bad h hf hc
    obtain ⟨k, H', s', b', e, h1, t, hk⟩ := fup h.pull2 5 (by decide)
    simp only [call_raw]
    rw [e, fin_list t]
    have := c16_19 b p q ts0 h0 k c H' L s' b' (h1.pull2.pull2) (by simp [hf]; omega) hc
    rw [hf] at this
    simpa using this
  intro n
  induction n with
  | zero =>
    intro c H L s bad h hn hf hc
    rw [j16_15]
    simp only [bI_gtr, Int.natCast_zero, Int.lt_irrefl, decide_false, Option.bind_some, asB_bool, cond_false]
    have := rest c H L s bad h hf hc
    have e : fin (bindG (gMany gTwo 0) fun a => bindG (gList 5 gField) fun i => bindG (gList 6 gMethod) fun m => pureG { c with Faces := c.Faces ++ a, Fields := i, Methods := m }) s bad = fin (bindG (gList 5 gField) fun i => bindG (gList 6 gMethod) fun m => pureG { c with Fields := i, Methods := m }) s bad := by
      show fin (bindG (gList 5 gField) fun i => bindG (gList 6 gMethod) fun m => pureG { c with Faces := c.Faces ++ [], Fields := i, Methods := m }) s bad = _
      rw [List.append_nil]
    rw [e]
    exact this
  | succ n ih =>
    intro c H L s bad h hn hf hc
    have hgt : (0 : Int) < ((n + 1 : Nat) : Int) := by omega
    have l1 := h.pull2.ld (f := 1) rfl rfl
    rw [j16_15]
    simp only [bI_gtr, hgt, decide_true, Option.bind_some, asB_bool, cond_true, nilCheck_ptr, fa_ptr, Nat.zero_add, l1, unOp_not]
    cases bad with
    | true =>
      simp only [Bool.not_true, cond_false]
      exact rest c H L s true h hf hc
    | false =>
      obtain ⟨d, e1, h1⟩ := h.take (f := 4) (t := .list (c.Faces.map rInt)) rfl
      have hsame := rep_same h1.val.choose_spec.1
      obtain ⟨m, H2, s2, b2, e2, h2, t2, -, -⟩ := c38 h1.pull3
      have l2 := (h2.pull2.ldraw (f := 4) (d := d) rfl)
      obtain ⟨d3, H3, e3, e4, h3, c3⟩ := ((h2.sc 3 (v := .int .i64 m) rfl).pull2).app (n := 3) (t := rInt m) (rowOf_sc rfl rfl) (esz := 1) (eb := 8) (zero := [.int .i64 0]) rfl (by decide) rfl rfl (fun r hr => by obtain ⟨x, _, rfl⟩ := List.mem_map.mp hr; rfl) (by simp [maxLen]; omega)
      obtain ⟨H5, e5, h5⟩ := h3.pull2.pull1.put (f := 4) (by decide) (by simp [SClass.row]) rfl c3
      simp only [Bool.not_false, cond_true, call_raw, e1, e2, l2, e3, e4, e5, Option.bind_some, again_same hsame, bI_sub]
      rw [wrap_i64 (n := ((n + 1 : Nat) : Int) - 1) (by omega) (by omega), show ((n + 1 : Nat) : Int) - 1 = (n : Int) by omega, fin_many t2]
      have hrow : ((((crow c).set 4 (Cell.raw d)).set 4 (Cell.own (D.list (c.Faces.map rInt ++ [rInt m]))))) = crow { c with Faces := c.Faces ++ [m] } := by
        simp [crow, SClass.row]
      rw [hrow] at h5
      have := ih { c with Faces := c.Faces ++ [m] } H5 L s2 b2 (h5.pull2.pull1) (by simp; omega) hf hc
      simpa using this
theorem c16_8 (b p q : Nat) (ts0 : List Cell) (h0 : ts0.length = 7) : ∀ (n : Nat) (c : SClass) (H : Heap) (L : List Asset) (s : List UInt8) (bad : Bool), Own H (.var 4 p (crow c) :: .var 4 q ts0 :: tk b s bad :: L) → c.Pool.length + n ≤ 1000 → c = { Pool := c.Pool } →
    FOut (J E 16 8 [.ptr q 0 0, .ptr b 0 0, .ptr p 0 0, .int .i64 n] H) (fin (bindG (gMany gConst n) fun x => bindG gOne fun f => bindG gTwo fun nm => bindG gTwo fun u => bindG (gList 3 gTwo) fun a => bindG (gList 5 gField) fun i => bindG (gList 6 gMethod) fun m => pureG ⟨c.Pool ++ x, f, nm, u, a, i, m⟩) s bad) := by
  have rest : ∀ (c : SClass) (H : Heap) (L : List Asset) (s : List UInt8) (bad : Bool), Own H (.var 4 p (crow c) :: .var 4 q ts0 :: tk b s bad :: L) → c = { Pool := c.Pool } →
      FOut ((callFn E (exec E) .raw 36 [.ptr b 0 0] H).bind fun r28 => (fa 1 (.ptr p 0 0)).bind fun v29 => (st 1 r28.2 v29 r28.1).bind fun H30 => (callFn E (exec E) .raw 38 [.ptr b 0 0] H30).bind fun r31 => (fa 2 (.ptr p 0 0)).bind fun v32 => (st 1 r31.2 v32 r31.1).bind fun H33 => (callFn E (exec E) .raw 38 [.ptr b 0 0] H33).bind fun r34 => (fa 3 (.ptr p 0 0)).bind fun v35 => (st 1 r34.2 v35 r34.1).bind fun H36 => (callFn E (exec E) .raw 36 [.ptr b 0 0] H36).bind fun r37 => (callFn E (exec E) .raw 35 [.ptr b 0 0, r37.1, (D.int .i64 3)] r37.2).bind fun r38 => J E 16 15 [.ptr q 0 0, .ptr b 0 0, .ptr p 0 0, r38.1] r38.2)
        (fin (bindG gOne fun f => bindG gTwo fun nm => bindG gTwo fun u => bindG (gList 3 gTwo) fun a => bindG (gList 5 gField) fun i => bindG (gList 6 gMethod) fun m => pureG ⟨c.Pool, f, nm, u, a, i, m⟩) s bad) := by
    intro c H L s bad h hc
    obtain ⟨f, H1, s1, b1, e1, h1, t1, -, -⟩ := c36 h.pull2
    obtain ⟨H2, e2, h2⟩ := h1.pull1.st (f := 1) (v := .int .i64 f) (by simp [SClass.row]) rfl rfl
    obtain ⟨nm, H3, s3, b3, e3, h3, t3, -, -⟩ := c38 h2.pull1
    obtain ⟨H4, e4, h4⟩ := h3.pull1.st (f := 2) (v := .int .i64 nm) (by simp [SClass.row]) rfl rfl
    obtain ⟨u, H5, s5, b5, e5, h5, t5, -, -⟩ := c38 h4.pull1
    obtain ⟨H6, e6, h6⟩ := h5.pull1.st (f := 3) (v := .int .i64 u) (by simp [SClass.row]) rfl rfl
    have h6' : Own H6 (.var 4 p (crow ⟨c.Pool, f, nm, u, [], [], []⟩) :: tk b s5 b5 :: .var 4 q ts0 :: L) := by
      rw [hc] at h6
      exact h6
    obtain ⟨k, H', s', b', e, h7, t, hk⟩ := fup h6'.pull1 3 (by decide)
    have := c16_15 b p q ts0 h0 k ⟨c.Pool, f, nm, u, [], [], []⟩ H' L s' b' (h7.pull1.pull2.pull1) (by simp; omega) rfl rfl
    rw [fin_seq t1, fin_seq t3, fin_seq t5, fin_list t]
    simp only [call_raw, e1, e2, e3, e4, e5, e6, Option.bind_some, fa_ptr, Nat.zero_add]
    rw [e]
    exact this
  intro n
  induction n with
  | zero =>
    intro c H L s bad h hn hc
    rw [j16_8]
    simp only [bI_gtr, Int.natCast_zero, Int.lt_irrefl, decide_false, Option.bind_some, asB_bool, cond_false]
    have := rest c H L s bad h hc
    have e : fin (bindG (gMany gConst 0) fun x => bindG gOne fun f => bindG gTwo fun nm => bindG gTwo fun u => bindG (gList 3 gTwo) fun a => bindG (gList 5 gField) fun i => bindG (gList 6 gMethod) fun m => pureG ⟨c.Pool ++ x, f, nm, u, a, i, m⟩) s bad = fin (bindG gOne fun f => bindG gTwo fun nm => bindG gTwo fun u => bindG (gList 3 gTwo) fun a => bindG (gList 5 gField) fun i => bindG (gList 6 gMethod) fun m => pureG ⟨c.Pool, f, nm, u, a, i, m⟩) s bad := by
      show fin (bindG gOne fun f => bindG gTwo fun nm => bindG gTwo fun u => bindG (gList 3 gTwo) fun a => bindG (gList 5 gField) fun i => bindG (gList 6 gMethod) fun m => pureG (SClass.mk (c.Pool ++ []) f nm u a i m)) s bad = _
      rw [List.append_nil]
    rw [e]
    exact this
  | succ n ih =>
    intro c H L s bad h hn hc
    have hgt : (0 : Int) < ((n + 1 : Nat) : Int) := by omega
    have l1 := h.pull2.ld (f := 1) rfl rfl
    rw [j16_8]
    simp only [bI_gtr, hgt, decide_true, Option.bind_some, asB_bool, cond_true, nilCheck_ptr, fa_ptr, Nat.zero_add, l1, unOp_not]
    cases bad with
    | true =>
      simp only [Bool.not_true, cond_false]
      exact rest c H L s true h hc
    | false =>
      obtain ⟨d, e1, h1⟩ := h.take (f := 0) (t := .list (c.Pool.map SConst.row)) rfl
      have hsame := rep_same h1.val.choose_spec.1
      obtain ⟨cs, H2, s2, b2, m, e2, h2, t2⟩ := c37 h1.pull3
      have l2 := (h2.pull3.ldraw (f := 0) (d := d) rfl)
      obtain ⟨d3, H3, e3, e4, h3, c3⟩ := h2.pull2.app (n := 3) (t := m.row) (fun B hB => (rowOf_agg B hB).up (by decide)) (esz := 4) (eb := 40) (zero := [.int .i64 0, .str [], .int .i64 0, .int .i64 0]) rfl (by decide) rfl rfl (fun r hr => by obtain ⟨x, _, rfl⟩ := List.mem_map.mp hr; rfl) (by simp [maxLen]; omega)
      obtain ⟨H5, e5, h5⟩ := h3.pull2.pull1.put (f := 0) (by decide) (by simp [SClass.row]) rfl c3
      simp only [Bool.not_false, cond_true, call_raw, e1, e2, l2, e3, e4, e5, Option.bind_some, again_same hsame, bI_sub]
      rw [wrap_i64 (n := ((n + 1 : Nat) : Int) - 1) (by omega) (by omega), show ((n + 1 : Nat) : Int) - 1 = (n : Int) by omega, fin_many t2]
      have hrow : ((((crow c).set 0 (Cell.raw d)).set 0 (Cell.own (D.list (c.Pool.map SConst.row ++ [m.row]))))) = crow { c with Pool := c.Pool ++ [m] } := by
        simp [crow, SClass.row]
      rw [hrow] at h5
      have := ih { c with Pool := c.Pool ++ [m] } H5 L s2 b2 (h5.pull2.pull1) (by simp; omega) (by rw [hc])
      simpa using this
def fileRes (q : Option SClass) : D := .tup [.agg (q.getD {}).row, .bool q.isSome]
theorem fileGet_fin {s : List UInt8} (h : ¬ 900 < s.length) : fileGet s = fin gClass s false := by
  unfold fileGet fin
  simp only [h, if_false, Bool.false_eq_true]
  cases gClass s with
  | none => rfl
  | some q => obtain ⟨c, r⟩ := q; cases r <;> rfl
theorem c16o (s : List UInt8) : FOut (ent E 16 [.str s] []) (fileGet s) := by
  rw [e16, alloc_eq _ _ _ rfl]
  have h1 := (Own.nil []).alloc 4 (cs := zcls) (ts := (({} : SClass)).row) (zcls_rep.frame fun c hc => by cases hc) rfl zcls_nil
  simp only [lnS_str, Option.bind_some, bI_gtr, asB_bool]
  by_cases hl : 900 < s.length
  · have : (900 : Int) < (s.length : Int) := by omega
    simp only [this, decide_true, cond_true]
    have e : fileGet s = none := by simp [fileGet, hl]
    rw [e]
    exact fnone h1 rfl
  · have : ¬ (900 : Int) < (s.length : Int) := by omega
    simp only [this, decide_false, cond_false]
    rw [fileGet_fin hl]
    rw [show bld [.str [], .bool false] [(0, 1, false), (1, 1, false)] [(0, .str s)] = some (.agg [.str s, .bool false]) from rfl]
    simp only [Option.bind_some]
    rw [alloc_eq _ _ _ rfl]
    have h2 := h1.alloc 0 (cs := [.str s, .bool false]) (ts := [.str s, .bool false]) (RepR.scalars rfl) rfl (fun f hf => by rcases f with _ | _ | f <;> simp at hf)
    obtain ⟨t, H3, s3, b3, e3, h3, t3, -, -⟩ := c34 h2 4 (by decide)
    rw [show D.cells (.agg [.str s, .bool false]) = [.str s, .bool false] from rfl]
    simp only [call_raw, e3, Option.bind_some, bS_neq, asB_bool]
    show FOut _ (fin (bindG (gText 4) _) s false)
    rw [fin_seq (show Took (gText 4) s false t s3 b3 from t3)]
    by_cases ht : t = [83, 84, 79, 87]
    · simp only [ht, decide_true, Bool.not_true, cond_false]
      rw [if_pos (show ([83, 84, 79, 87] : List UInt8) = stow from rfl)]
      rw [alloc_eq _ _ _ rfl]
      have h4 := h3.alloc 4 (cs := zcls) (ts := (({} : SClass)).row) (zcls_rep.frame fun c hc => by cases hc) rfl zcls_nil
      obtain ⟨k, H', s', b', e, h7, tt, hk⟩ := fup h4.pull1 60 (by decide)
      rw [show H3 ++ [some [zcls]] = H3 ++ [some [[D.sl0, .int .i64 0, .int .i64 0, .int .i64 0, .sl0, .sl0, .sl0]]] from rfl] at e
      rw [e, fin_list tt]
      exact c16_8 _ _ _ _ rfl k {} H' [] s' b' (h7.pull1.pull2.pull1) (by simp; omega) rfl
    · simp only [ht, decide_false, Bool.not_false, cond_true]
      rw [if_neg (show ¬ t = stow from ht)]
      have : ∀ s b, fin failG s b = none := fun s b => by cases b <;> rfl
      rw [this]
      exact fnone h3.pull1 rfl
theorem c16 (s : List UInt8) : OwnC E 6 16 [.str s] (fileRes (fileGet s)) := by
  obtain ⟨cs, H', L, e, h⟩ := c16o s
  obtain ⟨B, r, hn⟩ := h.val
  refine ⟨_, H', B, e, ?_, hn⟩
  have := RepT.tup (n := 5) (RepR.cons r (RepR.cons (B := []) (B' := []) (.sc (d := .bool (fileGet s).isSome) rfl) .nil))
  simpa [fileRes] using this
theorem p16 (s : List UInt8) : run E (exec E) false 16 [.str s] = some (fileRes (fileGet s)) := (c16 s).run (by decide) false

end Go.Ev.Ytmljkoieihaomaa
