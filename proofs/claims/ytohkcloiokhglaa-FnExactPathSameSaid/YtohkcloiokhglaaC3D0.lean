/- Contracts. -/
import Derived.Test.YtohkcloiokhglaaC3C1
namespace Go.Ev.Ytohkcloiokhglaa
set_option linter.unusedVariables false
set_option linter.unusedSimpArgs false
open Go.Ev
/-! Pools. -/
theorem ld_loc {a : Bool} {z : Nat} (H : Heap) (row : List D) (K : Heap) (f : Nat) : ld a z (H ++ some [row] :: K) (.ptr H.length 0 f) = part row (f, z, a) := ld_ptr (getBlk_self H [row] K) rfl
theorem st_loc {z : Nat} (H : Heap) (row : List D) (K : Heap) (f : Nat) (v : D) (h1 : v.cells.length = z) (h2 : v.cells.all D.isCell = true) (h3 : f + z ≤ row.length) : st z (H ++ some [row] :: K) (.ptr H.length 0 f) v = some (H ++ some [row.take f ++ v.cells ++ row.drop (f + z)] :: K) := by
  rw [st_ptr (getBlk_self H [row] K) rfl h1 h2 h3, set_self]; rfl
def cAt (pool : List SConst) (i : Int) : SConst := if 1 ≤ i ∧ i ≤ pool.length then (pool[(i - 1).toNat]?).getD {} else {}
def nameAtM (pool : List SConst) (i : Int) (p : List UInt8 → Bool) : Bool := decide ((cAt pool i).Kind = 1) && p (cAt pool i).Text
def classAtM (pool : List SConst) (i : Int) : Bool := decide ((cAt pool i).Kind = 2) && nameAtM pool (cAt pool i).A nameOk
def isDescM (s : List UInt8) : Bool := (descOf s).isSome
def typedM (s : List UInt8) : Bool := typeOk s || isDescM s
def memberM (pool : List SConst) (x : SConst) (p : List UInt8 → Bool) : Bool := decide (x.Text = []) && (classAtM pool x.A && (decide ((cAt pool x.B).Kind = 3) && nameAtM pool (cAt pool x.B).B p))
def entryM (pool : List SConst) (x : SConst) : Bool :=
  if x.Kind = 1 then decide (x.A = 0) && (decide (x.B = 0) && (nameOk x.Text || typedM x.Text))
  else if x.Kind = 2 then decide (x.Text = []) && (decide (x.B = 0) && nameAtM pool x.A nameOk)
  else if x.Kind = 3 then decide (x.Text = []) && (nameAtM pool x.A nameOk && nameAtM pool x.B typedM)
  else if x.Kind = 4 then memberM pool x typeOk
  else if x.Kind = 5 ∨ x.Kind = 6 then memberM pool x isDescM
  else false
def poolGo (pool : List SConst) : Nat → List SConst → Int
  | _, [] => 0
  | i, x :: r => if i = 60 then 61 else if entryM pool x = true then poolGo pool (i + 1) r else i + 1
def poolCheck (pool : List SConst) : Int := poolGo pool 0 pool
abbrev PoolOk (pool : List SConst) : Prop := pool.length ≤ 140737488351232 ∧ ∀ x ∈ pool, x.wf
theorem SConst.wf0 : SConst.wf {} := by refine ⟨?_, ?_, ?_, ?_⟩ <;> simp [i64]
theorem cAt_wf {pool : List SConst} (w : PoolOk pool) (i : Int) : (cAt pool i).wf := by
  unfold cAt
  split
  · rename_i h
    rw [List.getElem?_eq_getElem (by omega)]
    exact w.2 _ (List.getElem_mem _)
  · exact SConst.wf0
theorem cAt_get {pool : List SConst} {i : Nat} (h : i < pool.length) : cAt pool ((i : Int) + 1) = pool[i] := by
  unfold cAt
  rw [if_pos (by omega), show ((i : Int) + 1 - 1).toNat = i by omega, List.getElem?_eq_getElem h]; rfl
theorem ia_pool {pool : List SConst} {H : Heap} {n : Int} (h0 : 0 ≤ n) (h1 : n.toNat < pool.length) : ia 4 H (.list (pool.map SConst.row)) (.int .i64 n) = some (.el (pool[n.toNat]).row 0) := by
  rw [ia_list h0 (by simpa using h1) (by simp)]; simp
theorem part_const (x : SConst) : part x.row (0, 4, true) = some x.d := rfl
theorem c122 (pool : List SConst) (w : PoolOk pool) (i : Int) (wi : i64 i) : run E (exec E) false 122 [.list (pool.map SConst.row), .int .i64 i] = some (cAt pool i).d := by
  rw [run_ent, e122, alloc_eq _ _ _ rfl]
  simp only [lnL_list, List.length_map, Option.bind_some, call_pure, optAll_cons, optAll_nil, readT_int, c58, unOp_not, asB_bool]
  have hw := w.1
  by_cases h : 1 ≤ i ∧ i ≤ pool.length
  · have hin : inR i 1 pool.length = true := by simp [inR, h]
    simp only [hin, Bool.not_true, cond_false, bI_sub]
    rw [wrap_i64 (n := i - 1) (by omega) (by omega)]
    simp only [Option.bind_some]
    rw [ia_pool (by omega) (by omega)]
    simp only [Option.bind_some, ld_el, part_const]
    rw [st_loc [] _ [] 0 _ (by rfl) (by rfl) (by simp)]
    simp only [Option.bind_some, ld_loc]
    unfold cAt
    rw [if_pos h, List.getElem?_eq_getElem (by omega)]
    rfl
  · have hin : inR i 1 pool.length = false := by simp only [inR, Bool.and_eq_false_iff, decide_eq_false_iff_not]; omega
    simp only [hin, Bool.not_false, cond_true]
    unfold cAt
    rw [if_neg h]
    rfl
theorem c145 (pool : List SConst) (w : PoolOk pool) (i : Int) (wi : i64 i) : run E (exec E) false 145 [.list (pool.map SConst.row), .int .i64 i] = some (cAt pool i).d := by
  rw [run_ent, e145, alloc_eq _ _ _ rfl]
  simp only [lnL_list, List.length_map, Option.bind_some, call_pure, optAll_cons, optAll_nil, readT_int, c66, unOp_not, asB_bool]
  have hw := w.1
  by_cases h : 1 ≤ i ∧ i ≤ pool.length
  · have hin : inR i 1 pool.length = true := by simp [inR, h]
    simp only [hin, cond_true, bI_sub]
    rw [wrap_i64 (n := i - 1) (by omega) (by omega)]
    simp only [Option.bind_some]
    rw [ia_pool (by omega) (by omega)]
    simp only [Option.bind_some, ld_el, part_const]
    rw [st_loc [] _ [] 0 _ (by rfl) (by rfl) (by simp)]
    simp only [Option.bind_some, ld_loc]
    unfold cAt
    rw [if_pos h, List.getElem?_eq_getElem (by omega)]
    rfl
  · have hin : inR i 1 pool.length = false := by simp only [inR, Bool.and_eq_false_iff, decide_eq_false_iff_not]; omega
    simp only [hin, cond_false]
    unfold cAt
    rw [if_neg h]
    rfl
theorem pool_call {g : FuncId} {pool : List SConst} {i : Int} {H : Heap} {t : D} (h : run E (exec E) false g [.list (pool.map SConst.row), .int .i64 i] = some t) : callFn E (exec E) .pure g [.list (pool.map SConst.row), .int .i64 i] H = some (t, H) := pure_call (by simp) h
theorem str_call {g : FuncId} {s : List UInt8} {H : Heap} {t : D} (h : run E (exec E) false g [.str s] = some t) : callFn E (exec E) .pure g [.str s] H = some (t, H) := pure_call (by simp) h
theorem put_const (H : Heap) (x : SConst) (row : List D) (hr : row.length = 4) : st 4 (H ++ [some [row]]) (.ptr H.length 0 0) x.d = some (H ++ [some [x.row]]) := by
  rw [st_loc (z := 4) H row [] 0 x.d rfl rfl (by omega)]
  simp [List.drop_of_length_le (show row.length ≤ 4 by omega)]; rfl
theorem ld_c0 (H K : Heap) (x : SConst) : ld false 1 (H ++ some [x.row] :: K) (.ptr H.length 0 (0 + 0)) = some (.int .i64 x.Kind) := ld_loc H _ K 0
theorem ld_c1 (H K : Heap) (x : SConst) : ld false 1 (H ++ some [x.row] :: K) (.ptr H.length 0 (0 + 1)) = some (.str x.Text) := ld_loc H _ K 1
theorem ld_c2 (H K : Heap) (x : SConst) : ld false 1 (H ++ some [x.row] :: K) (.ptr H.length 0 (0 + 2)) = some (.int .i64 x.A) := ld_loc H _ K 2
theorem ld_c3 (H K : Heap) (x : SConst) : ld false 1 (H ++ some [x.row] :: K) (.ptr H.length 0 (0 + 3)) = some (.int .i64 x.B) := ld_loc H _ K 3
theorem c124 (pool : List SConst) (w : PoolOk pool) (i : Int) (wi : i64 i) (g : FuncId) (cs : List D) (p : List UInt8 → Bool) (hg : ∀ s H, s.length ≤ 140737488351232 → callFn E (exec E) (modeT 124 g) g ([.str s] ++ cs) H = some (.bool (p s), H)) (H : Heap) :
    ent E 124 [.list (pool.map SConst.row), .int .i64 i, .fn g cs] H = some (.bool (nameAtM pool i p), H ++ [some [(cAt pool i).row]]) := by
  rw [e124, pool_call (c122 pool w i wi)]
  simp only [Option.bind_some]
  rw [alloc_eq _ _ _ rfl]
  rw [put_const _ _ _ rfl]
  simp only [Option.bind_some, fa_ptr, ld_c0, ld_c1, bI_eql, asB_bool, asFn_fn, nameAtM]
  by_cases h : (cAt pool i).Kind = 1
  · simp only [h, decide_true, cond_true, hg _ _ (cAt_wf w i).2.1, Option.bind_some, ret_one, Bool.true_and]
  · simp only [h, decide_false, cond_false, ret_one, Bool.false_and]
theorem c123 (pool : List SConst) (w : PoolOk pool) (i : Int) (wi : i64 i) : run E (exec E) false 123 [.list (pool.map SConst.row), .int .i64 i] = some (.bool (classAtM pool i)) := by
  rw [run_ent, e123, pool_call (c122 pool w i wi)]
  simp only [Option.bind_some]
  rw [alloc_eq _ _ _ rfl]
  rw [put_const _ _ _ rfl]
  simp only [Option.bind_some, fa_ptr, ld_c0, ld_c2, bI_eql, asB_bool, call_raw, classAtM]
  by_cases h : (cAt pool i).Kind = 2
  · simp only [h, decide_true, cond_true]
    rw [c124 pool w _ (cAt_wf w i).2.2.1 16 [] nameOk (fun s H hs => str_call (c16 s hs))]
    simp only [Option.bind_some, ret_one, Bool.true_and, readT_bool]
  · simp only [h, decide_false, cond_false, ret_one, Bool.false_and, Option.bind_some, readT_bool]
theorem c119 (s : List UInt8) (hs : s.length ≤ 140737488351232) : run E (exec E) false 119 [.str s] = some (.bool (typedM s)) := by
  rw [run_ent, e119, str_call (c18 s hs)]
  simp only [Option.bind_some, asB_bool]
  cases h : typeOk s with
  | true => simp [typedM, h]
  | false =>
    simp only [cond_false]
    rw [str_call (c120 s hs)]
    simp [typedM, h, isDescM]
theorem c121 (pool : List SConst) (w : PoolOk pool) (x : SConst) (wx : x.wf) (g : FuncId) (cs : List D) (p : List UInt8 → Bool) (hg : ∀ s H, s.length ≤ 140737488351232 → callFn E (exec E) (modeT 124 g) g ([.str s] ++ cs) H = some (.bool (p s), H)) (H : Heap) (p1 p2 : Nat) (h1 : getBlk H p1 = some [[.list (pool.map SConst.row)]]) (h2 : getBlk H p2 = some [x.row]) :
    ∃ H', ent E 121 [.fn g cs, .ptr p1 0 0, .ptr p2 0 0] H = some (.bool (memberM pool x p), H') := by
  have l1 : ∀ K, ld false 1 (H ++ K) (.ptr p1 0 0) = some (.list (pool.map SConst.row)) := fun K => by rw [ld_ptr (getBlk_app h1) rfl]; rfl
  have l2 : ∀ K f, ld false 1 (H ++ K) (.ptr p2 0 (0 + f)) = x.row[0 + f]? := fun K f => by rw [ld_ptr (getBlk_app h2) rfl]; rfl
  rw [e121]
  have l10 := l1 []
  have l20 := l2 [] 3
  rw [List.append_nil] at l10 l20
  simp only [l10, l20, fa_ptr, Option.bind_some, show x.row[0 + 3]? = some (.int .i64 x.B) from rfl]
  rw [pool_call (c122 pool w x.B wx.2.2.2)]
  simp only [Option.bind_some]
  rw [alloc_eq _ _ _ rfl]
  rw [put_const _ _ _ rfl]
  simp only [Option.bind_some, l2, show x.row[0 + 1]? = some (.str x.Text) from rfl, bS_eql, asB_bool, memberM]
  by_cases ht : x.Text = []
  · simp only [ht, decide_true, cond_true, l1, l2, Option.bind_some, show x.row[0 + 2]? = some (.int .i64 x.A) from rfl, Bool.true_and]
    rw [pool_call (c123 pool w x.A wx.2.2.1)]
    simp only [Option.bind_some, asB_bool]
    cases hc : classAtM pool x.A with
    | false => exact ⟨_, rfl⟩
    | true =>
      simp only [cond_true, fa_ptr, ld_c0, ld_c3, Option.bind_some, bI_eql, asB_bool, Bool.true_and]
      by_cases hk : (cAt pool x.B).Kind = 3
      · simp only [hk, decide_true, cond_true, Bool.true_and, l1, Option.bind_some, call_raw]
        rw [c124 pool w _ (cAt_wf w x.B).2.2.2 g cs p hg]
        exact ⟨_, rfl⟩
      · simp only [hk, decide_false, cond_false, Bool.false_and]
        exact ⟨_, rfl⟩
  · simp only [ht, decide_false, cond_false, Bool.false_and]
    exact ⟨_, rfl⟩
theorem c92 (pool : List SConst) (w : PoolOk pool) (x : SConst) (wx : x.wf) : run E (exec E) false 92 [.list (pool.map SConst.row), x.d] = some (.bool (entryM pool x)) := by
  rw [run_ent, e92]
  rw [alloc_eq _ _ _ rfl, alloc_eq _ _ _ rfl]
  have l1 : ∀ K, ld false 1 ([some [D.cells (.list (pool.map SConst.row))]] ++ K) (.ptr 0 0 0) = some (.list (pool.map SConst.row)) := fun K => rfl
  have hA : ∀ K : Heap, ([] : Heap) ++ [some [D.cells (.list (pool.map SConst.row))]] ++ [some [D.cells x.d]] = ([some [D.cells (.list (pool.map SConst.row))]] : Heap) ++ some [x.row] :: [] := fun K => rfl
  have hn : ([] ++ [some [D.cells (.list (pool.map SConst.row))]] : Heap).length = 1 := rfl
  rw [hA []]
  generalize hG : ([some [D.cells (.list (pool.map SConst.row))]] : Heap) ++ some [x.row] :: [] = G
  have g1 : getBlk G 0 = some [[.list (pool.map SConst.row)]] := by rw [← hG]; rfl
  have g2 : getBlk G 1 = some [x.row] := by rw [← hG]; rfl
  have l1 : ∀ K, ld false 1 (G ++ K) (.ptr 0 0 0) = some (.list (pool.map SConst.row)) := fun K => by rw [ld_ptr (getBlk_app g1) rfl]; rfl
  have l2 : ∀ K f, ld false 1 (G ++ K) (.ptr 1 0 (0 + f)) = x.row[0 + f]? := fun K f => by rw [ld_ptr (getBlk_app g2) rfl]; rfl
  have l10 := l1 []
  have l20 := fun f => l2 [] f
  simp only [List.append_nil] at l10 l20
  simp only [hn, List.length_nil]
  have r0 : x.row[0 + 0]? = some (.int .i64 x.Kind) := rfl
  have r1 : x.row[0 + 1]? = some (.str x.Text) := rfl
  have r2 : x.row[0 + 2]? = some (.int .i64 x.A) := rfl
  have r3 : x.row[0 + 3]? = some (.int .i64 x.B) := rfl
  simp only [fa_ptr, Option.bind_some, l10, l20, l1, l2, r0, r1, r2, r3, bI_eql, asB_bool]
  unfold entryM
  by_cases k1 : x.Kind = 1
  · simp only [k1, decide_true, cond_true, if_true]
    by_cases ha : x.A = 0
    · by_cases hb : x.B = 0
      · simp only [ha, hb, decide_true, cond_true, Bool.true_and]
        rw [str_call (c16 _ wx.2.1)]
        simp only [Option.bind_some, asB_bool]
        cases hn : nameOk x.Text with
        | true => simp
        | false =>
          simp only [cond_false, l20, r1, Option.bind_some]
          rw [str_call (c119 _ wx.2.1)]
          simp
      · simp [ha, hb]
    · simp [ha]
  simp only [k1, decide_false, cond_false, if_false]
  by_cases k2 : x.Kind = 2
  · simp only [k2, decide_true, cond_true, if_true, bS_eql, Option.bind_some, asB_bool]
    by_cases ha : x.Text = []
    · by_cases hb : x.B = 0
      · simp only [ha, hb, decide_true, cond_true, Bool.true_and, call_raw]
        rw [c124 pool w _ wx.2.2.1 16 [] nameOk (fun s H hs => str_call (c16 s hs))]
        simp
      · simp [ha, hb]
    · simp [ha]
  simp only [k2, decide_false, cond_false, if_false]
  by_cases k3 : x.Kind = 3
  · simp only [k3, decide_true, cond_true, if_true, bS_eql, Option.bind_some, asB_bool]
    by_cases ha : x.Text = []
    · simp only [ha, decide_true, cond_true, Bool.true_and, call_raw]
      rw [c124 pool w _ wx.2.2.1 16 [] nameOk (fun s H hs => str_call (c16 s hs))]
      simp only [Option.bind_some, asB_bool]
      cases hn : nameAtM pool x.A nameOk with
      | false => simp
      | true =>
        simp only [cond_true, l1, l2, r3, Option.bind_some]
        rw [c124 pool w _ wx.2.2.2 119 [] typedM (fun s H hs => str_call (c119 s hs))]
        simp
    · simp [ha]
  simp only [k3, decide_false, cond_false, if_false]
  by_cases k4 : x.Kind = 4
  · simp only [k4, decide_true, cond_true, if_true, call_raw]
    obtain ⟨H', e⟩ := c121 pool w x wx 18 [] typeOk (fun s H hs => str_call (c18 s hs)) G 0 1 g1 g2
    rw [e]
    simp
  simp only [k4, decide_false, cond_false, if_false]
  have hd : ∀ s H, s.length ≤ 140737488351232 → callFn E (exec E) (modeT 124 120) 120 ([.str s] ++ []) H = some (.bool (isDescM s), H) := fun s H hs => str_call (c120 s hs)
  have fin : (J E 92 14 [.fn 121 [.ptr 0 0 0, .ptr 1 0 0]] G).bind (fun q => readT false depth q.2 q.1) = some (.bool (memberM pool x isDescM)) := by
    rw [j92_14, asFn_fn]
    obtain ⟨H', e⟩ := c121 pool w x wx 120 [] isDescM hd G 0 1 g1 g2
    rw [show callFn E (exec E) (modeT 92 121) 121 ([.fn 120 []] ++ [.ptr 0 0 0, .ptr 1 0 0]) G = some (.bool (memberM pool x isDescM), H') from e]
    simp
  by_cases k5 : x.Kind = 5
  · simp only [k5, decide_true, cond_true, asB_bool, if_true, true_or]
    exact fin
  simp only [k5, decide_false, cond_false]
  by_cases k6 : x.Kind = 6
  · simp only [k6, decide_true, cond_true, if_true, or_true]
    exact fin
  · simp only [k6, decide_false, cond_false, or_self, if_false]
    rw [j92_15]
    simp
theorem c55_2 (pool : List SConst) (w : PoolOk pool) : ∀ i, i ≤ pool.length → ∀ H, ∃ H', J E 55 2 [.list (pool.map SConst.row), .list (pool.map SConst.row), .int .i64 pool.length, .int .i64 i] H = some (.int .i64 (poolGo pool i (pool.drop i)), H') := by
  have hw := w.1
  apply loop_up
  · intro H
    rw [j55_2]
    simp only [bI_lss, Int.lt_irrefl, decide_false, Option.bind_some, asB_bool, cond_false, List.drop_length, poolGo]
    exact ⟨_, rfl⟩
  · intro i hi ih H
    have hlt : ((i : Nat) : Int) < (pool.length : Int) := by omega
    rw [j55_2, List.drop_eq_getElem_cons hi, poolGo]
    simp only [bI_lss, hlt, decide_true, Option.bind_some, asB_bool, cond_true]
    rw [ia_pool (n := (i : Int)) (by omega) (by omega)]
    simp only [Option.bind_some, ld_el, part_const, Int.toNat_natCast]
    rw [alloc_eq _ _ _ rfl]
    rw [put_const _ _ _ rfl]
    simp only [Option.bind_some, bI_eql, asB_bool]
    by_cases h60 : i = 60
    · subst h60
      simp only [if_true]
      exact ⟨_, rfl⟩
    · simp only [h60, show ¬ (i : Int) = 60 by omega, decide_false, cond_false, if_false, ld_loc, part_const, Option.bind_some]
      rw [pure_call (ts := [.list (pool.map SConst.row), (pool[i]).d]) (by simp [SConst.readD]) (c92 pool w _ (w.2 _ (List.getElem_mem hi)))]
      simp only [Option.bind_some, unOp_not, asB_bool, bI_add]
      rw [wrap_i64 (n := (i : Int) + 1) (by omega) (by omega)]
      cases he : entryM pool pool[i] with
      | false => exact ⟨_, rfl⟩
      | true =>
        simp only [Bool.not_true, cond_false, if_true, Option.bind_some]
        obtain ⟨H', e⟩ := ih (H ++ [some [(pool[i]).row]])
        exact ⟨H', e⟩
theorem c55 (pool : List SConst) (w : PoolOk pool) : run E (exec E) false 55 [.list (pool.map SConst.row)] = some (.int .i64 (poolCheck pool)) := by
  rw [run_ent, e55]
  obtain ⟨H', e⟩ := c55_2 pool w 0 (by omega) []
  simp only [lnL_list, List.length_map, Option.bind_some]
  rw [show D.int .i64 0 = D.int .i64 ((0 : Nat) : Int) from rfl, e]
  simp [poolCheck]
/-! The other way. -/
theorem c118 (pool : List SConst) (w : PoolOk pool) (i : Int) (wi : i64 i) (k : Int) : run E (exec E) false 118 [.list (pool.map SConst.row), .int .i64 i, .int .i64 k] = some (.bool (decide ((cAt pool i).Kind = k))) := by
  rw [run_ent, e118, pool_call (c145 pool w i wi)]
  simp only [Option.bind_some, fd_agg, show part (cAt pool i).row (0, 1, false) = some (.int .i64 (cAt pool i).Kind) from rfl, bI_eql, ret_one, readT_bool]
def classM (pool : List SConst) (i : Int) : List UInt8 := if classAtM pool i = true then (cAt pool (cAt pool i).A).Text else []
def textM (pool : List SConst) (i : Int) : List UInt8 := if (cAt pool i).Kind = 1 then (cAt pool i).Text else []
theorem textM_len {pool : List SConst} (w : PoolOk pool) (i : Int) : (textM pool i).length ≤ 140737488351232 := by
  unfold textM
  split
  · exact (cAt_wf w i).2.1
  · simp
theorem nameAt_text {pool : List SConst} {i : Int} {p : List UInt8 → Bool} (hp : p [] = false) : nameAtM pool i p = p (textM pool i) := by
  unfold nameAtM textM
  by_cases h : (cAt pool i).Kind = 1 <;> simp [h, hp]
theorem nameOk_nil : nameOk [] = false := rfl
theorem typeOk_nil : typeOk [] = false := rfl
theorem isDescM_nil : isDescM [] = false := rfl
theorem typedM_nil : typedM [] = false := rfl
theorem classM_nil (pool : List SConst) (i : Int) : decide (classM pool i = []) = !classAtM pool i := by
  unfold classM
  cases h : classAtM pool i with
  | false => simp
  | true =>
    have : ¬ (cAt pool (cAt pool i).A).Text = [] := by
      intro e
      simp [classAtM, nameAtM, e, nameOk_nil] at h
    simp [this]
theorem c115 (pool : List SConst) (w : PoolOk pool) (i : Int) (wi : i64 i) : run E (exec E) false 115 [.list (pool.map SConst.row), .int .i64 i] = some (.str (classM pool i)) := by
  have hw := cAt_wf w i
  have hw2 := cAt_wf w (cAt pool i).A
  rw [run_ent, e115, pool_call (c145 pool w i wi)]
  simp only [Option.bind_some]
  rw [alloc_eq _ _ _ rfl, put_const _ _ _ rfl]
  simp only [Option.bind_some, fa_ptr, ld_c2]
  rw [pool_call (c145 pool w _ hw.2.2.1)]
  simp only [Option.bind_some]
  rw [alloc_eq _ _ _ rfl, put_const _ _ _ rfl]
  simp only [Option.bind_some, fa_ptr, List.append_assoc, List.singleton_append, ld_c0, bI_neq, asB_bool, List.length_append, List.length_nil, List.length_singleton, Nat.zero_add, List.nil_append, classM, classAtM, nameAtM]
  have a0 := ld_c0 [] [some [(cAt pool (cAt pool i).A).row]] (cAt pool i)
  have b0 := ld_c0 [some [(cAt pool i).row]] [] (cAt pool (cAt pool i).A)
  have b1 := ld_c1 [some [(cAt pool i).row]] [] (cAt pool (cAt pool i).A)
  simp only [List.nil_append, List.length_nil, List.length_singleton, List.singleton_append] at a0 b0 b1
  simp only [a0, Option.bind_some, bI_neq, asB_bool]
  by_cases h1 : (cAt pool i).Kind = 2
  · simp only [h1, decide_true, Bool.not_true, cond_false, b0, Option.bind_some, bI_neq, asB_bool]
    by_cases h2 : (cAt pool (cAt pool i).A).Kind = 1
    · simp only [h2, decide_true, Bool.not_true, cond_false, b1, Option.bind_some]
      rw [str_call (c57 _ hw2.2.1)]
      simp only [Option.bind_some, unOp_not, asB_bool]
      cases h3 : nameOk (cAt pool (cAt pool i).A).Text <;> simp [b1]
    · simp [h2]
  · simp [h1]
theorem c116 (pool : List SConst) (w : PoolOk pool) (i : Int) (wi : i64 i) : run E (exec E) false 116 [.list (pool.map SConst.row), .int .i64 i] = some (.str (textM pool i)) := by
  rw [run_ent, e116, pool_call (c145 pool w i wi)]
  simp only [Option.bind_some]
  rw [alloc_eq _ _ _ rfl, put_const _ _ _ rfl]
  simp only [Option.bind_some, fa_ptr, ld_c0, ld_c1, bI_neq, asB_bool, textM]
  by_cases h : (cAt pool i).Kind = 1 <;> simp [h]
theorem c117 (pool : List SConst) (w : PoolOk pool) (i : Int) (wi : i64 i) : run E (exec E) false 117 [.list (pool.map SConst.row), .int .i64 i] = some (.tup [.str (classM pool (cAt pool i).A), .str (textM pool (cAt pool (cAt pool i).B).A), .str (textM pool (cAt pool (cAt pool i).B).B)]) := by
  have hw := cAt_wf w i
  have hw2 := cAt_wf w (cAt pool i).B
  rw [run_ent, e117, pool_call (c145 pool w i wi)]
  simp only [Option.bind_some]
  rw [alloc_eq _ _ _ rfl, put_const _ _ _ rfl]
  simp only [Option.bind_some, fa_ptr, ld_c3]
  rw [pool_call (c145 pool w _ hw.2.2.2)]
  simp only [Option.bind_some]
  rw [alloc_eq _ _ _ rfl, put_const _ _ _ rfl]
  simp only [Option.bind_some, fa_ptr, List.append_assoc, List.singleton_append, List.length_append, List.length_nil, List.length_singleton, Nat.zero_add, List.nil_append]
  have a2 := ld_c2 [] [some [(cAt pool (cAt pool i).B).row]] (cAt pool i)
  have b2 := ld_c2 [some [(cAt pool i).row]] [] (cAt pool (cAt pool i).B)
  have b3 := ld_c3 [some [(cAt pool i).row]] [] (cAt pool (cAt pool i).B)
  simp only [List.nil_append, List.length_nil, List.length_singleton, List.singleton_append] at a2 b2 b3
  simp only [a2, Option.bind_some]
  rw [pool_call (c115 pool w _ hw.2.2.1)]
  simp only [b2, Option.bind_some]
  rw [pool_call (c116 pool w _ hw2.2.2.1)]
  simp only [b3, Option.bind_some]
  rw [pool_call (c116 pool w _ hw2.2.2.2)]
  simp
theorem c90 (pool : List SConst) (w : PoolOk pool) (i : Nat) (hi : i < pool.length) : run E (exec E) false 90 [.list (pool.map SConst.row), .int .i64 i] = some (.bool (entryM pool pool[i])) := by
  have hwl := w.1
  have wx := w.2 _ (List.getElem_mem hi)
  have hc := cAt_get hi
  rw [run_ent, e90, ia_pool (n := (i : Int)) (by omega) (by omega)]
  simp only [Option.bind_some, ld_el, part_const, Int.toNat_natCast]
  rw [alloc_eq _ _ _ rfl, put_const _ _ _ rfl]
  generalize hx : pool[i] = x at wx hc
  simp only [Option.bind_some, fa_ptr, ld_c0, ld_c1, ld_c2, ld_c3, bI_eql, asB_bool]
  unfold entryM
  by_cases k1 : x.Kind = 1
  · simp only [k1, decide_true, cond_true, if_true]
    by_cases ha : x.A = 0
    · by_cases hb : x.B = 0
      · simp only [ha, hb, decide_true, cond_true, Bool.true_and]
        rw [str_call (c57 _ wx.2.1)]
        simp only [Option.bind_some, asB_bool]
        cases hn : nameOk x.Text with
        | true => simp
        | false =>
          simp only [cond_false, ld_c1, Option.bind_some]
          rw [str_call (c59 _ wx.2.1)]
          simp only [Option.bind_some, asB_bool]
          cases ht : typeOk x.Text with
          | true => simp [typedM, ht]
          | false =>
            simp only [cond_false, ld_c1, Option.bind_some]
            rw [str_call (c114 _ wx.2.1)]
            simp [typedM, ht, isDescM]
      · simp [ha, hb]
    · simp [ha]
  simp only [k1, decide_false, cond_false, if_false]
  rw [bI_add, wrap_i64 (n := (i : Int) + 1) (by omega) (by omega)]
  by_cases k2 : x.Kind = 2
  · simp only [k2, decide_true, cond_true, if_true, bS_eql, Option.bind_some, asB_bool]
    by_cases ha : x.Text = []
    · by_cases hb : x.B = 0
      · simp only [ha, hb, decide_true, cond_true, Bool.true_and]
        rw [pool_call (c115 pool w _ (by simp [i64]; omega))]
        simp only [Option.bind_some, bS_neq, classM_nil, ret_one, readT_bool, Bool.not_not, classAtM, hc, k2, decide_true, Bool.true_and]
      · simp [ha, hb]
    · simp [ha]
  simp only [k2, decide_false, cond_false, if_false]
  by_cases k3 : x.Kind = 3
  · simp only [k3, decide_true, cond_true, if_true, bS_eql, Option.bind_some, asB_bool]
    rw [pool_call (c116 pool w _ wx.2.2.2)]
    simp only [Option.bind_some, ld_c1, ld_c2, bS_eql, asB_bool]
    by_cases ha : x.Text = []
    · simp only [ha, decide_true, cond_true, Bool.true_and]
      rw [pool_call (c116 pool w _ wx.2.2.1)]
      simp only [Option.bind_some]
      rw [str_call (c57 _ (textM_len w _)), nameAt_text nameOk_nil, nameAt_text typedM_nil]
      simp only [Option.bind_some, asB_bool]
      cases hn : nameOk (textM pool x.A) with
      | false => simp
      | true =>
        simp only [cond_true]
        rw [str_call (c59 _ (textM_len w _))]
        simp only [Option.bind_some, asB_bool]
        cases ht : typeOk (textM pool x.B) with
        | true => simp [typedM, ht]
        | false =>
          simp only [cond_false]
          rw [str_call (c114 _ (textM_len w _))]
          simp [typedM, ht, isDescM]
    · simp [ha]
  simp only [k3, decide_false, cond_false, if_false, Option.bind_some]
  rw [pool_call (c117 pool w _ (by simp [i64]; omega)), hc]
  simp only [Option.bind_some, extract_tup, List.getElem?_cons_zero, List.getElem?_cons_succ, ld_c0]
  rw [pure_call (ts := [.int .i64 x.Kind, .int .i64 4, .int .i64 6]) (by simp) (c66 _ _ _)]
  simp only [Option.bind_some, unOp_not, asB_bool]
  by_cases hin : inR x.Kind 4 6 = true
  · simp only [hin, Bool.not_true, cond_false, ld_c1, Option.bind_some, bS_neq, asB_bool]
    have hm : ∀ p : List UInt8 → Bool, p [] = false → memberM pool x p = (decide (x.Text = []) && (classAtM pool x.A && (decide ((cAt pool x.B).Kind = 3) && p (textM pool (cAt pool x.B).B)))) := fun p hp => by rw [memberM, nameAt_text hp]
    have hE : (if x.Kind = 4 then memberM pool x typeOk else if x.Kind = 5 ∨ x.Kind = 6 then memberM pool x isDescM else false) = (decide (x.Text = []) && (classAtM pool x.A && (decide ((cAt pool x.B).Kind = 3) && (if x.Kind = 4 then typeOk (textM pool (cAt pool x.B).B) else isDescM (textM pool (cAt pool x.B).B))))) := by
      by_cases k4 : x.Kind = 4
      · simp only [k4, if_true, hm typeOk typeOk_nil]
      · have : x.Kind = 5 ∨ x.Kind = 6 := by simp only [inR, Bool.and_eq_true, decide_eq_true_eq] at hin; omega
        simp only [k4, if_false, this, if_true, hm isDescM isDescM_nil]
    rw [hE]
    by_cases ha : x.Text = []
    · simp only [ha, decide_true, Bool.not_true, cond_false, ld_c2, Option.bind_some, Bool.true_and]
      rw [pool_call (c115 pool w _ wx.2.2.1)]
      simp only [Option.bind_some, bS_eql, classM_nil, asB_bool]
      cases hcl : classAtM pool x.A with
      | false => simp
      | true =>
        simp only [Bool.not_true, cond_false, ld_c3, Option.bind_some, Bool.true_and]
        rw [pure_call (ts := [.list (pool.map SConst.row), .int .i64 x.B, .int .i64 3]) (by simp) (c118 pool w _ wx.2.2.2 3)]
        simp only [Option.bind_some, unOp_not, asB_bool]
        by_cases hk : (cAt pool x.B).Kind = 3
        · simp only [hk, decide_true, Bool.not_true, cond_false, ld_c0, Option.bind_some, bI_eql, asB_bool, Bool.true_and]
          by_cases k4 : x.Kind = 4
          · simp only [k4, decide_true, cond_true, if_true]
            rw [str_call (c59 _ (textM_len w _))]
            simp
          · simp only [k4, decide_false, cond_false, if_false]
            rw [str_call (c114 _ (textM_len w _))]
            simp [isDescM]
        · simp [hk]
    · simp [ha]
  · have hin : inR x.Kind 4 6 = false := by simpa using hin
    have : ¬ x.Kind = 4 ∧ ¬ (x.Kind = 5 ∨ x.Kind = 6) := by simp only [inR, Bool.and_eq_false_iff, decide_eq_false_iff_not] at hin; omega
    simp [hin, this]
theorem poolGo_full (pool : List SConst) : ∀ (i : Nat) (l : List SConst), 60 < i → poolGo pool i l = poolGo pool i l := fun _ _ _ => rfl
theorem c53_2 (pool : List SConst) (w : PoolOk pool) (H : Heap) : ∀ i, i ≤ pool.length → i ≤ 60 → J E 53 2 [.list (pool.map SConst.row), .int .i64 i] H = some (.int .i64 (poolGo pool i (pool.drop i)), H) := by
  have hw := w.1
  apply loop_up (P := fun i => i ≤ 60 → J E 53 2 [.list (pool.map SConst.row), .int .i64 i] H = some (.int .i64 (poolGo pool i (pool.drop i)), H))
  · intro h60
    rw [j53_2]
    simp only [lnL_list, List.length_map, bI_lss, bI_gtr, Int.lt_irrefl, decide_false, Option.bind_some, asB_bool, cond_false, List.drop_length, poolGo, show ¬ (60 : Int) < (pool.length : Int) by omega, ret_one]
  · intro i hi ih h60
    have hlt : ((i : Nat) : Int) < (pool.length : Int) := by omega
    rw [j53_2, List.drop_eq_getElem_cons hi, poolGo]
    simp only [lnL_list, List.length_map, bI_lss, bI_gtr, hlt, decide_true, Option.bind_some, asB_bool, cond_true]
    by_cases h : i = 60
    · subst h
      have : (60 : Int) < pool.length := by omega
      simp [this]
    · have h2 : ((i : Nat) : Int) < 60 := by omega
      simp only [h, h2, decide_true, cond_true, if_false]
      rw [pool_call (c90 pool w i hi)]
      simp only [Option.bind_some, unOp_not, asB_bool, bI_add]
      rw [wrap_i64 (n := (i : Int) + 1) (by omega) (by omega)]
      cases he : entryM pool pool[i] with
      | false => simp
      | true =>
        simp only [Bool.not_true, cond_false, if_true, Option.bind_some]
        exact ih (by omega)
theorem c53 (pool : List SConst) (w : PoolOk pool) : run E (exec E) false 53 [.list (pool.map SConst.row)] = some (.int .i64 (poolCheck pool)) := by
  rw [run_ent, e53]
  rw [show D.int .i64 0 = D.int .i64 ((0 : Nat) : Int) from rfl, c53_2 pool w [] 0 (by omega) (by omega)]
  simp [poolCheck]

end Go.Ev.Ytohkcloiokhglaa
