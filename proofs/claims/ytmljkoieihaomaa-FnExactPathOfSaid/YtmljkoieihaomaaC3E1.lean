/- Contracts. -/
import Derived.Test.YtmljkoieihaomaaC3E0
namespace Go.Ev.Ytmljkoieihaomaa
set_option linter.unusedVariables false
set_option linter.unusedSimpArgs false
open Go.Ev
/-! Paths. -/
theorem files_wf {l : SLoader} (w : l.wf) : l.Files.length ≤ 140737488351232 := w.1.1
def pathGo (list : List SLoader) (n : List UInt8) : Nat → List Int → Int → List Int × Bool
  | 0, out, _ => (out, false)
  | k + 1, out, loader => if 0 ≤ loader ∧ loader ∉ out then
      match list[loader.toNat]? with
      | some l => if (nextM l n).2 = true then (out ++ [loader], true) else pathGo list n k (out ++ [loader]) (nextM l n).1
      | none => (out, false)
    else (out, false)
def pathM (list : List SLoader) (n : List UInt8) (loader : Int) : List Int × Bool := pathGo list n 4 [] loader
def pathOfM (list : List SLoader) (loader : Int) (n : List UInt8) : List Int := if asksM list loader n = true then (if (pathM list n loader).2 = true then (pathM list n loader).1 else []) else []
def makerM (list : List SLoader) (loader : Int) (n : List UInt8) : Int := ((pathOfM list loader n).getLast?).getD (-1)
def sameM (list : List SLoader) (a b : Int) (n : List UInt8) : Bool := decide (0 ≤ makerM list a n) && decide (makerM list a n = makerM list b n)
def free (out : List Int) : Nat := (if (0 : Int) ∈ out then 0 else 1) + (if (1 : Int) ∈ out then 0 else 1) + (if (2 : Int) ∈ out then 0 else 1)
theorem free_step {out : List Int} {x : Int} (h0 : 0 ≤ x) (h1 : x < 3) (hx : x ∉ out) : free (out ++ [x]) < free out := by
  have hm : ∀ y : Int, y ∈ out ++ [x] ↔ y ∈ out ∨ y = x := fun y => by simp
  unfold free
  simp only [hm]
  have h3 : x = 0 ∨ x = 1 ∨ x = 2 := by omega
  rcases h3 with e | e | e
  · subst e; simp [hx]
  · subst e; simp [hx]
  · subst e; simp [hx]
theorem waysOk_to {all : List SWay} {many : Int} : ∀ {i : Nat} {l : List SWay}, waysOk all many i l = true → ∀ w ∈ l, 0 ≤ w.To ∧ w.To ≤ many - 1
  | _, [], _, w, hw => by cases hw
  | i, v :: r, h, w, hw => by
    simp only [waysOk, Bool.and_eq_true] at h
    rcases List.mem_cons.mp hw with e | hw
    · subst e
      have := h.2.1
      simpa [inR] using this
    · exact waysOk_to h.2.2.2 w hw
theorem loaderOk_get {list : List SLoader} (h : loadersOk list = true) {l : SLoader} (hl : l ∈ list) : loaderOk l list.length = true := by
  simp only [loadersOk, Bool.and_eq_true, List.all_eq_true] at h
  exact h.2 l hl
theorem loadersOk_len {list : List SLoader} (h : loadersOk list = true) : 1 ≤ list.length ∧ list.length ≤ 3 := by
  simp only [loadersOk, Bool.and_eq_true, inR, decide_eq_true_eq] at h
  omega
theorem loaderOk_ways {l : SLoader} {many : Int} (h : loaderOk l many = true) : ∀ w ∈ l.Ways, 0 ≤ w.To ∧ w.To ≤ many - 1 := by
  simp only [loaderOk, Bool.and_eq_true] at h
  exact waysOk_to h.2.2.2.2
theorem loaderOk_parent {l : SLoader} {many : Int} (h : loaderOk l many = true) : -1 ≤ l.Parent ∧ l.Parent ≤ many - 1 := by
  simp only [loaderOk, Bool.and_eq_true, inR, decide_eq_true_eq] at h
  exact h.2.2.1
theorem next_rng {l : SLoader} {many : Int} (hm : 0 ≤ many) (h : loaderOk l many = true) (n : List UInt8) : -1 ≤ (nextM l n).1 ∧ (nextM l n).1 ≤ many - 1 := by
  have h1 := loaderOk_ways h
  have h2 := loaderOk_parent h
  unfold nextM
  cases hf : l.Ways.find? (wayNamed n) with
  | some w =>
    have := h1 w (List.mem_of_find?_eq_some hf)
    simp only
    omega
  | none =>
    simp only
    split
    · simp only; omega
    · simp only; omega
theorem free_pos {out : List Int} {x : Int} (h0 : 0 ≤ x) (h1 : x < 3) (hx : x ∉ out) : 0 < free out := by have := free_step h0 h1 hx; omega
theorem c29_2 (list : List SLoader) (w : LoadersWf list) (hok : loadersOk list = true) (n : List UInt8) : ∀ (k : Nat) (out : List Int) (loader : Int) (d : D) (H : Heap), free out ≤ k → k ≤ 3 → out.length + k ≤ 3 → -1 ≤ loader → loader ≤ list.length - 1 → Acc 1 H d (out.map rInt) → ∃ d' H', J E 29 2 [.list (list.map SLoader.row), .int .i64 loader, .str n, d] H = some (.tup [d', .bool (pathGo list n (k + 1) out loader).2], H') ∧ Acc 1 H' d' ((pathGo list n (k + 1) out loader).1.map rInt)
  | k, out, loader, d, H, hk, hk3, hout, hl0, hl1, hA => by
    have hlen := loadersOk_len hok
    rw [j29_2, pathGo]
    simp only [bI_geq, Option.bind_some, asB_bool]
    by_cases h0 : 0 ≤ loader
    · simp only [h0, decide_true, cond_true, true_and]
      rw [pure_call (ts := [.list (out.map rInt), .int .i64 loader]) (by simp [hA.read9 (fun r hr l n H => by obtain ⟨x, _, rfl⟩ := List.mem_map.mp hr; simp [rInt]) true]) (c78 out (by omega) loader)]
      simp only [Option.bind_some, unOp_not, asB_bool]
      by_cases hm : loader ∈ out
      · simp only [hm, decide_true, Bool.not_true, cond_false, not_true, if_false, ret_two]
        exact ⟨_, _, rfl, hA⟩
      · have hlt : loader.toNat < list.length := by omega
        have hwl := w.2 _ (List.getElem_mem hlt)
        have hok1 := loaderOk_get hok (List.getElem_mem hlt)
        have hnx := next_rng (by omega) hok1 n
        simp only [hm, decide_false, Bool.not_false, cond_true, not_false_eq_true, if_true, List.getElem?_eq_getElem hlt]
        rw [bsl_one (esz := 1) (by omega) rfl rfl rfl]
        simp only [Option.bind_some]
        obtain ⟨d', H', h5, h6, h7⟩ := app_one (eb := 8) (c := rInt loader) hA rfl (by simp [maxLen]; omega)
        rw [show (D.int .i64 loader).cells = rInt loader from rfl, h5]
        simp only [Option.bind_some]
        rw [ia_loader h0 hlt]
        simp only [Option.bind_some, ld_el, show part (list[loader.toNat]).row (0, 3, true) = some (list[loader.toNat]).d from rfl]
        rw [pure_call (ts := [(list[loader.toNat]).d, .str n]) (by simp [SLoader.readD]) (c79 _ hwl n)]
        simp only [Option.bind_some, extract_tup, List.getElem?_cons_zero, List.getElem?_cons_succ, asB_bool]
        have h6' : Acc 1 H' d' ((out ++ [loader]).map rInt) := by simpa using h6
        cases hn : (nextM list[loader.toNat] n).2 with
        | true =>
          simp only [cond_true, if_true]
          exact ⟨_, _, rfl, h6'⟩
        | false =>
          simp only [cond_false, Bool.false_eq_true, if_false]
          have hf := free_step h0 (show loader < 3 by omega) hm
          cases k with
          | zero => omega
          | succ k => exact c29_2 list w hok n k (out ++ [loader]) _ d' H' (by omega) (by omega) (by simp; omega) hnx.1 hnx.2 h6'
    · simp only [h0, decide_false, cond_false, false_and, if_false, ret_two]
      exact ⟨_, _, rfl, hA⟩
theorem int_plain (out : List Int) : plainRows (out.map rInt) := fun r hr l n H => by obtain ⟨x, _, rfl⟩ := List.mem_map.mp hr; simp [rInt]
theorem c29o (list : List SLoader) (w : LoadersWf list) (hok : loadersOk list = true) (n : List UInt8) (loader : Int) (hl : 0 ≤ loader ∧ loader ≤ list.length - 1) : ∃ d' H', ent E 29 [.list (list.map SLoader.row), .int .i64 loader, .str n] [] = some (.tup [d', .bool (pathM list n loader).2], H') ∧ Acc 1 H' d' ((pathM list n loader).1.map rInt) := by
  rw [e29]
  exact c29_2 list w hok n 3 [] loader .sl0 [] (by simp [free]) (by omega) (by simp) (by omega) hl.2 (Acc.nil _ _)
theorem c29 (list : List SLoader) (w : LoadersWf list) (hok : loadersOk list = true) (n : List UInt8) (loader : Int) (hl : 0 ≤ loader ∧ loader ≤ list.length - 1) : OwnC E 2 29 [.list (list.map SLoader.row), .int .i64 loader, .str n] (.tup [.list ((pathM list n loader).1.map rInt), .bool (pathM list n loader).2]) := by
  obtain ⟨d', H', e, hA⟩ := c29o list w hok n loader hl
  obtain ⟨B, r1, r2, -⟩ := hA.rep (o := true) (n := 0) (fun r hr => by obtain ⟨x, _, rfl⟩ := List.mem_map.mp hr; rfl)
  refine ⟨_, H', B, e, ?_, r2⟩
  have := RepT.tup (RepR.cons r1 (RepR.cons (B := []) (B' := []) (.sc (d := .bool (pathM list n loader).2) rfl) .nil))
  simpa using this
theorem asks_ok {list : List SLoader} {k : Int} {n : List UInt8} (h : asksM list k n = true) : loadersOk list = true ∧ 0 ≤ k ∧ k ≤ list.length - 1 := by
  simp only [asksM, Bool.and_eq_true, inR, decide_eq_true_eq] at h
  exact ⟨h.1, h.2.1⟩
theorem c9 (list : List SLoader) (w : LoadersWf list) (loader : Int) (n : List UInt8) (hn : n.length ≤ 140737488351232) : OwnC E 8 9 [.list (list.map SLoader.row), .int .i64 loader, .str n] (.list ((pathOfM list loader n).map rInt)) := by
  have nope : RepT true [] 8 .sl0 (.list (([] : List Int).map rInt)) [] := .sl0
  unfold OwnC
  rw [e9, pure_call (ts := [.list (list.map SLoader.row), .int .i64 loader, .str n]) (by simp) (c28 list w loader n hn)]
  simp only [Option.bind_some, unOp_not, asB_bool, pathOfM]
  cases ha : asksM list loader n with
  | false => exact ⟨_, _, _, rfl, nope, List.nodup_nil⟩
  | true =>
    obtain ⟨hok, hl⟩ := asks_ok ha
    simp only [Bool.not_true, cond_false, if_true]
    have L0 : Live [] [] := Live.nil []
    obtain ⟨d1, H1, B1, q1, P1⟩ := L0.own (c29 list w hok n loader hl) (by decide) (ds := [.list (list.map SLoader.row), .int .i64 loader, .str n]) (by simp)
    rw [q1]
    obtain ⟨d0, dd1, B0, BB1, e, L⟩ := P1.tup2
    subst e
    obtain ⟨v1, -⟩ := L.val' (d := dd1) (t := .bool (pathM list n loader).2) (B := BB1) (by simp) rfl
    subst v1
    have hr : RepT true H1 8 d0 (.list ((pathM list n loader).1.map rInt)) B0 := L.rep (d0, _, B0) (by simp)
    have hnd : B0.Nodup := by have := L.nd; rw [blks_cons] at this; exact (List.nodup_append.mp this).1
    simp only [Option.bind_some, extract_tup, List.getElem?_cons_zero, List.getElem?_cons_succ, unOp_not, asB_bool]
    cases (pathM list n loader).2 with
    | false => exact ⟨_, _, _, rfl, .sl0, List.nodup_nil⟩
    | true => exact ⟨_, _, _, rfl, hr, hnd⟩
theorem p9 (list : List SLoader) (w : LoadersWf list) (loader : Int) (n : List UInt8) (hn : n.length ≤ 140737488351232) : run E (exec E) false 9 [.list (list.map SLoader.row), .int .i64 loader, .str n] = some (.list ((pathOfM list loader n).map rInt)) := (c9 list w loader n hn).run (by decide) false
theorem pathGo_in {list : List SLoader} {n : List UInt8} : ∀ (k : Nat) (out : List Int) (x : Int), (∀ y ∈ out, 0 ≤ y ∧ y ≤ 9223372036854775807) → x ≤ 9223372036854775807 → (∀ l ∈ list, (nextM l n).1 ≤ 9223372036854775807) → (pathGo list n k out x).1.length ≤ out.length + k
  | 0, out, x, h, hx, hn => by simp [pathGo]
  | k + 1, out, x, h, hx, hn => by
    rw [pathGo]
    split
    · rename_i hc
      split
      · rename_i l hl
        split
        · simp
        · have := pathGo_in k (out ++ [x]) (nextM l n).1 (fun y hy => by rcases List.mem_append.mp hy with hy | hy; exact h y hy; simp at hy; omega) (hn l (List.mem_of_getElem? hl)) hn
          simp at this; omega
      · simp
    · simp
theorem pathOf_len {list : List SLoader} {loader : Int} {n : List UInt8} : (pathOfM list loader n).length ≤ 4 := by
  unfold pathOfM
  split
  · rename_i ha
    obtain ⟨hok, hl⟩ := asks_ok ha
    have h3 := loadersOk_len hok
    split
    · have := pathGo_in (list := list) (n := n) 4 [] loader (by simp) (by omega) (fun l hl => by have := next_rng (by omega) (loaderOk_get hok hl) n; omega)
      simpa [pathM] using this
    · simp
  · simp
theorem last_ia {l : List Int} {H : Heap} (hl : l.length ≤ 140737488351232) (hne : l ≠ []) : (ia 1 H (.list (l.map rInt)) (.int .i64 ((l.length : Int) - 1))).bind (fun v => ld false 1 H v) = some (.int .i64 (l.getLast?.getD (-1))) := by
  have hp : 0 < l.length := List.length_pos_iff.mpr hne
  rw [ia_list (n := (l.length : Int) - 1) (esz := 1) (by omega) (by simp; omega) (by simp [rInt])]
  simp only [Option.bind_some, ld_el, List.getElem_map, show ∀ x, part (rInt x) (0, 1, false) = some (.int .i64 x) from fun x => rfl]
  rw [List.getLast?_eq_getElem?, List.getElem?_eq_getElem (by omega)]
  simp only [Option.getD_some]
  congr 3
  omega
end Go.Ev.Ytmljkoieihaomaa
