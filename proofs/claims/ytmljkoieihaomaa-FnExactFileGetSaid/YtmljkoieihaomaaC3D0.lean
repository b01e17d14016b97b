/- Contracts. -/
import Derived.Test.YtmljkoieihaomaaC3C1
namespace Go.Ev.Ytmljkoieihaomaa
set_option linter.unusedVariables false
set_option linter.unusedSimpArgs false
open Go.Ev
/-! Pools. -/
theorem ld_loc {a : Bool} {z : Nat} (H : Heap) (row : List D) (K : Heap) (f : Nat) : ld a z (H ++ some [row] :: K) (.ptr H.length 0 f) = part row (f, z, a) := ld_ptr (getBlk_self H [row] K) rfl
theorem st_loc {z : Nat} (H : Heap) (row : List D) (K : Heap) (f : Nat) (v : D) (h1 : v.cells.length = z) (h2 : v.cells.all D.isCell = true) (h3 : f + z ≤ row.length) : st z (H ++ some [row] :: K) (.ptr H.length 0 f) v = some (H ++ some [row.take f ++ v.cells ++ row.drop (f + z)] :: K) := by
  rw [st_ptr (getBlk_self H [row] K) rfl h1 h2 h3, set_self]; rfl
def cAt (pool : List SConst) (i : Int) : SConst := if 1 ≤ i ∧ i ≤ pool.length then (pool[(i - 1).toNat]?).getD {} else {}
def nameAtM (pool : List SConst) (i : Int) (p : List UInt8 → Bool) : Bool := decide ((cAt pool i).Kind = 1) && p (cAt pool i).Text
def classAtM (pool : List SConst) (i : Int) : Bool := decide ((cAt pool i).Kind = 2) && nameAtM pool (cAt pool i).A nameOk
def isDescM (s : List UInt8) : Bool := (descOf s).isSome
def typedM (s : List UInt8) : Bool := typeOk s || isDescM s
def memberM (pool : List SConst) (x : SConst) (p : List UInt8 → Bool) : Bool := decide (x.Text = []) && (classAtM pool x.A && (decide ((cAt pool x.B).Kind = 3) && nameAtM pool (cAt pool x.B).B p))
def entryM (pool : List SConst) (x : SConst) : Bool :=
  if x.Kind = 1 then decide (x.A = 0) && (decide (x.B = 0) && (nameOk x.Text || typedM x.Text))
  else if x.Kind = 2 then decide (x.Text = []) && (decide (x.B = 0) && nameAtM pool x.A nameOk)
  else if x.Kind = 3 then decide (x.Text = []) && (nameAtM pool x.A nameOk && nameAtM pool x.B typedM)
  else if x.Kind = 4 then memberM pool x typeOk
  else if x.Kind = 5 ∨ x.Kind = 6 then memberM pool x isDescM
  else false
def poolGo (pool : List SConst) : Nat → List SConst → Int
  | _, [] => 0
  | i, x :: r => if i = 60 then 61 else if entryM pool x = true then poolGo pool (i + 1) r else i + 1
def poolCheck (pool : List SConst) : Int := poolGo pool 0 pool
abbrev PoolOk (pool : List SConst) : Prop := pool.length ≤ 140737488351232 ∧ ∀ x ∈ pool, x.wf
theorem SConst.wf0 : SConst.wf {} := by refine ⟨?_, ?_, ?_, ?_⟩ <;> simp [i64]
theorem cAt_wf {pool : List SConst} (w : PoolOk pool) (i : Int) : (cAt pool i).wf := by
  unfold cAt
  split
  · rename_i h
    rw [List.getElem?_eq_getElem (by omega)]
    exact w.2 _ (List.getElem_mem _)
  · exact SConst.wf0
theorem cAt_get {pool : List SConst} {i : Nat} (h : i < pool.length) : cAt pool ((i : Int) + 1) = pool[i] := by
  unfold cAt
  rw [if_pos (by omega), show ((i : Int) + 1 - 1).toNat = i by omega, List.getElem?_eq_getElem h]; rfl
theorem ia_pool {pool : List SConst} {H : Heap} {n : Int} (h0 : 0 ≤ n) (h1 : n.toNat < pool.length) : ia 4 H (.list (pool.map SConst.row)) (.int .i64 n) = some (.el (pool[n.toNat]).row 0) := by
  rw [ia_list h0 (by simpa using h1) (by simp)]; simp
theorem part_const (x : SConst) : part x.row (0, 4, true) = some x.d := rfl
theorem pool_call {g : FuncId} {pool : List SConst} {i : Int} {H : Heap} {t : D} (h : run E (exec E) false g [.list (pool.map SConst.row), .int .i64 i] = some t) : callFn E (exec E) .pure g [.list (pool.map SConst.row), .int .i64 i] H = some (t, H) := pure_call (by simp) h
theorem str_call {g : FuncId} {s : List UInt8} {H : Heap} {t : D} (h : run E (exec E) false g [.str s] = some t) : callFn E (exec E) .pure g [.str s] H = some (t, H) := pure_call (by simp) h
theorem put_const (H : Heap) (x : SConst) (row : List D) (hr : row.length = 4) : st 4 (H ++ [some [row]]) (.ptr H.length 0 0) x.d = some (H ++ [some [x.row]]) := by
  rw [st_loc (z := 4) H row [] 0 x.d rfl rfl (by omega)]
  simp [List.drop_of_length_le (show row.length ≤ 4 by omega)]; rfl
theorem ld_c0 (H K : Heap) (x : SConst) : ld false 1 (H ++ some [x.row] :: K) (.ptr H.length 0 (0 + 0)) = some (.int .i64 x.Kind) := ld_loc H _ K 0
theorem ld_c1 (H K : Heap) (x : SConst) : ld false 1 (H ++ some [x.row] :: K) (.ptr H.length 0 (0 + 1)) = some (.str x.Text) := ld_loc H _ K 1
theorem ld_c2 (H K : Heap) (x : SConst) : ld false 1 (H ++ some [x.row] :: K) (.ptr H.length 0 (0 + 2)) = some (.int .i64 x.A) := ld_loc H _ K 2
theorem ld_c3 (H K : Heap) (x : SConst) : ld false 1 (H ++ some [x.row] :: K) (.ptr H.length 0 (0 + 3)) = some (.int .i64 x.B) := ld_loc H _ K 3
def classM (pool : List SConst) (i : Int) : List UInt8 := if classAtM pool i = true then (cAt pool (cAt pool i).A).Text else []
def textM (pool : List SConst) (i : Int) : List UInt8 := if (cAt pool i).Kind = 1 then (cAt pool i).Text else []
theorem textM_len {pool : List SConst} (w : PoolOk pool) (i : Int) : (textM pool i).length ≤ 140737488351232 := by
  unfold textM
  split
  · exact (cAt_wf w i).2.1
  · simp
theorem nameAt_text {pool : List SConst} {i : Int} {p : List UInt8 → Bool} (hp : p [] = false) : nameAtM pool i p = p (textM pool i) := by
  unfold nameAtM textM
  by_cases h : (cAt pool i).Kind = 1 <;> simp [h, hp]
theorem nameOk_nil : nameOk [] = false := rfl
theorem typeOk_nil : typeOk [] = false := rfl
theorem isDescM_nil : isDescM [] = false := rfl
theorem typedM_nil : typedM [] = false := rfl
theorem classM_nil (pool : List SConst) (i : Int) : decide (classM pool i = []) = !classAtM pool i := by
  unfold classM
  cases h : classAtM pool i with
  | false => simp
  | true =>
    have : ¬ (cAt pool (cAt pool i).A).Text = [] := by
      intro e
      simp [classAtM, nameAtM, e, nameOk_nil] at h
    simp [this]
theorem poolGo_full (pool : List SConst) : ∀ (i : Nat) (l : List SConst), 60 < i → poolGo pool i l = poolGo pool i l := fun _ _ _ => rfl
end Go.Ev.Ytmljkoieihaomaa
