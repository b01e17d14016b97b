/- Contracts. -/
import Derived.Test.YtmljkoieihaomaaC3C0
namespace Go.Ev.Ytmljkoieihaomaa
set_option linter.unusedVariables false
set_option linter.unusedSimpArgs false
open Go.Ev
/-! Drawn names, types and the types of methods; two laws. -/
theorem bsl_lit {esz : Nat} {zero : List D} {H : Heap} {len : Nat} {ps : List (Nat × D)} {rows : Rows} (h : fillR esz (List.replicate len zero) ps = some rows) (h1 : len * esz ≤ 65536) (hz : zero.all D.isCell = true) (hl : len ≠ 0) :
    bsl esz zero H len ps = some (.sl H.length 0 len, H ++ [some rows]) := by
  simp [bsl, h1, hz, h, hl]
theorem repR_eq {o : Bool} {H : Heap} {n : Nat} : ∀ {ds ts : List D} {B : List Nat}, RepR o H n ds ts B → ts.all D.scalar = true → ds = ts
  | _, _, _, .nil, _ => rfl
  | _, _, _, .cons h hs, ht => by
    simp only [List.all_cons, Bool.and_eq_true] at ht
    rw [(h.val ht.1).1, repR_eq hs ht.2]
theorem repRR_eq {o : Bool} {H : Heap} {n : Nat} : ∀ {ds ts : Rows} {B : List Nat}, RepRR o H n ds ts B → scalarRows ts → ds = ts
  | _, _, _, .nil, _ => rfl
  | _, _, _, .cons h hs, ht => by rw [repR_eq h (ht _ (by simp)), repRR_eq hs fun r hr => ht r (by simp [hr])]
/-- A slice of plain rows that is one's own: how it is read. -/
theorem repT_flat {H : Heap} {n : Nat} {d : D} {rows : Rows} {B : List Nat} (h : RepT true H n d (.list rows) B) (hs : scalarRows rows) :
    lnL d = some (.int .i64 rows.length) ∧ ∀ (esz i : Nat) (row : List D), rows[i]? = some row → row.length = esz → ∃ v, ia esz H d (.int .i64 i) = some v ∧ ∀ a z, ld a z H v = part row (0, z, a) := by
  cases h with
  | sc h => cases h
  | sl0 => exact ⟨rfl, fun esz i row hr => by cases hr⟩
  | fz h => cases h
  | sl hb h =>
    have := repRR_eq h hs
    subst this
    refine ⟨rfl, fun esz i row hr he => ⟨_, ia_sl (i := (i : Int)) (row := row) hb (by omega) (by have := (List.getElem?_eq_some_iff.mp hr).1; omega) (by simpa using hr) he, fun a z => ld_ptr hb (by simpa using hr)⟩⟩
def drawName : List (List UInt8) := [[], [97], [65, 98, 99], [97, 49], [49, 97], [97, 98, 99, 100, 101, 102, 103, 104], [97, 98, 99, 100, 101, 102, 103, 104, 105], [97, 95, 98], [73], [195, 169]]
def drawType : List (List UInt8) := [[], [73], [73, 73], [76, 65, 59], [76, 65], [76, 59], [76, 49, 59], [76, 65, 59, 73], [86], [76, 97, 98, 99, 100, 101, 102, 103, 104, 59], [76, 97, 98, 99, 100, 101, 102, 103, 104, 105, 59]]
theorem rd_open (H : Heap) (bytes : List UInt8) : Rd (H ++ [some [[.list (bytes.map rByte), .int .i64 0]]]) H.length bytes 0 := getBlk_self H _ []
theorem typeOk_L (s : List UInt8) : typeOk (76 :: (s ++ [59])) = nameOk s := by
  simp [typeOk, clsName]
  cases nameOk s <;> rfl
theorem takeType_ok {t : List UInt8} (h : typeOk t = true) : takeType t = some (t, []) := by
  have h1 := takeType_full t
  rw [h] at h1
  have h1 := of_decide_eq_true h1
  cases hk : takeType t with
  | none => rw [hk] at h1; simp only [endOf] at h1; omega
  | some q =>
    obtain ⟨a, r⟩ := q
    rw [hk] at h1
    obtain ⟨e1, -⟩ := takeType_eq hk
    have := congrArg List.length e1
    simp only [endOf, List.length_append] at h1 this
    have : r = [] := List.eq_nil_of_length_eq_zero (by omega)
    subst this
    simp at e1
    rw [e1]
theorem descOf_self {t : List UInt8} (h : (41 : UInt8) ∉ t) : descOf (40 :: (t ++ 41 :: t)) = if typeOk t = true then some ([t], t) else none := by
  simp only [descOf, if_true, descGo_app t 0 t h]
  by_cases ht : typeOk t = true
  · have hk := takeType_ok ht
    have : takeAll 0 t = some [t] := by
      cases t with
      | nil => cases ht
      | cons c r => rw [takeAll, hk]; simp [takeAll]
    rw [this]
    simp [descOk, ht]
  · rw [if_neg ht]
    cases ha : takeAll 0 t with
    | none => rfl
    | some q =>
      have hd : descOk (q, t) = false := by
        cases t with
        | nil => simp [descOk, ht]
        | cons c r =>
          have : ¬ c :: r = [86] := by
            intro e
            rw [e, takeAll] at ha
            simp [takeType] at ha
          simp only [descOk, this, decide_false, Bool.false_or]
          simpa using ht
      simp [hd]
end Go.Ev.Ytmljkoieihaomaa
