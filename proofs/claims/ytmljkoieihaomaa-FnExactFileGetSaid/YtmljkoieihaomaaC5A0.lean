/- Contracts. -/
import Derived.Test.YtmljkoieihaomaaC4C8
namespace Go.Ev.Ytmljkoieihaomaa
set_option linter.unusedVariables false
set_option linter.unusedSimpArgs false
open Go.Ev
/-! What is wrong with a class: in plain words. -/
/-- The text of a name, or the name of a class. -/
def nmM (p : List SConst) (i : Int) : List UInt8 := if (cAt p i).Kind = 2 then (cAt p (cAt p i).A).Text else (cAt p i).Text
def bit (n : Int) (i : Nat) : Bool := decide (n / (2 ^ i : Nat) % 2 = 1)
def facesGo (p : List SConst) : List Int → List Int → Bool
  | _, [] => true
  | pre, f :: l => classAtM p f && (!pre.any (fun g => decide (classM p g = classM p f)) && facesGo p (pre ++ [f]) l)
def objS : List UInt8 := [79, 98, 106]
def beginS : List UInt8 := [98, 101, 103, 105, 110]
def voidS : List UInt8 := [40, 41, 86]
def flagsM (c : SClass) : Bool := inR c.Flags 0 7 && (!(bit c.Flags 1 && bit c.Flags 2) && (!bit c.Flags 0 || (bit c.Flags 2 && decide (classM c.Pool c.Super = objS))))
def headM (c : SClass) : Bool :=
  classAtM c.Pool c.Name && (classAtM c.Pool c.Super && (!decide (classM c.Pool c.Super = classM c.Pool c.Name) && (facesGo c.Pool [] c.Faces && flagsM c)))
def fieldM (c : SClass) (f : SField) : Bool :=
  nameOk (textM c.Pool f.Name) && (typeOk (textM c.Pool f.Typ) && (inR f.Flags 0 3 && !(bit c.Flags 0 && !decide (f.Flags = 1))))
def fieldsGo (c : SClass) : List SField → List SField → Bool
  | _, [] => true
  | pre, f :: l => fieldM c f && (!pre.any (fun g => decide (textM c.Pool g.Name = textM c.Pool f.Name)) && fieldsGo c (pre ++ [f]) l)
def mflagsM (c : SClass) (m : SMethod) : Bool :=
  inR m.Flags 0 15 && (!(decide (textM c.Pool m.Name = beginS) && !(decide (m.Flags = 1) && decide (textM c.Pool m.Desc = voidS))) &&
    (if bit m.Flags 3 = true then decide (m.Flags = 8) && bit c.Flags 2 else !bit c.Flags 0 || decide (m.Flags = 1)))
def methodM (c : SClass) (m : SMethod) : Bool :=
  nameOk (textM c.Pool m.Name) && (isDescM (textM c.Pool m.Desc) && mflagsM c m)
def methodsGo (c : SClass) : List SMethod → List SMethod → Bool
  | _, [] => true
  | pre, m :: l => methodM c m && (!pre.any (fun n => decide (textM c.Pool n.Name = textM c.Pool m.Name) && decide (textM c.Pool n.Desc = textM c.Pool m.Desc)) && methodsGo c (pre ++ [m]) l)
def opIdx (ops : List SIns) (at_ : Int) : Int := idxM (fun x : SIns => decide (x.At = at_)) ops
def opHas (ops : List SIns) (at_ : Int) : Bool := ops.any fun x => decide (x.At = at_)
def wantsM (op : Int) : Int := if op = 19 ∨ op = 28 ∨ op = 29 then 2 else if inR op 20 23 then 4 else if inR op 24 26 then 5 else if op = 27 then 6 else 0
def insM (c : SClass) (m : SMethod) (ops : List SIns) (x : SIns) : Bool :=
  !(inR x.Op 3 6 && decide (m.Locals ≤ x.Num)) && (!(inR x.Op 14 18 && !opHas ops x.Num) && (decide (wantsM x.Op = 0) || decide ((cAt c.Pool x.Num).Kind = wantsM x.Op)))
def trapM (c : SClass) (m : SMethod) (ops : List SIns) (t : STrap) : Bool :=
  decide (t.From < t.To) && (opHas ops t.From && (opHas ops t.At && ((opHas ops t.To || decide (t.To = m.Code.length)) && (decide (t.Class = 0) || classAtM c.Pool t.Class))))
def kindM (c : SClass) (k : SKind) : Bool := if k.Tag = 3 then classAtM c.Pool k.Class else decide (k.Class = 0)
def framesGo (c : SClass) (m : SMethod) (ops : List SIns) : Int → List SFrame → Bool
  | _, [] => true
  | b, f :: l => opHas ops f.At && (decide (b < f.At) && (decide ((f.Locals.length : Int) = m.Locals) && (decide ((f.Stack.length : Int) ≤ m.Deep) && (f.Locals.all (kindM c) && (f.Stack.all (kindM c) && framesGo c m ops f.At l)))))
def needM (c : SClass) (m : SMethod) : Int := (dTakes (textM c.Pool m.Desc)).length + (if bit m.Flags 0 = true then 0 else 1)
def codeM (c : SClass) (m : SMethod) : Bool := match opsGet m.Code with
  | none => false
  | some ops => decide (m.Deep ≤ 8) && (inR m.Locals (needM c m) 8 && (ops.all (insM c m ops) && (m.Traps.all (trapM c m ops) && framesGo c m ops (-1) m.Frames)))
def bodyM (c : SClass) (m : SMethod) : Bool := bit m.Flags 3 || codeM c m
/-- What is wrong with a class that a file can say. -/
def checkM (c : SClass) : Int :=
  if poolCheck c.Pool ≠ 0 then 2 else if headM c = false then 3 else if fieldsGo c [] c.Fields = false then 4 else if methodsGo c [] c.Methods = false then 5 else if c.Methods.all (bodyM c) = false then 6 else 0
def classCheck (c : SClass) : Int := if filePut c = [] then 1 else checkM c
/-! What a file can say. -/
def kindR (k : SKind) : Prop := 0 ≤ k.Tag ∧ k.Tag ≤ 3
structure FileR (c : SClass) : Prop where
  wf : c.wf
  small : smallC c
  flags : 0 ≤ c.Flags ∧ c.Flags ≤ 255
  fields : ∀ f ∈ c.Fields, 0 ≤ f.Flags ∧ f.Flags ≤ 255
  methods : ∀ m ∈ c.Methods, (0 ≤ m.Flags ∧ m.Flags ≤ 255) ∧ ∀ f ∈ m.Frames, (∀ k ∈ f.Locals, kindR k) ∧ ∀ k ∈ f.Stack, kindR k
theorem gKind_rng (s : List UInt8) (a : SKind) (r : List UInt8) (h : gKind s = some (a, r)) : kindR a := by
  simp only [gKind, bindG, pureG, Option.bind_eq_some_iff] at h
  obtain ⟨⟨n, r1⟩, h1, h2⟩ := h
  obtain ⟨h1, h3⟩ := gUp_eq h1
  have h4 := gOne_rng h1
  simp only at h2
  split at h2
  · simp only [bindG, pureG, Option.bind_eq_some_iff] at h2
    obtain ⟨⟨b, r2⟩, -, h5⟩ := h2
    cases h5
    exact ⟨by simp only; omega, by simp only; omega⟩
  · cases h2
    exact ⟨by simp only; omega, by simp only; omega⟩
theorem gFrame_rng (s : List UInt8) (a : SFrame) (r : List UInt8) (h : gFrame s = some (a, r)) : (∀ k ∈ a.Locals, kindR k) ∧ ∀ k ∈ a.Stack, kindR k := by
  simp only [gFrame, bindG, pureG, Option.bind_eq_some_iff] at h
  obtain ⟨⟨a1, r1⟩, h1, ⟨a2, r2⟩, h2, ⟨a3, r3⟩, h3, h5⟩ := h
  cases h5
  exact ⟨(gList_all gKind_rng h2).2, (gList_all gKind_rng h3).2⟩
theorem gField_rng (s : List UInt8) (a : SField) (r : List UInt8) (h : gField s = some (a, r)) : 0 ≤ a.Flags ∧ a.Flags ≤ 255 := by
  simp only [gField, bindG, pureG, Option.bind_eq_some_iff] at h
  obtain ⟨⟨a1, r1⟩, h1, ⟨a2, r2⟩, h2, ⟨a3, r3⟩, h3, h5⟩ := h
  cases h5
  have := gOne_rng h1
  exact ⟨by simp only; omega, by simp only; omega⟩
theorem gMethod_rng (s : List UInt8) (a : SMethod) (r : List UInt8) (h : gMethod s = some (a, r)) : (0 ≤ a.Flags ∧ a.Flags ≤ 255) ∧ ∀ f ∈ a.Frames, (∀ k ∈ f.Locals, kindR k) ∧ ∀ k ∈ f.Stack, kindR k := by
  simp only [gMethod, bindG, pureG, Option.bind_eq_some_iff] at h
  obtain ⟨⟨a1, r1⟩, h1, ⟨a2, r2⟩, h2, ⟨a3, r3⟩, h3, h5⟩ := h
  have hr := gOne_rng h1
  simp only at h5
  split at h5
  · cases h5
    exact ⟨⟨by simp only; omega, by simp only; omega⟩, by simp⟩
  · simp only [gBody, bindG, pureG, Option.bind_eq_some_iff] at h5
    obtain ⟨⟨b1, s1⟩, k1, ⟨b2, s2⟩, k2, ⟨b3, s3⟩, k3, ⟨b4, s4⟩, k4, ⟨b5, s5⟩, k5, ⟨b6, s6⟩, k6, k7⟩ := h5
    cases k7
    exact ⟨⟨by simp only; omega, by simp only; omega⟩, (gList_all gFrame_rng k6).2⟩
theorem fileR {s : List UInt8} {c : SClass} (h : fileGet s = some c) : FileR c := by
  have hw := fileGet_wf h
  unfold fileGet at h
  split at h
  · cases h
  · split at h
    · rename_i d hd
      cases h
      simp only [gClass, bindG, pureG, failG, Option.bind_eq_some_iff] at hd
      obtain ⟨⟨t, r0⟩, h0, h1⟩ := hd
      simp only at h1
      split at h1
      · simp only [bindG, pureG, failG, Option.bind_eq_some_iff] at h1
        obtain ⟨⟨b1, s1⟩, k1, ⟨b2, s2⟩, k2, ⟨b3, s3⟩, k3, ⟨b4, s4⟩, k4, ⟨b5, s5⟩, k5, ⟨b6, s6⟩, k6, ⟨b7, s7⟩, k7, k8⟩ := h1
        cases k8
        have hr := gOne_rng k2
        exact ⟨hw.1, hw.2, ⟨by simp only; omega, by simp only; omega⟩, (gList_all gField_rng k6).2, (gList_all gMethod_rng k7).2⟩
      · cases h1
    · cases h
theorem filePut_fileR {c : SClass} (h : filePut c ≠ []) : FileR c := by
  unfold filePut at h
  split at h
  · rename_i e; exact fileR e
  · exact absurd rfl h
/-! A pool with which nothing is wrong. -/
theorem poolGo_fine {pool : List SConst} : ∀ {l : List SConst} {i : Nat}, poolGo pool i l = 0 → ∀ x ∈ l, entryM pool x = true
  | [], i, _, x, hx => by cases hx
  | y :: l, i, h, x, hx => by
    unfold poolGo at h
    split at h
    · omega
    · split at h
      · rename_i h1 h2
        rcases List.mem_cons.mp hx with rfl | hx
        · exact h2
        · exact poolGo_fine h x hx
      · omega
structure Fine (p : List SConst) : Prop where
  ok : PoolOk p
  fine : ∀ x ∈ p, entryM p x = true
theorem cAt_mem (p : List SConst) (i : Int) : cAt p i ∈ p ∨ cAt p i = {} := by
  unfold cAt
  split
  · rename_i h
    have hl : (i - 1).toNat < p.length := by omega
    rw [List.getElem?_eq_getElem hl]
    exact .inl (List.getElem_mem hl)
  · exact .inr rfl
theorem Fine.class {p : List SConst} (h : Fine p) {i : Int} (hk : (cAt p i).Kind = 2) : classAtM p i = true := by
  rcases cAt_mem p i with hm | he
  · have := h.fine _ hm
    simp only [entryM, hk, show ¬ (2 : Int) = 1 by decide, if_false, if_true, Bool.and_eq_true] at this
    simp [classAtM, hk, this.2.2]
  · rw [he] at hk; cases hk
theorem classAt_kind {p : List SConst} {i : Int} (h : classAtM p i = true) : (cAt p i).Kind = 2 := by
  simp only [classAtM, Bool.and_eq_true, decide_eq_true_eq] at h; exact h.1
theorem Fine.isClass {p : List SConst} (h : Fine p) (i : Int) : decide ((cAt p i).Kind = 2) = classAtM p i := by
  by_cases hk : (cAt p i).Kind = 2
  · rw [h.class hk]; simp [hk]
  · cases hc : classAtM p i with
    | false => simp [hk]
    | true => exact absurd (classAt_kind hc) hk
theorem nm_class {p : List SConst} {i : Int} (h : classAtM p i = true) : nmM p i = classM p i := by
  simp [nmM, classM, h, classAt_kind h]
theorem nm_name {p : List SConst} {i : Int} (h : (cAt p i).Kind = 1) : nmM p i = textM p i := by
  simp [nmM, textM, h]
theorem name_kind {p : List SConst} {i : Int} {q : List UInt8 → Bool} (hq : q [] = false) (h : q (textM p i) = true) : (cAt p i).Kind = 1 := by
  unfold textM at h
  split at h
  · assumption
  · rw [hq] at h; cases h
theorem nm_text {p : List SConst} {i : Int} {q : List UInt8 → Bool} (hq : q [] = false) (h : q (textM p i) = true) : nmM p i = textM p i := nm_name (name_kind hq h)
theorem nmM_len {p : List SConst} (w : PoolOk p) (i : Int) : (nmM p i).length ≤ 140737488351232 := by
  unfold nmM; split
  · exact (cAt_wf w _).2.1
  · exact (cAt_wf w _).2.1
theorem bit_abs {n : Int} : bit n 3 = isAbs n := by
  unfold bit isAbs
  simp only [show ((2 ^ 3 : Nat) : Int) = 8 from rfl]
  congr 1
  simp only [eq_iff_iff]
  omega
theorem idxFrom_has {α : Type} (p : α → Bool) : ∀ (l : List α) (i : Nat), decide (idxFrom p i l < 0) = !l.any p
  | [], i => by simp [idxFrom]
  | x :: l, i => by
    unfold idxFrom
    cases h : p x with
    | true => simp [h]
    | false => simp [h, idxFrom_has p l (i + 1)]
theorem opIdx_has (ops : List SIns) (at_ : Int) : decide (opIdx ops at_ < 0) = !opHas ops at_ := idxFrom_has _ ops 0

end Go.Ev.Ytmljkoieihaomaa
