/- What the program is about, in plain words. -/
import Derived.Test.YtmljkoieihaomaaC0M1
namespace Go.Ev
set_option linter.unusedVariables false
set_option linter.unusedSimpArgs false
/-! A file: how its bytes are read and written. -/
def u8 (n : Int) : UInt8 := UInt8.ofNat (n % 256).toNat
theorem u8_self (b : UInt8) : u8 (b.toNat : Int) = b := by
  have h := b.toNat_lt
  apply UInt8.toNat_inj.mp
  simp only [u8, UInt8.toNat_ofNat', Nat.reducePow]
  omega
abbrev Get (α : Type) := List UInt8 → Option (α × List UInt8)
def gOne : Get Int
  | [] => none
  | b :: r => some ((b.toNat : Int), r)
def bindG {α β : Type} (g : Get α) (h : α → Get β) : Get β := fun s => (g s).bind fun q => h q.1 q.2
def pureG {α : Type} (a : α) : Get α := fun s => some (a, s)
def failG {α : Type} : Get α := fun _ => none
def gTwo : Get Int := bindG gOne fun a => bindG gOne fun b => pureG (256 * a + b)
def gText (n : Nat) : Get (List UInt8) := fun s => if n ≤ s.length then some (s.take n, s.drop n) else none
def gMany {α : Type} (f : Get α) : Nat → Get (List α)
  | 0 => pureG []
  | n + 1 => bindG f fun a => bindG (gMany f n) fun l => pureG (a :: l)
def gUp (most : Int) (g : Get Int) : Get Int := bindG g fun n => if most < n then failG else pureG n
def gList {α : Type} (most : Int) (f : Get α) : Get (List α) := bindG (gUp most gOne) fun n => gMany f n.toNat
def gKind : Get SKind := bindG (gUp 3 gOne) fun t => if t = 3 then bindG gTwo fun c => pureG ⟨t, c⟩ else pureG ⟨t, 0⟩
def gConst : Get SConst := bindG gOne fun k =>
  if k = 1 then bindG gOne fun n => bindG (gText n.toNat) fun t => pureG ⟨k, t, 0, 0⟩
  else if k = 2 then bindG gTwo fun a => pureG ⟨k, [], a, 0⟩
  else if 3 ≤ k ∧ k ≤ 6 then bindG gTwo fun a => bindG gTwo fun b => pureG ⟨k, [], a, b⟩
  else failG
def gTrap : Get STrap := bindG gTwo fun a => bindG gTwo fun b => bindG gTwo fun c => bindG gTwo fun d => pureG ⟨a, b, c, d⟩
def gFrame : Get SFrame := bindG gTwo fun a => bindG (gList 8 gKind) fun b => bindG (gList 8 gKind) fun c => pureG ⟨a, b, c⟩
def isAbs (flags : Int) : Bool := decide (flags % 16 / 8 = 1)
def gBody (f n d : Int) : Get SMethod := bindG gOne fun a => bindG gOne fun b => bindG (gUp 120 gTwo) fun c => bindG (gText c.toNat) fun t =>
  bindG (gList 3 gTrap) fun x => bindG (gList 8 gFrame) fun y => pureG ⟨f, n, d, a, b, t, x, y⟩
def gMethod : Get SMethod := bindG gOne fun f => bindG gTwo fun n => bindG gTwo fun d =>
  if isAbs f = true then pureG ⟨f, n, d, 0, 0, [], [], []⟩ else gBody f n d
def gField : Get SField := bindG gOne fun f => bindG gTwo fun n => bindG gTwo fun d => pureG ⟨f, n, d⟩
def stow : List UInt8 := [83, 84, 79, 87]
def gClass : Get SClass := bindG (gText 4) fun w => if w = stow then
  bindG (gList 60 gConst) fun p => bindG gOne fun f => bindG gTwo fun n => bindG gTwo fun u => bindG (gList 3 gTwo) fun a => bindG (gList 5 gField) fun i => bindG (gList 6 gMethod) fun m =>
    pureG ⟨p, f, n, u, a, i, m⟩ else failG
def fileGet (s : List UInt8) : Option SClass := if 900 < s.length then none else match gClass s with
  | some (c, []) => some c
  | _ => none
/-! Writing: two ways to write numbers, which are one where a file can hold them. -/
def pOne (n : Int) : List UInt8 := [u8 n]
abbrev Put (α : Type) := α → List UInt8
def pTwo (n : Int) : List UInt8 := [u8 (n / 256), u8 n]
def pTwo' (n : Int) : List UInt8 := [u8 (n.tdiv 256), u8 (n.tmod 256)]
section
variable (w : Int → List UInt8)
def pKind (k : SKind) : List UInt8 := if k.Tag = 3 then pOne k.Tag ++ w k.Class else pOne k.Tag
def pKinds (l : List SKind) : List UInt8 := pOne l.length ++ l.flatMap (pKind w)
def pConst (c : SConst) : List UInt8 := if c.Kind = 1 then pOne c.Kind ++ pOne c.Text.length ++ c.Text else if c.Kind = 2 then pOne c.Kind ++ w c.A else pOne c.Kind ++ w c.A ++ w c.B
def pTrap (t : STrap) : List UInt8 := w t.From ++ w t.To ++ w t.At ++ w t.Class
def pFrame (f : SFrame) : List UInt8 := w f.At ++ pKinds w f.Locals ++ pKinds w f.Stack
def pMethod (ab : Int → Bool) (m : SMethod) : List UInt8 :=
  let h := pOne m.Flags ++ w m.Name ++ w m.Desc
  if ab m.Flags = true then h else h ++ pOne m.Deep ++ pOne m.Locals ++ w m.Code.length ++ m.Code ++ pOne m.Traps.length ++ m.Traps.flatMap (pTrap w) ++ pOne m.Frames.length ++ m.Frames.flatMap (pFrame w)
def pField (f : SField) : List UInt8 := pOne f.Flags ++ w f.Name ++ w f.Typ
def pClass (ab : Int → Bool) (c : SClass) : List UInt8 := stow ++ pOne c.Pool.length ++ c.Pool.flatMap (pConst w) ++ pOne c.Flags ++ w c.Name ++ w c.Super ++ pOne c.Faces.length ++ c.Faces.flatMap w ++ pOne c.Fields.length ++ c.Fields.flatMap (pField w) ++ pOne c.Methods.length ++ c.Methods.flatMap (pMethod w ab)
end
/-- What is read is what was written. -/
def Back {α : Type} (g : Get α) (p : α → List UInt8) : Prop := ∀ s a r, g s = some (a, r) → s = p a ++ r
def Back2 (w : Int → List UInt8) (ab : Int → Bool) : Prop := Back gTwo w ∧ (∀ n : Nat, n ≤ 120 → w n = pTwo n) ∧ ∀ n : Int, 0 ≤ n → n ≤ 255 → ab n = isAbs n
def isAbs' (n : Int) : Bool := decide ((n.tmod 16).tdiv 8 = 1)
theorem isAbs_same {n : Int} (h : 0 ≤ n) : isAbs' n = isAbs n := by
  unfold isAbs isAbs'
  rw [Int.tmod_eq_emod_of_nonneg h, Int.tdiv_eq_ediv_of_nonneg (Int.emod_nonneg _ (by decide))]
theorem gOne_back : Back gOne pOne := by
  intro s a r h
  cases s with
  | nil => cases h
  | cons b t => cases h; simp [pOne, u8_self]
theorem gOne_rng {s : List UInt8} {a : Int} {r : List UInt8} (h : gOne s = some (a, r)) : 0 ≤ a ∧ a ≤ 255 ∧ s.length = r.length + 1 := by
  cases s with
  | nil => cases h
  | cons b t => cases h; have := b.toNat_lt; simp; omega
theorem gTwo_eq {s : List UInt8} {a : Int} {r : List UInt8} (h : gTwo s = some (a, r)) : ∃ x y : UInt8, s = x :: y :: r ∧ a = 256 * x.toNat + y.toNat := by
  unfold gTwo at h
  match s, h with
  | [], h => cases h
  | [x], h => cases h
  | x :: y :: t, h => cases h; exact ⟨x, y, rfl, rfl⟩
theorem gTwo_rng {s : List UInt8} {a : Int} {r : List UInt8} (h : gTwo s = some (a, r)) : 0 ≤ a ∧ a ≤ 65535 ∧ s.length = r.length + 2 := by
  obtain ⟨x, y, rfl, rfl⟩ := gTwo_eq h
  have := x.toNat_lt
  have := y.toNat_lt
  simp; omega
theorem two_eq (x y : UInt8) : pTwo (256 * x.toNat + y.toNat) = [x, y] := by
  have hx := x.toNat_lt
  have hy := y.toNat_lt
  have e1 : (256 * (x.toNat : Int) + y.toNat) / 256 = x.toNat := by omega
  have e2 : u8 (256 * (x.toNat : Int) + y.toNat) = u8 (y.toNat : Int) := by simp [u8]
  simp [pTwo, e1, e2, u8_self]
theorem pTwo_same {n : Int} (h : 0 ≤ n) : pTwo' n = pTwo n := by
  have e1 : n.tmod 256 = n % 256 := Int.tmod_eq_emod_of_nonneg h
  have e2 : n.tdiv 256 = n / 256 := Int.tdiv_eq_ediv_of_nonneg h
  simp [pTwo, pTwo', e1, e2, u8]
theorem back2_pTwo : Back2 pTwo isAbs := ⟨fun s a r h => by obtain ⟨x, y, rfl, rfl⟩ := gTwo_eq h; rw [two_eq]; rfl, fun _ _ => rfl, fun _ _ _ => rfl⟩
theorem back2_pTwo' : Back2 pTwo' isAbs' := ⟨fun s a r h => by
  obtain ⟨x, y, rfl, rfl⟩ := gTwo_eq h
  rw [pTwo_same (by omega), two_eq]; rfl, fun n _ => pTwo_same (by omega), fun n h _ => isAbs_same h⟩
theorem gText_eq {n : Nat} {s t r : List UInt8} (h : gText n s = some (t, r)) : s = t ++ r ∧ t.length = n := by
  unfold gText at h
  split at h
  · cases h; simp; omega
  · cases h
theorem gMany_back {α : Type} {f : Get α} {p : α → List UInt8} (hf : Back f p) : ∀ n s l r, gMany f n s = some (l, r) → s = l.flatMap p ++ r ∧ l.length = n
  | 0, s, l, r, h => by cases h; simp
  | n + 1, s, l, r, h => by
    simp only [gMany, bindG, pureG, failG, Option.bind_eq_some_iff] at h
    obtain ⟨⟨a, r1⟩, h1, ⟨l2, r2⟩, h2, h3⟩ := h
    cases h3
    obtain ⟨e1, e2⟩ := gMany_back hf n _ _ _ h2
    have := hf _ _ _ h1
    try simp only at e1
    exact ⟨by simp [this, e1], by simp [e2]⟩
theorem gUp_eq {most : Int} {g : Get Int} {s : List UInt8} {a : Int} {r : List UInt8} (h : gUp most g s = some (a, r)) : g s = some (a, r) ∧ a ≤ most := by
  simp only [gUp, bindG, pureG, failG, Option.bind_eq_some_iff] at h
  obtain ⟨⟨b, r1⟩, h1, h2⟩ := h
  split at h2
  · cases h2
  · cases h2; exact ⟨h1, by omega⟩
theorem gList_back {α : Type} {most : Int} {f : Get α} {p : α → List UInt8} (hf : Back f p) : Back (gList most f) (fun l => pOne l.length ++ l.flatMap p) := by
  intro s l r h
  simp only [gList, bindG, pureG, failG, Option.bind_eq_some_iff] at h
  obtain ⟨⟨n, r1⟩, h1, h2⟩ := h
  obtain ⟨h1, -⟩ := gUp_eq h1
  obtain ⟨e1, e2⟩ := gMany_back hf _ _ _ _ h2
  have h3 := gOne_back _ _ _ h1
  have h4 := gOne_rng h1
  try simp only at e1 e2
  show s = (pOne l.length ++ l.flatMap p) ++ r
  rw [h3, e1, show (l.length : Int) = n by omega]; simp
theorem gList_len {α : Type} {most : Int} {f : Get α} {p : α → List UInt8} (hf : Back f p) {s : List UInt8} {l : List α} {r : List UInt8} (h : gList most f s = some (l, r)) : (l.length : Int) ≤ most := by
  simp only [gList, bindG, pureG, failG, Option.bind_eq_some_iff] at h
  obtain ⟨⟨n, r1⟩, h1, h2⟩ := h
  obtain ⟨h1, h5⟩ := gUp_eq h1
  obtain ⟨e1, e2⟩ := gMany_back hf _ _ _ _ h2
  have h4 := gOne_rng h1
  try simp only at h5 e2
  omega
section
variable {w : Int → List UInt8} {ab : Int → Bool} (hw : Back2 w ab)
include hw
theorem gKind_back : Back gKind (pKind w) := by
  intro s a r h
  simp only [gKind, bindG, pureG, failG, Option.bind_eq_some_iff] at h
  obtain ⟨⟨n, r1⟩, h1, h2⟩ := h
  obtain ⟨h1, -⟩ := gUp_eq h1
  have h3 := gOne_back _ _ _ h1
  split at h2
  · rename_i h4
    obtain ⟨⟨c, r2⟩, h5, h6⟩ := Option.bind_eq_some_iff.mp h2
    cases h6
    have h7 := hw.1 _ _ _ h5
    try simp only at h4 h7
    simp [h3, h7, pKind, h4]
  · rename_i h4
    cases h2
    try simp only at h4
    simp [h3, pKind, h4]
theorem gConst_back : Back gConst (pConst w) := by
  intro s a r h
  simp only [gConst, bindG, pureG, failG, Option.bind_eq_some_iff] at h
  obtain ⟨⟨n, r1⟩, h1, h2⟩ := h
  have h3 := gOne_back _ _ _ h1
  try simp only at h2
  split at h2
  · rename_i h4
    simp only [bindG, pureG, failG, Option.bind_eq_some_iff] at h2
    obtain ⟨⟨c, r2⟩, h5, ⟨t, r3⟩, h6, h7⟩ := h2
    cases h7
    obtain ⟨e1, e2⟩ := gText_eq h6
    have h8 := gOne_back _ _ _ h5
    have h9 := gOne_rng h5
    try simp only at e1 e2 h8
    have : c = (t.length : Int) := by omega
    simp [h3, h8, e1, pConst, h4, this]
  · rename_i h4
    split at h2
    · rename_i h5
      obtain ⟨⟨c, r2⟩, h6, h7⟩ := Option.bind_eq_some_iff.mp h2
      cases h7
      have h8 := hw.1 _ _ _ h6
      try simp only at h8
      simp [h3, h8, pConst, h5]
    · rename_i h5
      split at h2
      · simp only [bindG, pureG, failG, Option.bind_eq_some_iff] at h2
        obtain ⟨⟨c, r2⟩, h6, ⟨d, r3⟩, h7, h8⟩ := h2
        cases h8
        have h9 := hw.1 _ _ _ h6
        have h10 := hw.1 _ _ _ h7
        try simp only at h9 h10
        simp [h3, h9, h10, pConst, h4, h5]
      · cases h2
theorem gTrap_back : Back gTrap (pTrap w) := by
  intro s a r h
  simp only [gTrap, bindG, pureG, failG, Option.bind_eq_some_iff] at h
  obtain ⟨⟨a1, r1⟩, h1, ⟨a2, r2⟩, h2, ⟨a3, r3⟩, h3, ⟨a4, r4⟩, h4, h5⟩ := h
  cases h5
  have e1 := hw.1 _ _ _ h1
  have e2 := hw.1 _ _ _ h2
  have e3 := hw.1 _ _ _ h3
  have e4 := hw.1 _ _ _ h4
  try simp only at e1 e2 e3 e4
  simp [e1, e2, e3, e4, pTrap]
theorem gFrame_back : Back gFrame (pFrame w) := by
  intro s a r h
  simp only [gFrame, bindG, pureG, failG, Option.bind_eq_some_iff] at h
  obtain ⟨⟨a1, r1⟩, h1, ⟨a2, r2⟩, h2, ⟨a3, r3⟩, h3, h5⟩ := h
  cases h5
  have e1 := hw.1 _ _ _ h1
  have e2 := gList_back (gKind_back hw) _ _ _ h2
  have e3 := gList_back (gKind_back hw) _ _ _ h3
  try simp only at e1 e2 e3
  simp [e1, e2, e3, pFrame, pKinds]
theorem gField_back : Back gField (pField w) := by
  intro s a r h
  simp only [gField, bindG, pureG, failG, Option.bind_eq_some_iff] at h
  obtain ⟨⟨a1, r1⟩, h1, ⟨a2, r2⟩, h2, ⟨a3, r3⟩, h3, h5⟩ := h
  cases h5
  have e1 := gOne_back _ _ _ h1
  have e2 := hw.1 _ _ _ h2
  have e3 := hw.1 _ _ _ h3
  try simp only at e1 e2 e3
  simp [e1, e2, e3, pField]
theorem gMethod_back : Back gMethod (pMethod w ab) := by
  intro s a r h
  simp only [gMethod, bindG, pureG, failG, Option.bind_eq_some_iff] at h
  obtain ⟨⟨a1, r1⟩, h1, ⟨a2, r2⟩, h2, ⟨a3, r3⟩, h3, h5⟩ := h
  have e1 := gOne_back _ _ _ h1
  have e2 := hw.1 _ _ _ h2
  have e3 := hw.1 _ _ _ h3
  try simp only at e1 e2 e3 h5
  have hr := gOne_rng h1
  have hab := hw.2.2 a1 hr.1 hr.2.1
  split at h5
  · rename_i ha
    cases h5
    simp [e1, e2, e3, pMethod, hab, ha]
  · rename_i ha
    simp only [gBody, bindG, pureG, failG, Option.bind_eq_some_iff] at h5
    obtain ⟨⟨b1, s1⟩, k1, ⟨b2, s2⟩, k2, ⟨b3, s3⟩, k3, ⟨b4, s4⟩, k4, ⟨b5, s5⟩, k5, ⟨b6, s6⟩, k6, k7⟩ := h5
    cases k7
    obtain ⟨k3, m3⟩ := gUp_eq k3
    have n3 := gTwo_rng k3
    have f1 := gOne_back _ _ _ k1
    have f2 := gOne_back _ _ _ k2
    have f3 := hw.1 _ _ _ k3
    obtain ⟨f4, f5⟩ := gText_eq k4
    have f6 := gList_back (gTrap_back hw) _ _ _ k5
    have f7 := gList_back (gFrame_back hw) _ _ _ k6
    try simp only at f1 f2 f3 f4 f5 f6 f7
    have : b3 = (b4.length : Int) := by omega
    simp [e1, e2, e3, f1, f2, f3, f4, f6, f7, pMethod, hab, ha, this]
theorem gClass_back : Back gClass (pClass w ab) := by
  intro s a r h
  simp only [gClass, bindG, pureG, failG, Option.bind_eq_some_iff] at h
  obtain ⟨⟨t, r0⟩, h0, h1⟩ := h
  obtain ⟨e0, -⟩ := gText_eq h0
  split at h1
  · rename_i ht
    simp only [bindG, pureG, Option.bind_eq_some_iff] at h1
    obtain ⟨⟨b1, s1⟩, k1, ⟨b2, s2⟩, k2, ⟨b3, s3⟩, k3, ⟨b4, s4⟩, k4, ⟨b5, s5⟩, k5, ⟨b6, s6⟩, k6, ⟨b7, s7⟩, k7, k8⟩ := h1
    cases k8
    have f1 := gList_back (gConst_back hw) _ _ _ k1
    have f2 := gOne_back _ _ _ k2
    have f3 := hw.1 _ _ _ k3
    have f4 := hw.1 _ _ _ k4
    have f5 := gList_back hw.1 _ _ _ k5
    have f6 := gList_back (gField_back hw) _ _ _ k6
    have f7 := gList_back (gMethod_back hw) _ _ _ k7
    try simp only at ht f1 f2 f3 f4 f5 f6 f7
    simp [e0, ht, f1, f2, f3, f4, f5, f6, f7, pClass]
  · cases h1
theorem fileGet_back {s : List UInt8} {c : SClass} (h : fileGet s = some c) : pClass w ab c = s := by
  unfold fileGet at h
  split at h
  · cases h
  · split at h
    · rename_i d hd
      cases h
      have := gClass_back hw _ _ _ hd
      simpa using this.symm
    · cases h
end
def filePut (c : SClass) : List UInt8 := if fileGet (pClass pTwo isAbs c) = some c then pClass pTwo isAbs c else []
theorem filePut_of {w : Int → List UInt8} {ab : Int → Bool} (hw : Back2 w ab) (c : SClass) : (if fileGet (pClass w ab c) = some c then pClass w ab c else []) = filePut c := by
  unfold filePut
  by_cases h : fileGet (pClass w ab c) = some c
  · have := fileGet_back back2_pTwo h
    rw [if_pos h, this, if_pos h]
  · rw [if_neg h]
    by_cases h2 : fileGet (pClass pTwo isAbs c) = some c
    · have := fileGet_back hw h2
      rw [this] at h
      exact absurd h2 h
    · rw [if_neg h2]

end Go.Ev
