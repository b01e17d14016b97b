/- What the program is about, in plain words. -/
import Derived.Test.YtmljkoieihaomaaYa
import Derived.Test.YtmljkoieihaomaaQ0
namespace Go.Ev
set_option linter.unusedVariables false
set_option linter.unusedSimpArgs false
def szR (s : Nat) (left : Int) : Int := if (s : Int) ≤ left then left - s else -1
theorem szR_pos {s : Nat} {left : Int} (h : (s : Int) ≤ left) : szR s left = left - s := if_pos h
theorem szR_neg {s : Nat} {left : Int} (h : ¬ (s : Int) ≤ left) : szR s left = -1 := if_neg h
def szL {α : Type} (f : α → Nat) (l : List α) : Nat := l.length + (l.map f).sum
theorem szL_len {α : Type} {f : α → Nat} {l : List α} {n : Nat} (h : szL f l ≤ n) : l.length ≤ n := by unfold szL at h; omega
theorem szL_get {α : Type} {f : α → Nat} {l : List α} {n i : Nat} (h : szL f l ≤ n) (hi : i < l.length) : f l[i] ≤ n := by
  have : ∀ {l : List Nat} {i : Nat} (hi : i < l.length), l[i] ≤ l.sum := by
    intro l
    induction l with
    | nil => intro i hi; simp at hi
    | cons a l ih =>
      intro i hi
      cases i with
      | zero => simp
      | succ i => have := ih (i := i) (by simpa using hi); simp; omega
  have := this (l := l.map f) (i := i) (by simpa using hi)
  simp only [List.getElem_map] at this
  unfold szL at h; omega
theorem szL_zero {α : Type} (l : List α) : szL (fun _ => 0) l = l.length := by
  have : (l.map (fun _ => 0)).sum = 0 := by
    induction l with
    | nil => rfl
    | cons a l ih => simpa using ih
  simp only [szL, this, Nat.add_zero]
def SPair.sz (x : SPair) : Nat := x.Name.length
def SMark.sz (x : SMark) : Nat := x.Name.length
def SKnow.sz (x : SKnow) : Nat := szL SMark.sz x.Locals + szL SMark.sz x.Stack
def SConst.sz (x : SConst) : Nat := x.Text.length
def SFrame.sz (x : SFrame) : Nat := szL (fun _ => 0) x.Locals + szL (fun _ => 0) x.Stack
def SMethod.sz (x : SMethod) : Nat := x.Code.length + szL (fun _ => 0) x.Traps + szL SFrame.sz x.Frames
def SClass.sz (x : SClass) : Nat := szL SConst.sz x.Pool + szL (fun _ => 0) x.Faces + szL (fun _ => 0) x.Fields + szL SMethod.sz x.Methods
def SLine.sz (x : SLine) : Nat := x.Class.length + x.Method.length
def SFile.sz (x : SFile) : Nat := x.Name.length + x.Text.length
def SWay.sz (x : SWay) : Nat := x.Name.length
def SLoader.sz (x : SLoader) : Nat := szL SFile.sz x.Files + szL SWay.sz x.Ways
def SKnown.sz (x : SKnown) : Nat := x.Name.length
def SBond.sz (x : SBond) : Nat := x.Name.length + szL (fun _ => 0) x.Loaders
def SRow.sz (x : SRow) : Nat := x.Name.length + x.Desc.length
def SCls.sz (x : SCls) : Nat := x.Name.length + szL SConst.sz x.File.Pool + szL (fun _ => 0) x.File.Faces + szL (fun _ => 0) x.File.Fields + szL SMethod.sz x.File.Methods + szL (fun _ => 0) x.Faces + szL (fun _ => 0) x.Slots + szL SRow.sz x.Rows + szL (fun _ => 0) x.Statics
def SWorld.sz (x : SWorld) : Nat := szL SLoader.sz x.Loaders + szL SCls.sz x.Classes + szL SKnown.sz x.Known + szL SBond.sz x.Bonds
def SFault.sz (x : SFault) : Nat := x.Name.length
def SObj.sz (x : SObj) : Nat := szL (fun _ => 0) x.Fields
def SAct.sz (x : SAct) : Nat := szL (fun _ => 0) x.Locals + szL (fun _ => 0) x.Stack
def SRun.sz (x : SRun) : Nat := szL SLoader.sz x.World.Loaders + szL SCls.sz x.World.Classes + szL SKnown.sz x.World.Known + szL SBond.sz x.World.Bonds + szL SObj.sz x.Heap_ + szL SAct.sz x.Acts + szL (fun _ => 0) x.Out + x.Name.length + x.Fault.Name.length
def SPick.sz (x : SPick) : Nat := x.Name.length
def SStart.sz (x : SStart) : Nat := szL SLoader.sz x.Loaders + x.Name.length + szL SPick.sz x.Picks
def SAnswer.sz (x : SAnswer) : Nat := x.Name.length + x.Fault.Name.length + szL (fun _ => 0) x.Out
def SKnow.fit (x : SKnow) : Prop := x.Locals.length ≤ 140737488351232 ∧ x.Stack.length ≤ 140737488351232
def SFrame.fit (x : SFrame) : Prop := x.Locals.length ≤ 140737488351232 ∧ x.Stack.length ≤ 140737488351232
def SMethod.fit (x : SMethod) : Prop := x.Traps.length ≤ 140737488351232 ∧ x.Frames.length ≤ 140737488351232 ∧ (∀ z ∈ x.Frames, z.fit)
def SClass.fit (x : SClass) : Prop := x.Pool.length ≤ 140737488351232 ∧ x.Faces.length ≤ 140737488351232 ∧ x.Fields.length ≤ 140737488351232 ∧ x.Methods.length ≤ 140737488351232 ∧ (∀ z ∈ x.Methods, z.fit)
def SLoader.fit (x : SLoader) : Prop := x.Files.length ≤ 140737488351232 ∧ x.Ways.length ≤ 140737488351232
def SBond.fit (x : SBond) : Prop := x.Loaders.length ≤ 140737488351232
def SCls.fit (x : SCls) : Prop := x.File.Pool.length ≤ 140737488351232 ∧ x.File.Faces.length ≤ 140737488351232 ∧ x.File.Fields.length ≤ 140737488351232 ∧ x.File.Methods.length ≤ 140737488351232 ∧ (∀ z ∈ x.File.Methods, z.fit) ∧ x.Faces.length ≤ 140737488351232 ∧ x.Slots.length ≤ 140737488351232 ∧ x.Rows.length ≤ 140737488351232 ∧ x.Statics.length ≤ 140737488351232
def SWorld.fit (x : SWorld) : Prop := x.Loaders.length ≤ 140737488351232 ∧ (∀ z ∈ x.Loaders, z.fit) ∧ x.Classes.length ≤ 140737488351232 ∧ (∀ z ∈ x.Classes, z.fit) ∧ x.Known.length ≤ 140737488351232 ∧ x.Bonds.length ≤ 140737488351232 ∧ (∀ z ∈ x.Bonds, z.fit)
def SObj.fit (x : SObj) : Prop := x.Fields.length ≤ 140737488351232
def SAct.fit (x : SAct) : Prop := x.Locals.length ≤ 140737488351232 ∧ x.Stack.length ≤ 140737488351232
def SRun.fit (x : SRun) : Prop := x.World.Loaders.length ≤ 140737488351232 ∧ (∀ z ∈ x.World.Loaders, z.fit) ∧ x.World.Classes.length ≤ 140737488351232 ∧ (∀ z ∈ x.World.Classes, z.fit) ∧ x.World.Known.length ≤ 140737488351232 ∧ x.World.Bonds.length ≤ 140737488351232 ∧ (∀ z ∈ x.World.Bonds, z.fit) ∧ x.Heap_.length ≤ 140737488351232 ∧ (∀ z ∈ x.Heap_, z.fit) ∧ x.Acts.length ≤ 140737488351232 ∧ (∀ z ∈ x.Acts, z.fit) ∧ x.Out.length ≤ 140737488351232
def SStart.fit (x : SStart) : Prop := x.Loaders.length ≤ 140737488351232 ∧ (∀ z ∈ x.Loaders, z.fit) ∧ x.Picks.length ≤ 140737488351232
def SAnswer.fit (x : SAnswer) : Prop := x.Out.length ≤ 140737488351232
def mdig : Nat → Nat → List UInt8 → List UInt8
  | 0, _, out => out
  | f + 1, k, out => if k = 0 then out else mdig f (k / 10) (UInt8.ofNat (48 + k % 10) :: out)
def mtext (k : Int) : List UInt8 := if k ≤ 0 then [109, 48] else 109 :: mdig (k.toNat + 1) k.toNat []
theorem mkN_le {α : Type} {n f : α → Nat} (h : ∀ x, n x ≤ 64 * (1 + f x)) : ∀ l : List α, mkN n l ≤ 64 * szL f l
  | [] => by simp [mkN]
  | x :: l => by
    have h1 := h x
    have h2 := mkN_le h l
    rw [mkN_cons]
    simp only [szL, List.map_cons, List.sum_cons, List.length_cons] at h2 ⊢
    omega
def SPair.mark (k : Int) (x : SPair) : SPair := ⟨k, mtext (k + 1)⟩
def SPair.marks (x : SPair) : Nat := 1 + 1
theorem SPair.marks_le (x : SPair) : x.marks ≤ 64 * (1 + x.sz) := by
  simp only [SPair.marks, SPair.sz]; omega
def SMark.mark (k : Int) (x : SMark) : SMark := ⟨k, mtext (k + 1)⟩
def SMark.marks (x : SMark) : Nat := 1 + 1
theorem SMark.marks_le (x : SMark) : x.marks ≤ 64 * (1 + x.sz) := by
  simp only [SMark.marks, SMark.sz]; omega
def SKnow.mark (k : Int) (x : SKnow) : SKnow := ⟨k, mkL SMark.mark SMark.marks (k + 1) x.Locals, mkL SMark.mark SMark.marks (k + 1 + (mkN SMark.marks x.Locals : Nat)) x.Stack⟩
def SKnow.marks (x : SKnow) : Nat := 1 + mkN SMark.marks x.Locals + mkN SMark.marks x.Stack
theorem SKnow.marks_le (x : SKnow) : x.marks ≤ 64 * (1 + x.sz) := by
  have h0 := mkN_le (n := SMark.marks) (f := SMark.sz) (fun z => SMark.marks_le z) x.Locals
  have h1 := mkN_le (n := SMark.marks) (f := SMark.sz) (fun z => SMark.marks_le z) x.Stack
  simp only [SKnow.marks, SKnow.sz]; omega
def SConst.mark (k : Int) (x : SConst) : SConst := ⟨k, mtext (k + 1), k + 1 + 1, k + 1 + 1 + 1⟩
def SConst.marks (x : SConst) : Nat := 1 + 1 + 1 + 1
theorem SConst.marks_le (x : SConst) : x.marks ≤ 64 * (1 + x.sz) := by
  simp only [SConst.marks, SConst.sz]; omega
def SField.mark (k : Int) (x : SField) : SField := ⟨k, k + 1, k + 1 + 1⟩
def SField.marks (x : SField) : Nat := 1 + 1 + 1
theorem SField.marks_le0 (x : SField) : x.marks ≤ 64 * (1 + 0) := by simp only [SField.marks]; omega
def STrap.mark (k : Int) (x : STrap) : STrap := ⟨k, k + 1, k + 1 + 1, k + 1 + 1 + 1⟩
def STrap.marks (x : STrap) : Nat := 1 + 1 + 1 + 1
theorem STrap.marks_le0 (x : STrap) : x.marks ≤ 64 * (1 + 0) := by simp only [STrap.marks]; omega
def SKind.mark (k : Int) (x : SKind) : SKind := ⟨k, k + 1⟩
def SKind.marks (x : SKind) : Nat := 1 + 1
theorem SKind.marks_le0 (x : SKind) : x.marks ≤ 64 * (1 + 0) := by simp only [SKind.marks]; omega
def SFrame.mark (k : Int) (x : SFrame) : SFrame := ⟨k, mkL SKind.mark SKind.marks (k + 1) x.Locals, mkL SKind.mark SKind.marks (k + 1 + (mkN SKind.marks x.Locals : Nat)) x.Stack⟩
def SFrame.marks (x : SFrame) : Nat := 1 + mkN SKind.marks x.Locals + mkN SKind.marks x.Stack
theorem SFrame.marks_le (x : SFrame) : x.marks ≤ 64 * (1 + x.sz) := by
  have h0 := mkN_le (n := SKind.marks) (f := (fun _ => 0)) (fun z => SKind.marks_le0 z) x.Locals
  have h1 := mkN_le (n := SKind.marks) (f := (fun _ => 0)) (fun z => SKind.marks_le0 z) x.Stack
  simp only [SFrame.marks, SFrame.sz]; omega
def SMethod.mark (k : Int) (x : SMethod) : SMethod := ⟨k, k + 1, k + 1 + 1, k + 1 + 1 + 1, k + 1 + 1 + 1 + 1, mtext (k + 1 + 1 + 1 + 1 + 1), mkL STrap.mark STrap.marks (k + 1 + 1 + 1 + 1 + 1 + 1) x.Traps, mkL SFrame.mark SFrame.marks (k + 1 + 1 + 1 + 1 + 1 + 1 + (mkN STrap.marks x.Traps : Nat)) x.Frames⟩
def SMethod.marks (x : SMethod) : Nat := 1 + 1 + 1 + 1 + 1 + 1 + mkN STrap.marks x.Traps + mkN SFrame.marks x.Frames
theorem SMethod.marks_le (x : SMethod) : x.marks ≤ 64 * (1 + x.sz) := by
  have h0 := mkN_le (n := STrap.marks) (f := (fun _ => 0)) (fun z => STrap.marks_le0 z) x.Traps
  have h1 := mkN_le (n := SFrame.marks) (f := SFrame.sz) (fun z => SFrame.marks_le z) x.Frames
  simp only [SMethod.marks, SMethod.sz]; omega
def SClass.mark (k : Int) (x : SClass) : SClass := ⟨mkL SConst.mark SConst.marks (k) x.Pool, k + (mkN SConst.marks x.Pool : Nat), k + (mkN SConst.marks x.Pool : Nat) + 1, k + (mkN SConst.marks x.Pool : Nat) + 1 + 1, mkL (fun k _ => k) (fun _ => 1) (k + (mkN SConst.marks x.Pool : Nat) + 1 + 1 + 1) x.Faces, mkL SField.mark SField.marks (k + (mkN SConst.marks x.Pool : Nat) + 1 + 1 + 1 + (mkN (fun _ => 1) x.Faces : Nat)) x.Fields, mkL SMethod.mark SMethod.marks (k + (mkN SConst.marks x.Pool : Nat) + 1 + 1 + 1 + (mkN (fun _ => 1) x.Faces : Nat) + (mkN SField.marks x.Fields : Nat)) x.Methods⟩
def SClass.marks (x : SClass) : Nat := mkN SConst.marks x.Pool + 1 + 1 + 1 + mkN (fun _ => 1) x.Faces + mkN SField.marks x.Fields + mkN SMethod.marks x.Methods
theorem SClass.marks_le (x : SClass) : x.marks ≤ 64 * (1 + x.sz) := by
  have h0 := mkN_le (n := SConst.marks) (f := SConst.sz) (fun z => SConst.marks_le z) x.Pool
  have h1 := mkN_le (n := (fun _ => 1)) (f := (fun _ => 0)) (fun z => by simp) x.Faces
  have h2 := mkN_le (n := SField.marks) (f := (fun _ => 0)) (fun z => SField.marks_le0 z) x.Fields
  have h3 := mkN_le (n := SMethod.marks) (f := SMethod.sz) (fun z => SMethod.marks_le z) x.Methods
  simp only [SClass.marks, SClass.sz]; omega
def SIns.mark (k : Int) (x : SIns) : SIns := ⟨k, k + 1, k + 1 + 1⟩
def SIns.marks (x : SIns) : Nat := 1 + 1 + 1
theorem SIns.marks_le0 (x : SIns) : x.marks ≤ 64 * (1 + 0) := by simp only [SIns.marks]; omega
def SLine.mark (k : Int) (x : SLine) : SLine := ⟨k, mtext (k + 1), mtext (k + 1 + 1), k + 1 + 1 + 1, k + 1 + 1 + 1 + 1, k + 1 + 1 + 1 + 1 + 1⟩
def SLine.marks (x : SLine) : Nat := 1 + 1 + 1 + 1 + 1 + 1
theorem SLine.marks_le (x : SLine) : x.marks ≤ 64 * (1 + x.sz) := by
  simp only [SLine.marks, SLine.sz]; omega
def SFile.mark (k : Int) (x : SFile) : SFile := ⟨mtext (k), mtext (k + 1)⟩
def SFile.marks (x : SFile) : Nat := 1 + 1
theorem SFile.marks_le (x : SFile) : x.marks ≤ 64 * (1 + x.sz) := by
  simp only [SFile.marks, SFile.sz]; omega
def SWay.mark (k : Int) (x : SWay) : SWay := ⟨mtext (k), k + 1⟩
def SWay.marks (x : SWay) : Nat := 1 + 1
theorem SWay.marks_le (x : SWay) : x.marks ≤ 64 * (1 + x.sz) := by
  simp only [SWay.marks, SWay.sz]; omega
def SLoader.mark (k : Int) (x : SLoader) : SLoader := ⟨mkL SFile.mark SFile.marks (k) x.Files, mkL SWay.mark SWay.marks (k + (mkN SFile.marks x.Files : Nat)) x.Ways, k + (mkN SFile.marks x.Files : Nat) + (mkN SWay.marks x.Ways : Nat)⟩
def SLoader.marks (x : SLoader) : Nat := mkN SFile.marks x.Files + mkN SWay.marks x.Ways + 1
theorem SLoader.marks_le (x : SLoader) : x.marks ≤ 64 * (1 + x.sz) := by
  have h0 := mkN_le (n := SFile.marks) (f := SFile.sz) (fun z => SFile.marks_le z) x.Files
  have h1 := mkN_le (n := SWay.marks) (f := SWay.sz) (fun z => SWay.marks_le z) x.Ways
  simp only [SLoader.marks, SLoader.sz]; omega
def SKnown.mark (k : Int) (x : SKnown) : SKnown := ⟨k, mtext (k + 1), k + 1 + 1⟩
def SKnown.marks (x : SKnown) : Nat := 1 + 1 + 1
theorem SKnown.marks_le (x : SKnown) : x.marks ≤ 64 * (1 + x.sz) := by
  simp only [SKnown.marks, SKnown.sz]; omega
def SBond.mark (k : Int) (x : SBond) : SBond := ⟨mtext (k), mkL (fun k _ => k) (fun _ => 1) (k + 1) x.Loaders, k + 1 + (mkN (fun _ => 1) x.Loaders : Nat)⟩
def SBond.marks (x : SBond) : Nat := 1 + mkN (fun _ => 1) x.Loaders + 1
theorem SBond.marks_le (x : SBond) : x.marks ≤ 64 * (1 + x.sz) := by
  have h0 := mkN_le (n := (fun _ => 1)) (f := (fun _ => 0)) (fun z => by simp) x.Loaders
  simp only [SBond.marks, SBond.sz]; omega
def SSlot.mark (k : Int) (x : SSlot) : SSlot := ⟨k, k + 1⟩
def SSlot.marks (x : SSlot) : Nat := 1 + 1
theorem SSlot.marks_le0 (x : SSlot) : x.marks ≤ 64 * (1 + 0) := by simp only [SSlot.marks]; omega
def SRow.mark (k : Int) (x : SRow) : SRow := ⟨mtext (k), mtext (k + 1), k + 1 + 1, k + 1 + 1 + 1⟩
def SRow.marks (x : SRow) : Nat := 1 + 1 + 1 + 1
theorem SRow.marks_le (x : SRow) : x.marks ≤ 64 * (1 + x.sz) := by
  simp only [SRow.marks, SRow.sz]; omega
def SVal.mark (k : Int) (x : SVal) : SVal := ⟨k, k + 1⟩
def SVal.marks (x : SVal) : Nat := 1 + 1
theorem SVal.marks_le0 (x : SVal) : x.marks ≤ 64 * (1 + 0) := by simp only [SVal.marks]; omega
def SCls.mark (k : Int) (x : SCls) : SCls := ⟨mtext (k), k + 1, ⟨mkL SConst.mark SConst.marks (k + 1 + 1) x.File.Pool, k + 1 + 1 + (mkN SConst.marks x.File.Pool : Nat), k + 1 + 1 + (mkN SConst.marks x.File.Pool : Nat) + 1, k + 1 + 1 + (mkN SConst.marks x.File.Pool : Nat) + 1 + 1, mkL (fun k _ => k) (fun _ => 1) (k + 1 + 1 + (mkN SConst.marks x.File.Pool : Nat) + 1 + 1 + 1) x.File.Faces, mkL SField.mark SField.marks (k + 1 + 1 + (mkN SConst.marks x.File.Pool : Nat) + 1 + 1 + 1 + (mkN (fun _ => 1) x.File.Faces : Nat)) x.File.Fields, mkL SMethod.mark SMethod.marks (k + 1 + 1 + (mkN SConst.marks x.File.Pool : Nat) + 1 + 1 + 1 + (mkN (fun _ => 1) x.File.Faces : Nat) + (mkN SField.marks x.File.Fields : Nat)) x.File.Methods⟩, k + 1 + 1 + (mkN SConst.marks x.File.Pool : Nat) + 1 + 1 + 1 + (mkN (fun _ => 1) x.File.Faces : Nat) + (mkN SField.marks x.File.Fields : Nat) + (mkN SMethod.marks x.File.Methods : Nat), mkL (fun k _ => k) (fun _ => 1) (k + 1 + 1 + (mkN SConst.marks x.File.Pool : Nat) + 1 + 1 + 1 + (mkN (fun _ => 1) x.File.Faces : Nat) + (mkN SField.marks x.File.Fields : Nat) + (mkN SMethod.marks x.File.Methods : Nat) + 1) x.Faces, k + 1 + 1 + (mkN SConst.marks x.File.Pool : Nat) + 1 + 1 + 1 + (mkN (fun _ => 1) x.File.Faces : Nat) + (mkN SField.marks x.File.Fields : Nat) + (mkN SMethod.marks x.File.Methods : Nat) + 1 + (mkN (fun _ => 1) x.Faces : Nat), k + 1 + 1 + (mkN SConst.marks x.File.Pool : Nat) + 1 + 1 + 1 + (mkN (fun _ => 1) x.File.Faces : Nat) + (mkN SField.marks x.File.Fields : Nat) + (mkN SMethod.marks x.File.Methods : Nat) + 1 + (mkN (fun _ => 1) x.Faces : Nat) + 1, mkL SSlot.mark SSlot.marks (k + 1 + 1 + (mkN SConst.marks x.File.Pool : Nat) + 1 + 1 + 1 + (mkN (fun _ => 1) x.File.Faces : Nat) + (mkN SField.marks x.File.Fields : Nat) + (mkN SMethod.marks x.File.Methods : Nat) + 1 + (mkN (fun _ => 1) x.Faces : Nat) + 1 + 1) x.Slots, mkL SRow.mark SRow.marks (k + 1 + 1 + (mkN SConst.marks x.File.Pool : Nat) + 1 + 1 + 1 + (mkN (fun _ => 1) x.File.Faces : Nat) + (mkN SField.marks x.File.Fields : Nat) + (mkN SMethod.marks x.File.Methods : Nat) + 1 + (mkN (fun _ => 1) x.Faces : Nat) + 1 + 1 + (mkN SSlot.marks x.Slots : Nat)) x.Rows, mkL SVal.mark SVal.marks (k + 1 + 1 + (mkN SConst.marks x.File.Pool : Nat) + 1 + 1 + 1 + (mkN (fun _ => 1) x.File.Faces : Nat) + (mkN SField.marks x.File.Fields : Nat) + (mkN SMethod.marks x.File.Methods : Nat) + 1 + (mkN (fun _ => 1) x.Faces : Nat) + 1 + 1 + (mkN SSlot.marks x.Slots : Nat) + (mkN SRow.marks x.Rows : Nat)) x.Statics⟩
def SCls.marks (x : SCls) : Nat := 1 + 1 + mkN SConst.marks x.File.Pool + 1 + 1 + 1 + mkN (fun _ => 1) x.File.Faces + mkN SField.marks x.File.Fields + mkN SMethod.marks x.File.Methods + 1 + mkN (fun _ => 1) x.Faces + 1 + 1 + mkN SSlot.marks x.Slots + mkN SRow.marks x.Rows + mkN SVal.marks x.Statics
theorem SCls.marks_le (x : SCls) : x.marks ≤ 64 * (1 + x.sz) := by
  have h0 := mkN_le (n := SConst.marks) (f := SConst.sz) (fun z => SConst.marks_le z) x.File.Pool
  have h1 := mkN_le (n := (fun _ => 1)) (f := (fun _ => 0)) (fun z => by simp) x.File.Faces
  have h2 := mkN_le (n := SField.marks) (f := (fun _ => 0)) (fun z => SField.marks_le0 z) x.File.Fields
  have h3 := mkN_le (n := SMethod.marks) (f := SMethod.sz) (fun z => SMethod.marks_le z) x.File.Methods
  have h4 := mkN_le (n := (fun _ => 1)) (f := (fun _ => 0)) (fun z => by simp) x.Faces
  have h5 := mkN_le (n := SSlot.marks) (f := (fun _ => 0)) (fun z => SSlot.marks_le0 z) x.Slots
  have h6 := mkN_le (n := SRow.marks) (f := SRow.sz) (fun z => SRow.marks_le z) x.Rows
  have h7 := mkN_le (n := SVal.marks) (f := (fun _ => 0)) (fun z => SVal.marks_le0 z) x.Statics
  simp only [SCls.marks, SCls.sz]; omega
def SWorld.mark (k : Int) (x : SWorld) : SWorld := ⟨mkL SLoader.mark SLoader.marks (k) x.Loaders, mkL SCls.mark SCls.marks (k + (mkN SLoader.marks x.Loaders : Nat)) x.Classes, mkL SKnown.mark SKnown.marks (k + (mkN SLoader.marks x.Loaders : Nat) + (mkN SCls.marks x.Classes : Nat)) x.Known, mkL SBond.mark SBond.marks (k + (mkN SLoader.marks x.Loaders : Nat) + (mkN SCls.marks x.Classes : Nat) + (mkN SKnown.marks x.Known : Nat)) x.Bonds⟩
def SWorld.marks (x : SWorld) : Nat := mkN SLoader.marks x.Loaders + mkN SCls.marks x.Classes + mkN SKnown.marks x.Known + mkN SBond.marks x.Bonds
theorem SWorld.marks_le (x : SWorld) : x.marks ≤ 64 * (1 + x.sz) := by
  have h0 := mkN_le (n := SLoader.marks) (f := SLoader.sz) (fun z => SLoader.marks_le z) x.Loaders
  have h1 := mkN_le (n := SCls.marks) (f := SCls.sz) (fun z => SCls.marks_le z) x.Classes
  have h2 := mkN_le (n := SKnown.marks) (f := SKnown.sz) (fun z => SKnown.marks_le z) x.Known
  have h3 := mkN_le (n := SBond.marks) (f := SBond.sz) (fun z => SBond.marks_le z) x.Bonds
  simp only [SWorld.marks, SWorld.sz]; omega
def SFault.mark (k : Int) (x : SFault) : SFault := ⟨k, mtext (k + 1)⟩
def SFault.marks (x : SFault) : Nat := 1 + 1
theorem SFault.marks_le (x : SFault) : x.marks ≤ 64 * (1 + x.sz) := by
  simp only [SFault.marks, SFault.sz]; omega
def SObj.mark (k : Int) (x : SObj) : SObj := ⟨k, mkL SVal.mark SVal.marks (k + 1) x.Fields⟩
def SObj.marks (x : SObj) : Nat := 1 + mkN SVal.marks x.Fields
theorem SObj.marks_le (x : SObj) : x.marks ≤ 64 * (1 + x.sz) := by
  have h0 := mkN_le (n := SVal.marks) (f := (fun _ => 0)) (fun z => SVal.marks_le0 z) x.Fields
  simp only [SObj.marks, SObj.sz]; omega
def SAct.mark (k : Int) (x : SAct) : SAct := ⟨k, k + 1, k + 1 + 1, mkL SVal.mark SVal.marks (k + 1 + 1 + 1) x.Locals, mkL SVal.mark SVal.marks (k + 1 + 1 + 1 + (mkN SVal.marks x.Locals : Nat)) x.Stack, k + 1 + 1 + 1 + (mkN SVal.marks x.Locals : Nat) + (mkN SVal.marks x.Stack : Nat)⟩
def SAct.marks (x : SAct) : Nat := 1 + 1 + 1 + mkN SVal.marks x.Locals + mkN SVal.marks x.Stack + 1
theorem SAct.marks_le (x : SAct) : x.marks ≤ 64 * (1 + x.sz) := by
  have h0 := mkN_le (n := SVal.marks) (f := (fun _ => 0)) (fun z => SVal.marks_le0 z) x.Locals
  have h1 := mkN_le (n := SVal.marks) (f := (fun _ => 0)) (fun z => SVal.marks_le0 z) x.Stack
  simp only [SAct.marks, SAct.sz]; omega
def SPick.mark (k : Int) (x : SPick) : SPick := ⟨k, k + 1, k + 1 + 1, mtext (k + 1 + 1 + 1)⟩
def SPick.marks (x : SPick) : Nat := 1 + 1 + 1 + 1
theorem SPick.marks_le (x : SPick) : x.marks ≤ 64 * (1 + x.sz) := by
  simp only [SPick.marks, SPick.sz]; omega
def SAnswer.mark (k : Int) (x : SAnswer) : SAnswer := ⟨k, mtext (k + 1), ⟨k + 1 + 1, mtext (k + 1 + 1 + 1)⟩, mkL (fun k _ => k) (fun _ => 1) (k + 1 + 1 + 1 + 1) x.Out, k + 1 + 1 + 1 + 1 + (mkN (fun _ => 1) x.Out : Nat)⟩
def SAnswer.marks (x : SAnswer) : Nat := 1 + 1 + 1 + 1 + mkN (fun _ => 1) x.Out + 1
theorem SAnswer.marks_le (x : SAnswer) : x.marks ≤ 64 * (1 + x.sz) := by
  have h0 := mkN_le (n := (fun _ => 1)) (f := (fun _ => 0)) (fun z => by simp) x.Out
  simp only [SAnswer.marks, SAnswer.sz]; omega
def SWorld.vmark (k : Int) (x : SWorld) : SWorld := ⟨mkL SLoader.mark SLoader.marks (k) x.Loaders, mkL SCls.mark SCls.marks (k + (mkN SLoader.marks x.Loaders : Nat)) x.Classes, mkL SKnown.mark SKnown.marks (k + (mkN SLoader.marks x.Loaders : Nat) + (mkN SCls.marks x.Classes : Nat)) x.Known, mkL SBond.mark SBond.marks (k + (mkN SLoader.marks x.Loaders : Nat) + (mkN SCls.marks x.Classes : Nat) + (mkN SKnown.marks x.Known : Nat)) x.Bonds⟩
def SWorld.vmarks (x : SWorld) : Nat := mkN SLoader.marks x.Loaders + mkN SCls.marks x.Classes + mkN SKnown.marks x.Known + mkN SBond.marks x.Bonds
theorem SWorld.vmarks_le (x : SWorld) : x.vmarks ≤ 64 * (1 + x.sz) := by
  have h0 := mkN_le (n := SLoader.marks) (f := SLoader.sz) (fun z => SLoader.marks_le z) x.Loaders
  have h1 := mkN_le (n := SCls.marks) (f := SCls.sz) (fun z => SCls.marks_le z) x.Classes
  have h2 := mkN_le (n := SKnown.marks) (f := SKnown.sz) (fun z => SKnown.marks_le z) x.Known
  have h3 := mkN_le (n := SBond.marks) (f := SBond.sz) (fun z => SBond.marks_le z) x.Bonds
  simp only [SWorld.vmarks, SWorld.sz]; omega
def SClass.vmark (k : Int) (x : SClass) : SClass := ⟨mkL SConst.mark SConst.marks (k) x.Pool, x.Flags, x.Name, x.Super, mkL (fun k _ => k) (fun _ => 1) (k + (mkN SConst.marks x.Pool : Nat)) x.Faces, mkL SField.mark SField.marks (k + (mkN SConst.marks x.Pool : Nat) + (mkN (fun _ => 1) x.Faces : Nat)) x.Fields, mkL SMethod.mark SMethod.marks (k + (mkN SConst.marks x.Pool : Nat) + (mkN (fun _ => 1) x.Faces : Nat) + (mkN SField.marks x.Fields : Nat)) x.Methods⟩
def SClass.vmarks (x : SClass) : Nat := mkN SConst.marks x.Pool + mkN (fun _ => 1) x.Faces + mkN SField.marks x.Fields + mkN SMethod.marks x.Methods
theorem SClass.vmarks_le (x : SClass) : x.vmarks ≤ 64 * (1 + x.sz) := by
  have h0 := mkN_le (n := SConst.marks) (f := SConst.sz) (fun z => SConst.marks_le z) x.Pool
  have h1 := mkN_le (n := (fun _ => 1)) (f := (fun _ => 0)) (fun z => by simp) x.Faces
  have h2 := mkN_le (n := SField.marks) (f := (fun _ => 0)) (fun z => SField.marks_le0 z) x.Fields
  have h3 := mkN_le (n := SMethod.marks) (f := SMethod.sz) (fun z => SMethod.marks_le z) x.Methods
  simp only [SClass.vmarks, SClass.sz]; omega
def SStart.vmark (k : Int) (x : SStart) : SStart := ⟨mkL SLoader.mark SLoader.marks (k) x.Loaders, x.Loader, x.Name, x.Fuel, x.Room, x.Prove, mkL SPick.mark SPick.marks (k + (mkN SLoader.marks x.Loaders : Nat)) x.Picks⟩
def SStart.vmarks (x : SStart) : Nat := mkN SLoader.marks x.Loaders + mkN SPick.marks x.Picks
theorem SStart.vmarks_le (x : SStart) : x.vmarks ≤ 64 * (1 + x.sz) := by
  have h0 := mkN_le (n := SLoader.marks) (f := SLoader.sz) (fun z => SLoader.marks_le z) x.Loaders
  have h1 := mkN_le (n := SPick.marks) (f := SPick.sz) (fun z => SPick.marks_le z) x.Picks
  simp only [SStart.vmarks, SStart.sz]; omega
def SRun.vmark (k : Int) (x : SRun) : SRun := ⟨⟨mkL SLoader.mark SLoader.marks (k) x.World.Loaders, mkL SCls.mark SCls.marks (k + (mkN SLoader.marks x.World.Loaders : Nat)) x.World.Classes, mkL SKnown.mark SKnown.marks (k + (mkN SLoader.marks x.World.Loaders : Nat) + (mkN SCls.marks x.World.Classes : Nat)) x.World.Known, mkL SBond.mark SBond.marks (k + (mkN SLoader.marks x.World.Loaders : Nat) + (mkN SCls.marks x.World.Classes : Nat) + (mkN SKnown.marks x.World.Known : Nat)) x.World.Bonds⟩, mkL SObj.mark SObj.marks (k + (mkN SLoader.marks x.World.Loaders : Nat) + (mkN SCls.marks x.World.Classes : Nat) + (mkN SKnown.marks x.World.Known : Nat) + (mkN SBond.marks x.World.Bonds : Nat)) x.Heap_, mkL SAct.mark SAct.marks (k + (mkN SLoader.marks x.World.Loaders : Nat) + (mkN SCls.marks x.World.Classes : Nat) + (mkN SKnown.marks x.World.Known : Nat) + (mkN SBond.marks x.World.Bonds : Nat) + (mkN SObj.marks x.Heap_ : Nat)) x.Acts, mkL (fun k _ => k) (fun _ => 1) (k + (mkN SLoader.marks x.World.Loaders : Nat) + (mkN SCls.marks x.World.Classes : Nat) + (mkN SKnown.marks x.World.Known : Nat) + (mkN SBond.marks x.World.Bonds : Nat) + (mkN SObj.marks x.Heap_ : Nat) + (mkN SAct.marks x.Acts : Nat)) x.Out, x.Fuel, x.Room, x.Steps, x.Prove, x.End, x.Name, ⟨x.Fault.Code, x.Fault.Name⟩⟩
def SRun.vmarks (x : SRun) : Nat := mkN SLoader.marks x.World.Loaders + mkN SCls.marks x.World.Classes + mkN SKnown.marks x.World.Known + mkN SBond.marks x.World.Bonds + mkN SObj.marks x.Heap_ + mkN SAct.marks x.Acts + mkN (fun _ => 1) x.Out
theorem SRun.vmarks_le (x : SRun) : x.vmarks ≤ 64 * (1 + x.sz) := by
  have h0 := mkN_le (n := SLoader.marks) (f := SLoader.sz) (fun z => SLoader.marks_le z) x.World.Loaders
  have h1 := mkN_le (n := SCls.marks) (f := SCls.sz) (fun z => SCls.marks_le z) x.World.Classes
  have h2 := mkN_le (n := SKnown.marks) (f := SKnown.sz) (fun z => SKnown.marks_le z) x.World.Known
  have h3 := mkN_le (n := SBond.marks) (f := SBond.sz) (fun z => SBond.marks_le z) x.World.Bonds
  have h4 := mkN_le (n := SObj.marks) (f := SObj.sz) (fun z => SObj.marks_le z) x.Heap_
  have h5 := mkN_le (n := SAct.marks) (f := SAct.sz) (fun z => SAct.marks_le z) x.Acts
  have h6 := mkN_le (n := (fun _ => 1)) (f := (fun _ => 0)) (fun z => by simp) x.Out
  simp only [SRun.vmarks, SRun.sz]; omega
def SAnswer.vmark (k : Int) (x : SAnswer) : SAnswer := ⟨x.End, x.Name, ⟨x.Fault.Code, x.Fault.Name⟩, mkL (fun k _ => k) (fun _ => 1) (k) x.Out, x.Steps⟩
def SAnswer.vmarks (x : SAnswer) : Nat := mkN (fun _ => 1) x.Out
theorem SAnswer.vmarks_le (x : SAnswer) : x.vmarks ≤ 64 * (1 + x.sz) := by
  have h0 := mkN_le (n := (fun _ => 1)) (f := (fun _ => 0)) (fun z => by simp) x.Out
  simp only [SAnswer.vmarks, SAnswer.sz]; omega

end Go.Ev
