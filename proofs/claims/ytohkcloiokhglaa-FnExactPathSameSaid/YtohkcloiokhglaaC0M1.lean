/- What the program is about, in plain words. -/
import Derived.Test.YtohkcloiokhglaaYa
import Derived.Test.YtohkcloiokhglaaQ0
namespace Go.Ev
set_option linter.unusedVariables false
set_option linter.unusedSimpArgs false
def szR (s : Nat) (left : Int) : Int := if (s : Int) ≤ left then left - s else -1
theorem szR_pos {s : Nat} {left : Int} (h : (s : Int) ≤ left) : szR s left = left - s := if_pos h
theorem szR_neg {s : Nat} {left : Int} (h : ¬ (s : Int) ≤ left) : szR s left = -1 := if_neg h
def szL {α : Type} (f : α → Nat) (l : List α) : Nat := l.length + (l.map f).sum
theorem szL_len {α : Type} {f : α → Nat} {l : List α} {n : Nat} (h : szL f l ≤ n) : l.length ≤ n := by unfold szL at h; omega
theorem szL_get {α : Type} {f : α → Nat} {l : List α} {n i : Nat} (h : szL f l ≤ n) (hi : i < l.length) : f l[i] ≤ n := by
  have : ∀ {l : List Nat} {i : Nat} (hi : i < l.length), l[i] ≤ l.sum := by
    intro l
    induction l with
    | nil => intro i hi; simp at hi
    | cons a l ih =>
      intro i hi
      cases i with
      | zero => simp
      | succ i => have := ih (i := i) (by simpa using hi); simp; omega
  have := this (l := l.map f) (i := i) (by simpa using hi)
  simp only [List.getElem_map] at this
  unfold szL at h; omega
theorem szL_zero {α : Type} (l : List α) : szL (fun _ => 0) l = l.length := by
  have : (l.map (fun _ => 0)).sum = 0 := by
    induction l with
    | nil => rfl
    | cons a l ih => simpa using ih
  simp only [szL, this, Nat.add_zero]
def SPair.sz (x : SPair) : Nat := x.Name.length
def SMark.sz (x : SMark) : Nat := x.Name.length
def SKnow.sz (x : SKnow) : Nat := szL SMark.sz x.Locals + szL SMark.sz x.Stack
def SConst.sz (x : SConst) : Nat := x.Text.length
def SFrame.sz (x : SFrame) : Nat := szL (fun _ => 0) x.Locals + szL (fun _ => 0) x.Stack
def SMethod.sz (x : SMethod) : Nat := x.Code.length + szL (fun _ => 0) x.Traps + szL SFrame.sz x.Frames
def SClass.sz (x : SClass) : Nat := szL SConst.sz x.Pool + szL (fun _ => 0) x.Faces + szL (fun _ => 0) x.Fields + szL SMethod.sz x.Methods
def SLine.sz (x : SLine) : Nat := x.Class.length + x.Method.length
def SFile.sz (x : SFile) : Nat := x.Name.length + x.Text.length
def SWay.sz (x : SWay) : Nat := x.Name.length
def SLoader.sz (x : SLoader) : Nat := szL SFile.sz x.Files + szL SWay.sz x.Ways
def SKnown.sz (x : SKnown) : Nat := x.Name.length
def SBond.sz (x : SBond) : Nat := x.Name.length + szL (fun _ => 0) x.Loaders
def SRow.sz (x : SRow) : Nat := x.Name.length + x.Desc.length
def SCls.sz (x : SCls) : Nat := x.Name.length + szL SConst.sz x.File.Pool + szL (fun _ => 0) x.File.Faces + szL (fun _ => 0) x.File.Fields + szL SMethod.sz x.File.Methods + szL (fun _ => 0) x.Faces + szL (fun _ => 0) x.Slots + szL SRow.sz x.Rows + szL (fun _ => 0) x.Statics
def SWorld.sz (x : SWorld) : Nat := szL SLoader.sz x.Loaders + szL SCls.sz x.Classes + szL SKnown.sz x.Known + szL SBond.sz x.Bonds
def SFault.sz (x : SFault) : Nat := x.Name.length
def SObj.sz (x : SObj) : Nat := szL (fun _ => 0) x.Fields
def SAct.sz (x : SAct) : Nat := szL (fun _ => 0) x.Locals + szL (fun _ => 0) x.Stack
def SRun.sz (x : SRun) : Nat := szL SLoader.sz x.World.Loaders + szL SCls.sz x.World.Classes + szL SKnown.sz x.World.Known + szL SBond.sz x.World.Bonds + szL SObj.sz x.Heap_ + szL SAct.sz x.Acts + szL (fun _ => 0) x.Out + x.Name.length + x.Fault.Name.length
def SPick.sz (x : SPick) : Nat := x.Name.length
def SStart.sz (x : SStart) : Nat := szL SLoader.sz x.Loaders + x.Name.length + szL SPick.sz x.Picks
def SAnswer.sz (x : SAnswer) : Nat := x.Name.length + x.Fault.Name.length + szL (fun _ => 0) x.Out
def SKnow.fit (x : SKnow) : Prop := x.Locals.length ≤ 140737488351232 ∧ x.Stack.length ≤ 140737488351232
def SFrame.fit (x : SFrame) : Prop := x.Locals.length ≤ 140737488351232 ∧ x.Stack.length ≤ 140737488351232
def SMethod.fit (x : SMethod) : Prop := x.Traps.length ≤ 140737488351232 ∧ x.Frames.length ≤ 140737488351232 ∧ (∀ z ∈ x.Frames, z.fit)
def SClass.fit (x : SClass) : Prop := x.Pool.length ≤ 140737488351232 ∧ x.Faces.length ≤ 140737488351232 ∧ x.Fields.length ≤ 140737488351232 ∧ x.Methods.length ≤ 140737488351232 ∧ (∀ z ∈ x.Methods, z.fit)
def SLoader.fit (x : SLoader) : Prop := x.Files.length ≤ 140737488351232 ∧ x.Ways.length ≤ 140737488351232
def SBond.fit (x : SBond) : Prop := x.Loaders.length ≤ 140737488351232
def SCls.fit (x : SCls) : Prop := x.File.Pool.length ≤ 140737488351232 ∧ x.File.Faces.length ≤ 140737488351232 ∧ x.File.Fields.length ≤ 140737488351232 ∧ x.File.Methods.length ≤ 140737488351232 ∧ (∀ z ∈ x.File.Methods, z.fit) ∧ x.Faces.length ≤ 140737488351232 ∧ x.Slots.length ≤ 140737488351232 ∧ x.Rows.length ≤ 140737488351232 ∧ x.Statics.length ≤ 140737488351232
def SWorld.fit (x : SWorld) : Prop := x.Loaders.length ≤ 140737488351232 ∧ (∀ z ∈ x.Loaders, z.fit) ∧ x.Classes.length ≤ 140737488351232 ∧ (∀ z ∈ x.Classes, z.fit) ∧ x.Known.length ≤ 140737488351232 ∧ x.Bonds.length ≤ 140737488351232 ∧ (∀ z ∈ x.Bonds, z.fit)
def SObj.fit (x : SObj) : Prop := x.Fields.length ≤ 140737488351232
def SAct.fit (x : SAct) : Prop := x.Locals.length ≤ 140737488351232 ∧ x.Stack.length ≤ 140737488351232
def SRun.fit (x : SRun) : Prop := x.World.Loaders.length ≤ 140737488351232 ∧ (∀ z ∈ x.World.Loaders, z.fit) ∧ x.World.Classes.length ≤ 140737488351232 ∧ (∀ z ∈ x.World.Classes, z.fit) ∧ x.World.Known.length ≤ 140737488351232 ∧ x.World.Bonds.length ≤ 140737488351232 ∧ (∀ z ∈ x.World.Bonds, z.fit) ∧ x.Heap_.length ≤ 140737488351232 ∧ (∀ z ∈ x.Heap_, z.fit) ∧ x.Acts.length ≤ 140737488351232 ∧ (∀ z ∈ x.Acts, z.fit) ∧ x.Out.length ≤ 140737488351232
def SStart.fit (x : SStart) : Prop := x.Loaders.length ≤ 140737488351232 ∧ (∀ z ∈ x.Loaders, z.fit) ∧ x.Picks.length ≤ 140737488351232
def SAnswer.fit (x : SAnswer) : Prop := x.Out.length ≤ 140737488351232
def mdig : Nat → Nat → List UInt8 → List UInt8
  | 0, _, out => out
  | f + 1, k, out => if k = 0 then out else mdig f (k / 10) (UInt8.ofNat (48 + k % 10) :: out)
def mtext (k : Int) : List UInt8 := if k ≤ 0 then [109, 48] else 109 :: mdig (k.toNat + 1) k.toNat []
def SPair.mark (k : Int) (x : SPair) : SPair := ⟨k, mtext (k + 1)⟩
def SPair.marks (x : SPair) : Nat := 1 + 1
def SMark.mark (k : Int) (x : SMark) : SMark := ⟨k, mtext (k + 1)⟩
def SMark.marks (x : SMark) : Nat := 1 + 1
def SKnow.mark (k : Int) (x : SKnow) : SKnow := ⟨k, mkL SMark.mark SMark.marks (k + 1) x.Locals, mkL SMark.mark SMark.marks (k + 1 + (mkN SMark.marks x.Locals : Nat)) x.Stack⟩
def SKnow.marks (x : SKnow) : Nat := 1 + mkN SMark.marks x.Locals + mkN SMark.marks x.Stack
def SConst.mark (k : Int) (x : SConst) : SConst := ⟨k, mtext (k + 1), k + 1 + 1, k + 1 + 1 + 1⟩
def SConst.marks (x : SConst) : Nat := 1 + 1 + 1 + 1
def SField.mark (k : Int) (x : SField) : SField := ⟨k, k + 1, k + 1 + 1⟩
def SField.marks (x : SField) : Nat := 1 + 1 + 1
def STrap.mark (k : Int) (x : STrap) : STrap := ⟨k, k + 1, k + 1 + 1, k + 1 + 1 + 1⟩
def STrap.marks (x : STrap) : Nat := 1 + 1 + 1 + 1
def SKind.mark (k : Int) (x : SKind) : SKind := ⟨k, k + 1⟩
def SKind.marks (x : SKind) : Nat := 1 + 1
def SFrame.mark (k : Int) (x : SFrame) : SFrame := ⟨k, mkL SKind.mark SKind.marks (k + 1) x.Locals, mkL SKind.mark SKind.marks (k + 1 + (mkN SKind.marks x.Locals : Nat)) x.Stack⟩
def SFrame.marks (x : SFrame) : Nat := 1 + mkN SKind.marks x.Locals + mkN SKind.marks x.Stack
def SMethod.mark (k : Int) (x : SMethod) : SMethod := ⟨k, k + 1, k + 1 + 1, k + 1 + 1 + 1, k + 1 + 1 + 1 + 1, mtext (k + 1 + 1 + 1 + 1 + 1), mkL STrap.mark STrap.marks (k + 1 + 1 + 1 + 1 + 1 + 1) x.Traps, mkL SFrame.mark SFrame.marks (k + 1 + 1 + 1 + 1 + 1 + 1 + (mkN STrap.marks x.Traps : Nat)) x.Frames⟩
def SMethod.marks (x : SMethod) : Nat := 1 + 1 + 1 + 1 + 1 + 1 + mkN STrap.marks x.Traps + mkN SFrame.marks x.Frames
def SClass.mark (k : Int) (x : SClass) : SClass := ⟨mkL SConst.mark SConst.marks (k) x.Pool, k + (mkN SConst.marks x.Pool : Nat), k + (mkN SConst.marks x.Pool : Nat) + 1, k + (mkN SConst.marks x.Pool : Nat) + 1 + 1, mkL (fun k _ => k) (fun _ => 1) (k + (mkN SConst.marks x.Pool : Nat) + 1 + 1 + 1) x.Faces, mkL SField.mark SField.marks (k + (mkN SConst.marks x.Pool : Nat) + 1 + 1 + 1 + (mkN (fun _ => 1) x.Faces : Nat)) x.Fields, mkL SMethod.mark SMethod.marks (k + (mkN SConst.marks x.Pool : Nat) + 1 + 1 + 1 + (mkN (fun _ => 1) x.Faces : Nat) + (mkN SField.marks x.Fields : Nat)) x.Methods⟩
def SClass.marks (x : SClass) : Nat := mkN SConst.marks x.Pool + 1 + 1 + 1 + mkN (fun _ => 1) x.Faces + mkN SField.marks x.Fields + mkN SMethod.marks x.Methods
def SIns.mark (k : Int) (x : SIns) : SIns := ⟨k, k + 1, k + 1 + 1⟩
def SIns.marks (x : SIns) : Nat := 1 + 1 + 1
def SLine.mark (k : Int) (x : SLine) : SLine := ⟨k, mtext (k + 1), mtext (k + 1 + 1), k + 1 + 1 + 1, k + 1 + 1 + 1 + 1, k + 1 + 1 + 1 + 1 + 1⟩
def SLine.marks (x : SLine) : Nat := 1 + 1 + 1 + 1 + 1 + 1
def SFile.mark (k : Int) (x : SFile) : SFile := ⟨mtext (k), mtext (k + 1)⟩
def SFile.marks (x : SFile) : Nat := 1 + 1
def SWay.mark (k : Int) (x : SWay) : SWay := ⟨mtext (k), k + 1⟩
def SWay.marks (x : SWay) : Nat := 1 + 1
def SLoader.mark (k : Int) (x : SLoader) : SLoader := ⟨mkL SFile.mark SFile.marks (k) x.Files, mkL SWay.mark SWay.marks (k + (mkN SFile.marks x.Files : Nat)) x.Ways, k + (mkN SFile.marks x.Files : Nat) + (mkN SWay.marks x.Ways : Nat)⟩
def SLoader.marks (x : SLoader) : Nat := mkN SFile.marks x.Files + mkN SWay.marks x.Ways + 1
def SKnown.mark (k : Int) (x : SKnown) : SKnown := ⟨k, mtext (k + 1), k + 1 + 1⟩
def SKnown.marks (x : SKnown) : Nat := 1 + 1 + 1
def SBond.mark (k : Int) (x : SBond) : SBond := ⟨mtext (k), mkL (fun k _ => k) (fun _ => 1) (k + 1) x.Loaders, k + 1 + (mkN (fun _ => 1) x.Loaders : Nat)⟩
def SBond.marks (x : SBond) : Nat := 1 + mkN (fun _ => 1) x.Loaders + 1
def SSlot.mark (k : Int) (x : SSlot) : SSlot := ⟨k, k + 1⟩
def SSlot.marks (x : SSlot) : Nat := 1 + 1
def SRow.mark (k : Int) (x : SRow) : SRow := ⟨mtext (k), mtext (k + 1), k + 1 + 1, k + 1 + 1 + 1⟩
def SRow.marks (x : SRow) : Nat := 1 + 1 + 1 + 1
def SVal.mark (k : Int) (x : SVal) : SVal := ⟨k, k + 1⟩
def SVal.marks (x : SVal) : Nat := 1 + 1
def SCls.mark (k : Int) (x : SCls) : SCls := ⟨mtext (k), k + 1, ⟨mkL SConst.mark SConst.marks (k + 1 + 1) x.File.Pool, k + 1 + 1 + (mkN SConst.marks x.File.Pool : Nat), k + 1 + 1 + (mkN SConst.marks x.File.Pool : Nat) + 1, k + 1 + 1 + (mkN SConst.marks x.File.Pool : Nat) + 1 + 1, mkL (fun k _ => k) (fun _ => 1) (k + 1 + 1 + (mkN SConst.marks x.File.Pool : Nat) + 1 + 1 + 1) x.File.Faces, mkL SField.mark SField.marks (k + 1 + 1 + (mkN SConst.marks x.File.Pool : Nat) + 1 + 1 + 1 + (mkN (fun _ => 1) x.File.Faces : Nat)) x.File.Fields, mkL SMethod.mark SMethod.marks (k + 1 + 1 + (mkN SConst.marks x.File.Pool : Nat) + 1 + 1 + 1 + (mkN (fun _ => 1) x.File.Faces : Nat) + (mkN SField.marks x.File.Fields : Nat)) x.File.Methods⟩, k + 1 + 1 + (mkN SConst.marks x.File.Pool : Nat) + 1 + 1 + 1 + (mkN (fun _ => 1) x.File.Faces : Nat) + (mkN SField.marks x.File.Fields : Nat) + (mkN SMethod.marks x.File.Methods : Nat), mkL (fun k _ => k) (fun _ => 1) (k + 1 + 1 + (mkN SConst.marks x.File.Pool : Nat) + 1 + 1 + 1 + (mkN (fun _ => 1) x.File.Faces : Nat) + (mkN SField.marks x.File.Fields : Nat) + (mkN SMethod.marks x.File.Methods : Nat) + 1) x.Faces, k + 1 + 1 + (mkN SConst.marks x.File.Pool : Nat) + 1 + 1 + 1 + (mkN (fun _ => 1) x.File.Faces : Nat) + (mkN SField.marks x.File.Fields : Nat) + (mkN SMethod.marks x.File.Methods : Nat) + 1 + (mkN (fun _ => 1) x.Faces : Nat), k + 1 + 1 + (mkN SConst.marks x.File.Pool : Nat) + 1 + 1 + 1 + (mkN (fun _ => 1) x.File.Faces : Nat) + (mkN SField.marks x.File.Fields : Nat) + (mkN SMethod.marks x.File.Methods : Nat) + 1 + (mkN (fun _ => 1) x.Faces : Nat) + 1, mkL SSlot.mark SSlot.marks (k + 1 + 1 + (mkN SConst.marks x.File.Pool : Nat) + 1 + 1 + 1 + (mkN (fun _ => 1) x.File.Faces : Nat) + (mkN SField.marks x.File.Fields : Nat) + (mkN SMethod.marks x.File.Methods : Nat) + 1 + (mkN (fun _ => 1) x.Faces : Nat) + 1 + 1) x.Slots, mkL SRow.mark SRow.marks (k + 1 + 1 + (mkN SConst.marks x.File.Pool : Nat) + 1 + 1 + 1 + (mkN (fun _ => 1) x.File.Faces : Nat) + (mkN SField.marks x.File.Fields : Nat) + (mkN SMethod.marks x.File.Methods : Nat) + 1 + (mkN (fun _ => 1) x.Faces : Nat) + 1 + 1 + (mkN SSlot.marks x.Slots : Nat)) x.Rows, mkL SVal.mark SVal.marks (k + 1 + 1 + (mkN SConst.marks x.File.Pool : Nat) + 1 + 1 + 1 + (mkN (fun _ => 1) x.File.Faces : Nat) + (mkN SField.marks x.File.Fields : Nat) + (mkN SMethod.marks x.File.Methods : Nat) + 1 + (mkN (fun _ => 1) x.Faces : Nat) + 1 + 1 + (mkN SSlot.marks x.Slots : Nat) + (mkN SRow.marks x.Rows : Nat)) x.Statics⟩
def SCls.marks (x : SCls) : Nat := 1 + 1 + mkN SConst.marks x.File.Pool + 1 + 1 + 1 + mkN (fun _ => 1) x.File.Faces + mkN SField.marks x.File.Fields + mkN SMethod.marks x.File.Methods + 1 + mkN (fun _ => 1) x.Faces + 1 + 1 + mkN SSlot.marks x.Slots + mkN SRow.marks x.Rows + mkN SVal.marks x.Statics
def SWorld.mark (k : Int) (x : SWorld) : SWorld := ⟨mkL SLoader.mark SLoader.marks (k) x.Loaders, mkL SCls.mark SCls.marks (k + (mkN SLoader.marks x.Loaders : Nat)) x.Classes, mkL SKnown.mark SKnown.marks (k + (mkN SLoader.marks x.Loaders : Nat) + (mkN SCls.marks x.Classes : Nat)) x.Known, mkL SBond.mark SBond.marks (k + (mkN SLoader.marks x.Loaders : Nat) + (mkN SCls.marks x.Classes : Nat) + (mkN SKnown.marks x.Known : Nat)) x.Bonds⟩
def SWorld.marks (x : SWorld) : Nat := mkN SLoader.marks x.Loaders + mkN SCls.marks x.Classes + mkN SKnown.marks x.Known + mkN SBond.marks x.Bonds
def SFault.mark (k : Int) (x : SFault) : SFault := ⟨k, mtext (k + 1)⟩
def SFault.marks (x : SFault) : Nat := 1 + 1
def SObj.mark (k : Int) (x : SObj) : SObj := ⟨k, mkL SVal.mark SVal.marks (k + 1) x.Fields⟩
def SObj.marks (x : SObj) : Nat := 1 + mkN SVal.marks x.Fields
def SAct.mark (k : Int) (x : SAct) : SAct := ⟨k, k + 1, k + 1 + 1, mkL SVal.mark SVal.marks (k + 1 + 1 + 1) x.Locals, mkL SVal.mark SVal.marks (k + 1 + 1 + 1 + (mkN SVal.marks x.Locals : Nat)) x.Stack, k + 1 + 1 + 1 + (mkN SVal.marks x.Locals : Nat) + (mkN SVal.marks x.Stack : Nat)⟩
def SAct.marks (x : SAct) : Nat := 1 + 1 + 1 + mkN SVal.marks x.Locals + mkN SVal.marks x.Stack + 1
def SPick.mark (k : Int) (x : SPick) : SPick := ⟨k, k + 1, k + 1 + 1, mtext (k + 1 + 1 + 1)⟩
def SPick.marks (x : SPick) : Nat := 1 + 1 + 1 + 1
def SAnswer.mark (k : Int) (x : SAnswer) : SAnswer := ⟨k, mtext (k + 1), ⟨k + 1 + 1, mtext (k + 1 + 1 + 1)⟩, mkL (fun k _ => k) (fun _ => 1) (k + 1 + 1 + 1 + 1) x.Out, k + 1 + 1 + 1 + 1 + (mkN (fun _ => 1) x.Out : Nat)⟩
def SAnswer.marks (x : SAnswer) : Nat := 1 + 1 + 1 + 1 + mkN (fun _ => 1) x.Out + 1

end Go.Ev
