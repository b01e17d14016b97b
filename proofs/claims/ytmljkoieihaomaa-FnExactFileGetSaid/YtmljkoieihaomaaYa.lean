/- The program's structs, and their rows of cells. -/
import Derived.Test.YtmljkoieihaomaaXf
namespace Go.Ev
set_option linter.unusedVariables false
def rInt (n : Int) : List D := [.int .i64 n]
def rStr (s : List UInt8) : List D := [.str s]
def rBool (b : Bool) : List D := [.bool b]
def rByte (n : UInt8) : List D := [.int .u8 n.toNat]
structure SPair where
  Loader : Int := 0
  Name : List UInt8 := []
  deriving DecidableEq
def SPair.row (x : SPair) : List D := [.int .i64 x.Loader, .str x.Name]
abbrev SPair.d (x : SPair) : D := .agg x.row
@[simp] theorem SPair.len (x : SPair) : x.row.length = 2 := rfl
def SPair.shp : List Shp := [.int .i64, .str]
def SPair.wf (x : SPair) : Prop := i64 x.Loader ∧ x.Name.length ≤ 140737488351232
@[simp] theorem SPair.whole (x : SPair) : x.row.take 2 = x.row := rfl
@[simp] theorem SPair.isCell (x : SPair) : x.row.all D.isCell = true := rfl
@[simp] theorem SPair.read (x : SPair) (n : Nat) (H : Heap) : optAll (readT true (n + 1) H) x.row = some x.row := by simp [SPair.row]
@[simp] theorem SPair.readD (x : SPair) (H : Heap) : readT true depth H (.agg x.row) = some (.agg x.row) := by rw [readT_agg9, SPair.read x 7]; rfl
@[simp] theorem SPair.kill (x : SPair) (H K : Heap) : killT depth H (.agg x.row) K = K := rfl
@[simp] theorem SPair.readF (x : SPair) (l : Bool) (n : Nat) (H : Heap) : optAll (readT l n H) x.row = some x.row := by simp [SPair.row]
@[simp] theorem SPair.readFD (x : SPair) (l : Bool) (H : Heap) : readT l depth H (.agg x.row) = some (.agg x.row) := by rw [readT_agg9, SPair.readF]; rfl
@[simp] theorem SPair.readRows (xs : List SPair) (l : Bool) (n : Nat) (H : Heap) : optAll (optAll (readT l n H)) (xs.map SPair.row) = some (xs.map SPair.row) := optAll_self fun r hr => by
  obtain ⟨x, _, rfl⟩ := List.mem_map.mp hr
  simp
theorem SPair.scalar (l : List SPair) : scalarRows (l.map SPair.row) := by
  intro r hr
  obtain ⟨x, _, rfl⟩ := List.mem_map.mp hr
  rfl
@[simp] theorem SPair.lay (xs : List SPair) (n : Nat) (H : Heap) : layT (n + 1) (.list (xs.map SPair.row)) H = (.sl H.length 0 xs.length, H ++ [some (xs.map SPair.row)]) := by rw [layT_list (SPair.scalar xs)]; simp
theorem SPair.plain (l : List SPair) : plainRows (l.map SPair.row) := by
  intro r hr
  obtain ⟨x, _, rfl⟩ := List.mem_map.mp hr
  intro l n H
  simp
structure SMark where
  Tag : Int := 0
  Name : List UInt8 := []
  deriving DecidableEq
def SMark.row (x : SMark) : List D := [.int .i64 x.Tag, .str x.Name]
abbrev SMark.d (x : SMark) : D := .agg x.row
@[simp] theorem SMark.len (x : SMark) : x.row.length = 2 := rfl
def SMark.shp : List Shp := [.int .i64, .str]
def SMark.wf (x : SMark) : Prop := i64 x.Tag ∧ x.Name.length ≤ 140737488351232
@[simp] theorem SMark.whole (x : SMark) : x.row.take 2 = x.row := rfl
@[simp] theorem SMark.isCell (x : SMark) : x.row.all D.isCell = true := rfl
@[simp] theorem SMark.read (x : SMark) (n : Nat) (H : Heap) : optAll (readT true (n + 1) H) x.row = some x.row := by simp [SMark.row]
@[simp] theorem SMark.readD (x : SMark) (H : Heap) : readT true depth H (.agg x.row) = some (.agg x.row) := by rw [readT_agg9, SMark.read x 7]; rfl
@[simp] theorem SMark.kill (x : SMark) (H K : Heap) : killT depth H (.agg x.row) K = K := rfl
@[simp] theorem SMark.readF (x : SMark) (l : Bool) (n : Nat) (H : Heap) : optAll (readT l n H) x.row = some x.row := by simp [SMark.row]
@[simp] theorem SMark.readFD (x : SMark) (l : Bool) (H : Heap) : readT l depth H (.agg x.row) = some (.agg x.row) := by rw [readT_agg9, SMark.readF]; rfl
@[simp] theorem SMark.readRows (xs : List SMark) (l : Bool) (n : Nat) (H : Heap) : optAll (optAll (readT l n H)) (xs.map SMark.row) = some (xs.map SMark.row) := optAll_self fun r hr => by
  obtain ⟨x, _, rfl⟩ := List.mem_map.mp hr
  simp
theorem SMark.scalar (l : List SMark) : scalarRows (l.map SMark.row) := by
  intro r hr
  obtain ⟨x, _, rfl⟩ := List.mem_map.mp hr
  rfl
@[simp] theorem SMark.lay (xs : List SMark) (n : Nat) (H : Heap) : layT (n + 1) (.list (xs.map SMark.row)) H = (.sl H.length 0 xs.length, H ++ [some (xs.map SMark.row)]) := by rw [layT_list (SMark.scalar xs)]; simp
theorem SMark.plain (l : List SMark) : plainRows (l.map SMark.row) := by
  intro r hr
  obtain ⟨x, _, rfl⟩ := List.mem_map.mp hr
  intro l n H
  simp
structure SKnow where
  At : Int := 0
  Locals : List SMark := []
  Stack : List SMark := []
  deriving DecidableEq
def SKnow.row (x : SKnow) : List D := [.int .i64 x.At, .list (x.Locals.map SMark.row), .list (x.Stack.map SMark.row)]
abbrev SKnow.d (x : SKnow) : D := .agg x.row
@[simp] theorem SKnow.len (x : SKnow) : x.row.length = 3 := rfl
def SKnow.shp : List Shp := [.int .i64, .list [.int .i64, .str], .list [.int .i64, .str]]
def SKnow.wf (x : SKnow) : Prop := i64 x.At ∧ (x.Locals.length ≤ 140737488351232 ∧ ∀ y ∈ x.Locals, y.wf) ∧ (x.Stack.length ≤ 140737488351232 ∧ ∀ y ∈ x.Stack, y.wf)
@[simp] theorem SKnow.whole (x : SKnow) : x.row.take 3 = x.row := rfl
@[simp] theorem SKnow.isCell (x : SKnow) : x.row.all D.isCell = true := rfl
@[simp] theorem SKnow.read (x : SKnow) (n : Nat) (H : Heap) : optAll (readT true (n + 1) H) x.row = some x.row := by simp [SKnow.row]
@[simp] theorem SKnow.readD (x : SKnow) (H : Heap) : readT true depth H (.agg x.row) = some (.agg x.row) := by rw [readT_agg9, SKnow.read x 7]; rfl
@[simp] theorem SKnow.kill (x : SKnow) (H K : Heap) : killT depth H (.agg x.row) K = K := rfl
structure SConst where
  Kind : Int := 0
  Text : List UInt8 := []
  A : Int := 0
  B : Int := 0
  deriving DecidableEq
def SConst.row (x : SConst) : List D := [.int .i64 x.Kind, .str x.Text, .int .i64 x.A, .int .i64 x.B]
abbrev SConst.d (x : SConst) : D := .agg x.row
@[simp] theorem SConst.len (x : SConst) : x.row.length = 4 := rfl
def SConst.shp : List Shp := [.int .i64, .str, .int .i64, .int .i64]
def SConst.wf (x : SConst) : Prop := i64 x.Kind ∧ x.Text.length ≤ 140737488351232 ∧ i64 x.A ∧ i64 x.B
@[simp] theorem SConst.whole (x : SConst) : x.row.take 4 = x.row := rfl
@[simp] theorem SConst.isCell (x : SConst) : x.row.all D.isCell = true := rfl
@[simp] theorem SConst.read (x : SConst) (n : Nat) (H : Heap) : optAll (readT true (n + 1) H) x.row = some x.row := by simp [SConst.row]
@[simp] theorem SConst.readD (x : SConst) (H : Heap) : readT true depth H (.agg x.row) = some (.agg x.row) := by rw [readT_agg9, SConst.read x 7]; rfl
@[simp] theorem SConst.kill (x : SConst) (H K : Heap) : killT depth H (.agg x.row) K = K := rfl
@[simp] theorem SConst.readF (x : SConst) (l : Bool) (n : Nat) (H : Heap) : optAll (readT l n H) x.row = some x.row := by simp [SConst.row]
@[simp] theorem SConst.readFD (x : SConst) (l : Bool) (H : Heap) : readT l depth H (.agg x.row) = some (.agg x.row) := by rw [readT_agg9, SConst.readF]; rfl
@[simp] theorem SConst.readRows (xs : List SConst) (l : Bool) (n : Nat) (H : Heap) : optAll (optAll (readT l n H)) (xs.map SConst.row) = some (xs.map SConst.row) := optAll_self fun r hr => by
  obtain ⟨x, _, rfl⟩ := List.mem_map.mp hr
  simp
theorem SConst.scalar (l : List SConst) : scalarRows (l.map SConst.row) := by
  intro r hr
  obtain ⟨x, _, rfl⟩ := List.mem_map.mp hr
  rfl
@[simp] theorem SConst.lay (xs : List SConst) (n : Nat) (H : Heap) : layT (n + 1) (.list (xs.map SConst.row)) H = (.sl H.length 0 xs.length, H ++ [some (xs.map SConst.row)]) := by rw [layT_list (SConst.scalar xs)]; simp
theorem SConst.plain (l : List SConst) : plainRows (l.map SConst.row) := by
  intro r hr
  obtain ⟨x, _, rfl⟩ := List.mem_map.mp hr
  intro l n H
  simp
structure SField where
  Flags : Int := 0
  Name : Int := 0
  Typ : Int := 0
  deriving DecidableEq
def SField.row (x : SField) : List D := [.int .i64 x.Flags, .int .i64 x.Name, .int .i64 x.Typ]
abbrev SField.d (x : SField) : D := .agg x.row
@[simp] theorem SField.len (x : SField) : x.row.length = 3 := rfl
def SField.shp : List Shp := [.int .i64, .int .i64, .int .i64]
def SField.wf (x : SField) : Prop := i64 x.Flags ∧ i64 x.Name ∧ i64 x.Typ
@[simp] theorem SField.whole (x : SField) : x.row.take 3 = x.row := rfl
@[simp] theorem SField.isCell (x : SField) : x.row.all D.isCell = true := rfl
@[simp] theorem SField.read (x : SField) (n : Nat) (H : Heap) : optAll (readT true (n + 1) H) x.row = some x.row := by simp [SField.row]
@[simp] theorem SField.readD (x : SField) (H : Heap) : readT true depth H (.agg x.row) = some (.agg x.row) := by rw [readT_agg9, SField.read x 7]; rfl
@[simp] theorem SField.kill (x : SField) (H K : Heap) : killT depth H (.agg x.row) K = K := rfl
@[simp] theorem SField.readF (x : SField) (l : Bool) (n : Nat) (H : Heap) : optAll (readT l n H) x.row = some x.row := by simp [SField.row]
@[simp] theorem SField.readFD (x : SField) (l : Bool) (H : Heap) : readT l depth H (.agg x.row) = some (.agg x.row) := by rw [readT_agg9, SField.readF]; rfl
@[simp] theorem SField.readRows (xs : List SField) (l : Bool) (n : Nat) (H : Heap) : optAll (optAll (readT l n H)) (xs.map SField.row) = some (xs.map SField.row) := optAll_self fun r hr => by
  obtain ⟨x, _, rfl⟩ := List.mem_map.mp hr
  simp
theorem SField.scalar (l : List SField) : scalarRows (l.map SField.row) := by
  intro r hr
  obtain ⟨x, _, rfl⟩ := List.mem_map.mp hr
  rfl
@[simp] theorem SField.lay (xs : List SField) (n : Nat) (H : Heap) : layT (n + 1) (.list (xs.map SField.row)) H = (.sl H.length 0 xs.length, H ++ [some (xs.map SField.row)]) := by rw [layT_list (SField.scalar xs)]; simp
theorem SField.plain (l : List SField) : plainRows (l.map SField.row) := by
  intro r hr
  obtain ⟨x, _, rfl⟩ := List.mem_map.mp hr
  intro l n H
  simp
structure STrap where
  From : Int := 0
  To : Int := 0
  At : Int := 0
  Class : Int := 0
  deriving DecidableEq
def STrap.row (x : STrap) : List D := [.int .i64 x.From, .int .i64 x.To, .int .i64 x.At, .int .i64 x.Class]
abbrev STrap.d (x : STrap) : D := .agg x.row
@[simp] theorem STrap.len (x : STrap) : x.row.length = 4 := rfl
def STrap.shp : List Shp := [.int .i64, .int .i64, .int .i64, .int .i64]
def STrap.wf (x : STrap) : Prop := i64 x.From ∧ i64 x.To ∧ i64 x.At ∧ i64 x.Class
@[simp] theorem STrap.whole (x : STrap) : x.row.take 4 = x.row := rfl
@[simp] theorem STrap.isCell (x : STrap) : x.row.all D.isCell = true := rfl
@[simp] theorem STrap.read (x : STrap) (n : Nat) (H : Heap) : optAll (readT true (n + 1) H) x.row = some x.row := by simp [STrap.row]
@[simp] theorem STrap.readD (x : STrap) (H : Heap) : readT true depth H (.agg x.row) = some (.agg x.row) := by rw [readT_agg9, STrap.read x 7]; rfl
@[simp] theorem STrap.kill (x : STrap) (H K : Heap) : killT depth H (.agg x.row) K = K := rfl
@[simp] theorem STrap.readF (x : STrap) (l : Bool) (n : Nat) (H : Heap) : optAll (readT l n H) x.row = some x.row := by simp [STrap.row]
@[simp] theorem STrap.readFD (x : STrap) (l : Bool) (H : Heap) : readT l depth H (.agg x.row) = some (.agg x.row) := by rw [readT_agg9, STrap.readF]; rfl
@[simp] theorem STrap.readRows (xs : List STrap) (l : Bool) (n : Nat) (H : Heap) : optAll (optAll (readT l n H)) (xs.map STrap.row) = some (xs.map STrap.row) := optAll_self fun r hr => by
  obtain ⟨x, _, rfl⟩ := List.mem_map.mp hr
  simp
theorem STrap.scalar (l : List STrap) : scalarRows (l.map STrap.row) := by
  intro r hr
  obtain ⟨x, _, rfl⟩ := List.mem_map.mp hr
  rfl
@[simp] theorem STrap.lay (xs : List STrap) (n : Nat) (H : Heap) : layT (n + 1) (.list (xs.map STrap.row)) H = (.sl H.length 0 xs.length, H ++ [some (xs.map STrap.row)]) := by rw [layT_list (STrap.scalar xs)]; simp
theorem STrap.plain (l : List STrap) : plainRows (l.map STrap.row) := by
  intro r hr
  obtain ⟨x, _, rfl⟩ := List.mem_map.mp hr
  intro l n H
  simp
structure SKind where
  Tag : Int := 0
  Class : Int := 0
  deriving DecidableEq
def SKind.row (x : SKind) : List D := [.int .i64 x.Tag, .int .i64 x.Class]
abbrev SKind.d (x : SKind) : D := .agg x.row
@[simp] theorem SKind.len (x : SKind) : x.row.length = 2 := rfl
def SKind.shp : List Shp := [.int .i64, .int .i64]
def SKind.wf (x : SKind) : Prop := i64 x.Tag ∧ i64 x.Class
@[simp] theorem SKind.whole (x : SKind) : x.row.take 2 = x.row := rfl
@[simp] theorem SKind.isCell (x : SKind) : x.row.all D.isCell = true := rfl
@[simp] theorem SKind.read (x : SKind) (n : Nat) (H : Heap) : optAll (readT true (n + 1) H) x.row = some x.row := by simp [SKind.row]
@[simp] theorem SKind.readD (x : SKind) (H : Heap) : readT true depth H (.agg x.row) = some (.agg x.row) := by rw [readT_agg9, SKind.read x 7]; rfl
@[simp] theorem SKind.kill (x : SKind) (H K : Heap) : killT depth H (.agg x.row) K = K := rfl
@[simp] theorem SKind.readF (x : SKind) (l : Bool) (n : Nat) (H : Heap) : optAll (readT l n H) x.row = some x.row := by simp [SKind.row]
@[simp] theorem SKind.readFD (x : SKind) (l : Bool) (H : Heap) : readT l depth H (.agg x.row) = some (.agg x.row) := by rw [readT_agg9, SKind.readF]; rfl
@[simp] theorem SKind.readRows (xs : List SKind) (l : Bool) (n : Nat) (H : Heap) : optAll (optAll (readT l n H)) (xs.map SKind.row) = some (xs.map SKind.row) := optAll_self fun r hr => by
  obtain ⟨x, _, rfl⟩ := List.mem_map.mp hr
  simp
theorem SKind.scalar (l : List SKind) : scalarRows (l.map SKind.row) := by
  intro r hr
  obtain ⟨x, _, rfl⟩ := List.mem_map.mp hr
  rfl
@[simp] theorem SKind.lay (xs : List SKind) (n : Nat) (H : Heap) : layT (n + 1) (.list (xs.map SKind.row)) H = (.sl H.length 0 xs.length, H ++ [some (xs.map SKind.row)]) := by rw [layT_list (SKind.scalar xs)]; simp
theorem SKind.plain (l : List SKind) : plainRows (l.map SKind.row) := by
  intro r hr
  obtain ⟨x, _, rfl⟩ := List.mem_map.mp hr
  intro l n H
  simp
structure SFrame where
  At : Int := 0
  Locals : List SKind := []
  Stack : List SKind := []
  deriving DecidableEq
def SFrame.row (x : SFrame) : List D := [.int .i64 x.At, .list (x.Locals.map SKind.row), .list (x.Stack.map SKind.row)]
abbrev SFrame.d (x : SFrame) : D := .agg x.row
@[simp] theorem SFrame.len (x : SFrame) : x.row.length = 3 := rfl
def SFrame.shp : List Shp := [.int .i64, .list [.int .i64, .int .i64], .list [.int .i64, .int .i64]]
def SFrame.wf (x : SFrame) : Prop := i64 x.At ∧ (x.Locals.length ≤ 140737488351232 ∧ ∀ y ∈ x.Locals, y.wf) ∧ (x.Stack.length ≤ 140737488351232 ∧ ∀ y ∈ x.Stack, y.wf)
@[simp] theorem SFrame.whole (x : SFrame) : x.row.take 3 = x.row := rfl
@[simp] theorem SFrame.isCell (x : SFrame) : x.row.all D.isCell = true := rfl
@[simp] theorem SFrame.read (x : SFrame) (n : Nat) (H : Heap) : optAll (readT true (n + 1) H) x.row = some x.row := by simp [SFrame.row]
@[simp] theorem SFrame.readD (x : SFrame) (H : Heap) : readT true depth H (.agg x.row) = some (.agg x.row) := by rw [readT_agg9, SFrame.read x 7]; rfl
@[simp] theorem SFrame.kill (x : SFrame) (H K : Heap) : killT depth H (.agg x.row) K = K := rfl
structure SMethod where
  Flags : Int := 0
  Name : Int := 0
  Desc : Int := 0
  Deep : Int := 0
  Locals : Int := 0
  Code : List UInt8 := []
  Traps : List STrap := []
  Frames : List SFrame := []
  deriving DecidableEq
def SMethod.row (x : SMethod) : List D := [.int .i64 x.Flags, .int .i64 x.Name, .int .i64 x.Desc, .int .i64 x.Deep, .int .i64 x.Locals, .str x.Code, .list (x.Traps.map STrap.row), .list (x.Frames.map SFrame.row)]
abbrev SMethod.d (x : SMethod) : D := .agg x.row
@[simp] theorem SMethod.len (x : SMethod) : x.row.length = 8 := rfl
def SMethod.shp : List Shp := [.int .i64, .int .i64, .int .i64, .int .i64, .int .i64, .str, .list [.int .i64, .int .i64, .int .i64, .int .i64], .list [.int .i64, .list [.int .i64, .int .i64], .list [.int .i64, .int .i64]]]
def SMethod.wf (x : SMethod) : Prop := i64 x.Flags ∧ i64 x.Name ∧ i64 x.Desc ∧ i64 x.Deep ∧ i64 x.Locals ∧ x.Code.length ≤ 140737488351232 ∧ (x.Traps.length ≤ 140737488351232 ∧ ∀ y ∈ x.Traps, y.wf) ∧ (x.Frames.length ≤ 140737488351232 ∧ ∀ y ∈ x.Frames, y.wf)
@[simp] theorem SMethod.whole (x : SMethod) : x.row.take 8 = x.row := rfl
@[simp] theorem SMethod.isCell (x : SMethod) : x.row.all D.isCell = true := rfl
@[simp] theorem SMethod.read (x : SMethod) (n : Nat) (H : Heap) : optAll (readT true (n + 1) H) x.row = some x.row := by simp [SMethod.row]
@[simp] theorem SMethod.readD (x : SMethod) (H : Heap) : readT true depth H (.agg x.row) = some (.agg x.row) := by rw [readT_agg9, SMethod.read x 7]; rfl
@[simp] theorem SMethod.kill (x : SMethod) (H K : Heap) : killT depth H (.agg x.row) K = K := rfl
structure SClass where
  Pool : List SConst := []
  Flags : Int := 0
  Name : Int := 0
  Super : Int := 0
  Faces : List Int := []
  Fields : List SField := []
  Methods : List SMethod := []
  deriving DecidableEq
def SClass.row (x : SClass) : List D := [.list (x.Pool.map SConst.row), .int .i64 x.Flags, .int .i64 x.Name, .int .i64 x.Super, .list (x.Faces.map rInt), .list (x.Fields.map SField.row), .list (x.Methods.map SMethod.row)]
abbrev SClass.d (x : SClass) : D := .agg x.row
@[simp] theorem SClass.len (x : SClass) : x.row.length = 7 := rfl
def SClass.shp : List Shp := [.list [.int .i64, .str, .int .i64, .int .i64], .int .i64, .int .i64, .int .i64, .list [.int .i64], .list [.int .i64, .int .i64, .int .i64], .list [.int .i64, .int .i64, .int .i64, .int .i64, .int .i64, .str, .list [.int .i64, .int .i64, .int .i64, .int .i64], .list [.int .i64, .list [.int .i64, .int .i64], .list [.int .i64, .int .i64]]]]
def SClass.wf (x : SClass) : Prop := (x.Pool.length ≤ 140737488351232 ∧ ∀ y ∈ x.Pool, y.wf) ∧ i64 x.Flags ∧ i64 x.Name ∧ i64 x.Super ∧ (x.Faces.length ≤ 140737488351232 ∧ ∀ y ∈ x.Faces, i64 y) ∧ (x.Fields.length ≤ 140737488351232 ∧ ∀ y ∈ x.Fields, y.wf) ∧ (x.Methods.length ≤ 140737488351232 ∧ ∀ y ∈ x.Methods, y.wf)
@[simp] theorem SClass.whole (x : SClass) : x.row.take 7 = x.row := rfl
@[simp] theorem SClass.isCell (x : SClass) : x.row.all D.isCell = true := rfl
@[simp] theorem SClass.read (x : SClass) (n : Nat) (H : Heap) : optAll (readT true (n + 1) H) x.row = some x.row := by simp [SClass.row]
@[simp] theorem SClass.readD (x : SClass) (H : Heap) : readT true depth H (.agg x.row) = some (.agg x.row) := by rw [readT_agg9, SClass.read x 7]; rfl
@[simp] theorem SClass.kill (x : SClass) (H K : Heap) : killT depth H (.agg x.row) K = K := rfl
structure SIns where
  At : Int := 0
  Op : Int := 0
  Num : Int := 0
  deriving DecidableEq
def SIns.row (x : SIns) : List D := [.int .i64 x.At, .int .i64 x.Op, .int .i64 x.Num]
abbrev SIns.d (x : SIns) : D := .agg x.row
@[simp] theorem SIns.len (x : SIns) : x.row.length = 3 := rfl
def SIns.shp : List Shp := [.int .i64, .int .i64, .int .i64]
def SIns.wf (x : SIns) : Prop := i64 x.At ∧ i64 x.Op ∧ i64 x.Num
@[simp] theorem SIns.whole (x : SIns) : x.row.take 3 = x.row := rfl
@[simp] theorem SIns.isCell (x : SIns) : x.row.all D.isCell = true := rfl
@[simp] theorem SIns.read (x : SIns) (n : Nat) (H : Heap) : optAll (readT true (n + 1) H) x.row = some x.row := by simp [SIns.row]
@[simp] theorem SIns.readD (x : SIns) (H : Heap) : readT true depth H (.agg x.row) = some (.agg x.row) := by rw [readT_agg9, SIns.read x 7]; rfl
@[simp] theorem SIns.kill (x : SIns) (H K : Heap) : killT depth H (.agg x.row) K = K := rfl
@[simp] theorem SIns.readF (x : SIns) (l : Bool) (n : Nat) (H : Heap) : optAll (readT l n H) x.row = some x.row := by simp [SIns.row]
@[simp] theorem SIns.readFD (x : SIns) (l : Bool) (H : Heap) : readT l depth H (.agg x.row) = some (.agg x.row) := by rw [readT_agg9, SIns.readF]; rfl
@[simp] theorem SIns.readRows (xs : List SIns) (l : Bool) (n : Nat) (H : Heap) : optAll (optAll (readT l n H)) (xs.map SIns.row) = some (xs.map SIns.row) := optAll_self fun r hr => by
  obtain ⟨x, _, rfl⟩ := List.mem_map.mp hr
  simp
theorem SIns.scalar (l : List SIns) : scalarRows (l.map SIns.row) := by
  intro r hr
  obtain ⟨x, _, rfl⟩ := List.mem_map.mp hr
  rfl
@[simp] theorem SIns.lay (xs : List SIns) (n : Nat) (H : Heap) : layT (n + 1) (.list (xs.map SIns.row)) H = (.sl H.length 0 xs.length, H ++ [some (xs.map SIns.row)]) := by rw [layT_list (SIns.scalar xs)]; simp
theorem SIns.plain (l : List SIns) : plainRows (l.map SIns.row) := by
  intro r hr
  obtain ⟨x, _, rfl⟩ := List.mem_map.mp hr
  intro l n H
  simp
structure SDeep where
  c : SClass := {}
  m : SMethod := {}
  ops : List SIns := []
  out : List Int := []
  bad : Bool := false
  deriving DecidableEq
def SDeep.row (x : SDeep) : List D := [.list (x.c.Pool.map SConst.row), .int .i64 x.c.Flags, .int .i64 x.c.Name, .int .i64 x.c.Super, .list (x.c.Faces.map rInt), .list (x.c.Fields.map SField.row), .list (x.c.Methods.map SMethod.row), .int .i64 x.m.Flags, .int .i64 x.m.Name, .int .i64 x.m.Desc, .int .i64 x.m.Deep, .int .i64 x.m.Locals, .str x.m.Code, .list (x.m.Traps.map STrap.row), .list (x.m.Frames.map SFrame.row), .list (x.ops.map SIns.row), .list (x.out.map rInt), .bool x.bad]
abbrev SDeep.d (x : SDeep) : D := .agg x.row
@[simp] theorem SDeep.len (x : SDeep) : x.row.length = 18 := rfl
def SDeep.shp : List Shp := [.list [.int .i64, .str, .int .i64, .int .i64], .int .i64, .int .i64, .int .i64, .list [.int .i64], .list [.int .i64, .int .i64, .int .i64], .list [.int .i64, .int .i64, .int .i64, .int .i64, .int .i64, .str, .list [.int .i64, .int .i64, .int .i64, .int .i64], .list [.int .i64, .list [.int .i64, .int .i64], .list [.int .i64, .int .i64]]], .int .i64, .int .i64, .int .i64, .int .i64, .int .i64, .str, .list [.int .i64, .int .i64, .int .i64, .int .i64], .list [.int .i64, .list [.int .i64, .int .i64], .list [.int .i64, .int .i64]], .list [.int .i64, .int .i64, .int .i64], .list [.int .i64], .bool]
def SDeep.wf (x : SDeep) : Prop := (x.c.Pool.length ≤ 140737488351232 ∧ ∀ y ∈ x.c.Pool, y.wf) ∧ i64 x.c.Flags ∧ i64 x.c.Name ∧ i64 x.c.Super ∧ (x.c.Faces.length ≤ 140737488351232 ∧ ∀ y ∈ x.c.Faces, i64 y) ∧ (x.c.Fields.length ≤ 140737488351232 ∧ ∀ y ∈ x.c.Fields, y.wf) ∧ (x.c.Methods.length ≤ 140737488351232 ∧ ∀ y ∈ x.c.Methods, y.wf) ∧ i64 x.m.Flags ∧ i64 x.m.Name ∧ i64 x.m.Desc ∧ i64 x.m.Deep ∧ i64 x.m.Locals ∧ x.m.Code.length ≤ 140737488351232 ∧ (x.m.Traps.length ≤ 140737488351232 ∧ ∀ y ∈ x.m.Traps, y.wf) ∧ (x.m.Frames.length ≤ 140737488351232 ∧ ∀ y ∈ x.m.Frames, y.wf) ∧ (x.ops.length ≤ 140737488351232 ∧ ∀ y ∈ x.ops, y.wf) ∧ (x.out.length ≤ 140737488351232 ∧ ∀ y ∈ x.out, i64 y)
@[simp] theorem SDeep.whole (x : SDeep) : x.row.take 18 = x.row := rfl
@[simp] theorem SDeep.isCell (x : SDeep) : x.row.all D.isCell = true := rfl
@[simp] theorem SDeep.read (x : SDeep) (n : Nat) (H : Heap) : optAll (readT true (n + 1) H) x.row = some x.row := by simp [SDeep.row]
@[simp] theorem SDeep.readD (x : SDeep) (H : Heap) : readT true depth H (.agg x.row) = some (.agg x.row) := by rw [readT_agg9, SDeep.read x 7]; rfl
@[simp] theorem SDeep.kill (x : SDeep) (H K : Heap) : killT depth H (.agg x.row) K = K := rfl
structure SLine where
  Loader : Int := 0
  Class : List UInt8 := []
  Method : List UInt8 := []
  At : Int := 0
  Op : Int := 0
  Deep : Int := 0
  deriving DecidableEq
def SLine.row (x : SLine) : List D := [.int .i64 x.Loader, .str x.Class, .str x.Method, .int .i64 x.At, .int .i64 x.Op, .int .i64 x.Deep]
abbrev SLine.d (x : SLine) : D := .agg x.row
@[simp] theorem SLine.len (x : SLine) : x.row.length = 6 := rfl
def SLine.shp : List Shp := [.int .i64, .str, .str, .int .i64, .int .i64, .int .i64]
def SLine.wf (x : SLine) : Prop := i64 x.Loader ∧ x.Class.length ≤ 140737488351232 ∧ x.Method.length ≤ 140737488351232 ∧ i64 x.At ∧ i64 x.Op ∧ i64 x.Deep
@[simp] theorem SLine.whole (x : SLine) : x.row.take 6 = x.row := rfl
@[simp] theorem SLine.isCell (x : SLine) : x.row.all D.isCell = true := rfl
@[simp] theorem SLine.read (x : SLine) (n : Nat) (H : Heap) : optAll (readT true (n + 1) H) x.row = some x.row := by simp [SLine.row]
@[simp] theorem SLine.readD (x : SLine) (H : Heap) : readT true depth H (.agg x.row) = some (.agg x.row) := by rw [readT_agg9, SLine.read x 7]; rfl
@[simp] theorem SLine.kill (x : SLine) (H K : Heap) : killT depth H (.agg x.row) K = K := rfl
@[simp] theorem SLine.readF (x : SLine) (l : Bool) (n : Nat) (H : Heap) : optAll (readT l n H) x.row = some x.row := by simp [SLine.row]
@[simp] theorem SLine.readFD (x : SLine) (l : Bool) (H : Heap) : readT l depth H (.agg x.row) = some (.agg x.row) := by rw [readT_agg9, SLine.readF]; rfl
@[simp] theorem SLine.readRows (xs : List SLine) (l : Bool) (n : Nat) (H : Heap) : optAll (optAll (readT l n H)) (xs.map SLine.row) = some (xs.map SLine.row) := optAll_self fun r hr => by
  obtain ⟨x, _, rfl⟩ := List.mem_map.mp hr
  simp
theorem SLine.scalar (l : List SLine) : scalarRows (l.map SLine.row) := by
  intro r hr
  obtain ⟨x, _, rfl⟩ := List.mem_map.mp hr
  rfl
@[simp] theorem SLine.lay (xs : List SLine) (n : Nat) (H : Heap) : layT (n + 1) (.list (xs.map SLine.row)) H = (.sl H.length 0 xs.length, H ++ [some (xs.map SLine.row)]) := by rw [layT_list (SLine.scalar xs)]; simp
theorem SLine.plain (l : List SLine) : plainRows (l.map SLine.row) := by
  intro r hr
  obtain ⟨x, _, rfl⟩ := List.mem_map.mp hr
  intro l n H
  simp
structure STaker where
  s : List UInt8 := []
  bad : Bool := false
  deriving DecidableEq
def STaker.row (x : STaker) : List D := [.str x.s, .bool x.bad]
abbrev STaker.d (x : STaker) : D := .agg x.row
@[simp] theorem STaker.len (x : STaker) : x.row.length = 2 := rfl
def STaker.shp : List Shp := [.str, .bool]
def STaker.wf (x : STaker) : Prop := x.s.length ≤ 140737488351232
@[simp] theorem STaker.whole (x : STaker) : x.row.take 2 = x.row := rfl
@[simp] theorem STaker.isCell (x : STaker) : x.row.all D.isCell = true := rfl
@[simp] theorem STaker.read (x : STaker) (n : Nat) (H : Heap) : optAll (readT true (n + 1) H) x.row = some x.row := by simp [STaker.row]
@[simp] theorem STaker.readD (x : STaker) (H : Heap) : readT true depth H (.agg x.row) = some (.agg x.row) := by rw [readT_agg9, STaker.read x 7]; rfl
@[simp] theorem STaker.kill (x : STaker) (H K : Heap) : killT depth H (.agg x.row) K = K := rfl
@[simp] theorem STaker.readF (x : STaker) (l : Bool) (n : Nat) (H : Heap) : optAll (readT l n H) x.row = some x.row := by simp [STaker.row]
@[simp] theorem STaker.readFD (x : STaker) (l : Bool) (H : Heap) : readT l depth H (.agg x.row) = some (.agg x.row) := by rw [readT_agg9, STaker.readF]; rfl
@[simp] theorem STaker.readRows (xs : List STaker) (l : Bool) (n : Nat) (H : Heap) : optAll (optAll (readT l n H)) (xs.map STaker.row) = some (xs.map STaker.row) := optAll_self fun r hr => by
  obtain ⟨x, _, rfl⟩ := List.mem_map.mp hr
  simp
theorem STaker.scalar (l : List STaker) : scalarRows (l.map STaker.row) := by
  intro r hr
  obtain ⟨x, _, rfl⟩ := List.mem_map.mp hr
  rfl
@[simp] theorem STaker.lay (xs : List STaker) (n : Nat) (H : Heap) : layT (n + 1) (.list (xs.map STaker.row)) H = (.sl H.length 0 xs.length, H ++ [some (xs.map STaker.row)]) := by rw [layT_list (STaker.scalar xs)]; simp
theorem STaker.plain (l : List STaker) : plainRows (l.map STaker.row) := by
  intro r hr
  obtain ⟨x, _, rfl⟩ := List.mem_map.mp hr
  intro l n H
  simp
structure SFile where
  Name : List UInt8 := []
  Text : List UInt8 := []
  deriving DecidableEq
def SFile.row (x : SFile) : List D := [.str x.Name, .str x.Text]
abbrev SFile.d (x : SFile) : D := .agg x.row
@[simp] theorem SFile.len (x : SFile) : x.row.length = 2 := rfl
def SFile.shp : List Shp := [.str, .str]
def SFile.wf (x : SFile) : Prop := x.Name.length ≤ 140737488351232 ∧ x.Text.length ≤ 140737488351232
@[simp] theorem SFile.whole (x : SFile) : x.row.take 2 = x.row := rfl
@[simp] theorem SFile.isCell (x : SFile) : x.row.all D.isCell = true := rfl
@[simp] theorem SFile.read (x : SFile) (n : Nat) (H : Heap) : optAll (readT true (n + 1) H) x.row = some x.row := by simp [SFile.row]
@[simp] theorem SFile.readD (x : SFile) (H : Heap) : readT true depth H (.agg x.row) = some (.agg x.row) := by rw [readT_agg9, SFile.read x 7]; rfl
@[simp] theorem SFile.kill (x : SFile) (H K : Heap) : killT depth H (.agg x.row) K = K := rfl
@[simp] theorem SFile.readF (x : SFile) (l : Bool) (n : Nat) (H : Heap) : optAll (readT l n H) x.row = some x.row := by simp [SFile.row]
@[simp] theorem SFile.readFD (x : SFile) (l : Bool) (H : Heap) : readT l depth H (.agg x.row) = some (.agg x.row) := by rw [readT_agg9, SFile.readF]; rfl
@[simp] theorem SFile.readRows (xs : List SFile) (l : Bool) (n : Nat) (H : Heap) : optAll (optAll (readT l n H)) (xs.map SFile.row) = some (xs.map SFile.row) := optAll_self fun r hr => by
  obtain ⟨x, _, rfl⟩ := List.mem_map.mp hr
  simp
theorem SFile.scalar (l : List SFile) : scalarRows (l.map SFile.row) := by
  intro r hr
  obtain ⟨x, _, rfl⟩ := List.mem_map.mp hr
  rfl
@[simp] theorem SFile.lay (xs : List SFile) (n : Nat) (H : Heap) : layT (n + 1) (.list (xs.map SFile.row)) H = (.sl H.length 0 xs.length, H ++ [some (xs.map SFile.row)]) := by rw [layT_list (SFile.scalar xs)]; simp
theorem SFile.plain (l : List SFile) : plainRows (l.map SFile.row) := by
  intro r hr
  obtain ⟨x, _, rfl⟩ := List.mem_map.mp hr
  intro l n H
  simp
structure SWay where
  Name : List UInt8 := []
  To : Int := 0
  deriving DecidableEq
def SWay.row (x : SWay) : List D := [.str x.Name, .int .i64 x.To]
abbrev SWay.d (x : SWay) : D := .agg x.row
@[simp] theorem SWay.len (x : SWay) : x.row.length = 2 := rfl
def SWay.shp : List Shp := [.str, .int .i64]
def SWay.wf (x : SWay) : Prop := x.Name.length ≤ 140737488351232 ∧ i64 x.To
@[simp] theorem SWay.whole (x : SWay) : x.row.take 2 = x.row := rfl
@[simp] theorem SWay.isCell (x : SWay) : x.row.all D.isCell = true := rfl
@[simp] theorem SWay.read (x : SWay) (n : Nat) (H : Heap) : optAll (readT true (n + 1) H) x.row = some x.row := by simp [SWay.row]
@[simp] theorem SWay.readD (x : SWay) (H : Heap) : readT true depth H (.agg x.row) = some (.agg x.row) := by rw [readT_agg9, SWay.read x 7]; rfl
@[simp] theorem SWay.kill (x : SWay) (H K : Heap) : killT depth H (.agg x.row) K = K := rfl
@[simp] theorem SWay.readF (x : SWay) (l : Bool) (n : Nat) (H : Heap) : optAll (readT l n H) x.row = some x.row := by simp [SWay.row]
@[simp] theorem SWay.readFD (x : SWay) (l : Bool) (H : Heap) : readT l depth H (.agg x.row) = some (.agg x.row) := by rw [readT_agg9, SWay.readF]; rfl
@[simp] theorem SWay.readRows (xs : List SWay) (l : Bool) (n : Nat) (H : Heap) : optAll (optAll (readT l n H)) (xs.map SWay.row) = some (xs.map SWay.row) := optAll_self fun r hr => by
  obtain ⟨x, _, rfl⟩ := List.mem_map.mp hr
  simp
theorem SWay.scalar (l : List SWay) : scalarRows (l.map SWay.row) := by
  intro r hr
  obtain ⟨x, _, rfl⟩ := List.mem_map.mp hr
  rfl
@[simp] theorem SWay.lay (xs : List SWay) (n : Nat) (H : Heap) : layT (n + 1) (.list (xs.map SWay.row)) H = (.sl H.length 0 xs.length, H ++ [some (xs.map SWay.row)]) := by rw [layT_list (SWay.scalar xs)]; simp
theorem SWay.plain (l : List SWay) : plainRows (l.map SWay.row) := by
  intro r hr
  obtain ⟨x, _, rfl⟩ := List.mem_map.mp hr
  intro l n H
  simp
structure SLoader where
  Files : List SFile := []
  Ways : List SWay := []
  Parent : Int := 0
  deriving DecidableEq
def SLoader.row (x : SLoader) : List D := [.list (x.Files.map SFile.row), .list (x.Ways.map SWay.row), .int .i64 x.Parent]
abbrev SLoader.d (x : SLoader) : D := .agg x.row
@[simp] theorem SLoader.len (x : SLoader) : x.row.length = 3 := rfl
def SLoader.shp : List Shp := [.list [.str, .str], .list [.str, .int .i64], .int .i64]
def SLoader.wf (x : SLoader) : Prop := (x.Files.length ≤ 140737488351232 ∧ ∀ y ∈ x.Files, y.wf) ∧ (x.Ways.length ≤ 140737488351232 ∧ ∀ y ∈ x.Ways, y.wf) ∧ i64 x.Parent
@[simp] theorem SLoader.whole (x : SLoader) : x.row.take 3 = x.row := rfl
@[simp] theorem SLoader.isCell (x : SLoader) : x.row.all D.isCell = true := rfl
@[simp] theorem SLoader.read (x : SLoader) (n : Nat) (H : Heap) : optAll (readT true (n + 1) H) x.row = some x.row := by simp [SLoader.row]
@[simp] theorem SLoader.readD (x : SLoader) (H : Heap) : readT true depth H (.agg x.row) = some (.agg x.row) := by rw [readT_agg9, SLoader.read x 7]; rfl
@[simp] theorem SLoader.kill (x : SLoader) (H K : Heap) : killT depth H (.agg x.row) K = K := rfl
structure SKnown where
  Loader : Int := 0
  Name : List UInt8 := []
  Class : Int := 0
  deriving DecidableEq
def SKnown.row (x : SKnown) : List D := [.int .i64 x.Loader, .str x.Name, .int .i64 x.Class]
abbrev SKnown.d (x : SKnown) : D := .agg x.row
@[simp] theorem SKnown.len (x : SKnown) : x.row.length = 3 := rfl
def SKnown.shp : List Shp := [.int .i64, .str, .int .i64]
def SKnown.wf (x : SKnown) : Prop := i64 x.Loader ∧ x.Name.length ≤ 140737488351232 ∧ i64 x.Class
@[simp] theorem SKnown.whole (x : SKnown) : x.row.take 3 = x.row := rfl
@[simp] theorem SKnown.isCell (x : SKnown) : x.row.all D.isCell = true := rfl
@[simp] theorem SKnown.read (x : SKnown) (n : Nat) (H : Heap) : optAll (readT true (n + 1) H) x.row = some x.row := by simp [SKnown.row]
@[simp] theorem SKnown.readD (x : SKnown) (H : Heap) : readT true depth H (.agg x.row) = some (.agg x.row) := by rw [readT_agg9, SKnown.read x 7]; rfl
@[simp] theorem SKnown.kill (x : SKnown) (H K : Heap) : killT depth H (.agg x.row) K = K := rfl
@[simp] theorem SKnown.readF (x : SKnown) (l : Bool) (n : Nat) (H : Heap) : optAll (readT l n H) x.row = some x.row := by simp [SKnown.row]
@[simp] theorem SKnown.readFD (x : SKnown) (l : Bool) (H : Heap) : readT l depth H (.agg x.row) = some (.agg x.row) := by rw [readT_agg9, SKnown.readF]; rfl
@[simp] theorem SKnown.readRows (xs : List SKnown) (l : Bool) (n : Nat) (H : Heap) : optAll (optAll (readT l n H)) (xs.map SKnown.row) = some (xs.map SKnown.row) := optAll_self fun r hr => by
  obtain ⟨x, _, rfl⟩ := List.mem_map.mp hr
  simp
theorem SKnown.scalar (l : List SKnown) : scalarRows (l.map SKnown.row) := by
  intro r hr
  obtain ⟨x, _, rfl⟩ := List.mem_map.mp hr
  rfl
@[simp] theorem SKnown.lay (xs : List SKnown) (n : Nat) (H : Heap) : layT (n + 1) (.list (xs.map SKnown.row)) H = (.sl H.length 0 xs.length, H ++ [some (xs.map SKnown.row)]) := by rw [layT_list (SKnown.scalar xs)]; simp
theorem SKnown.plain (l : List SKnown) : plainRows (l.map SKnown.row) := by
  intro r hr
  obtain ⟨x, _, rfl⟩ := List.mem_map.mp hr
  intro l n H
  simp
structure SBond where
  Name : List UInt8 := []
  Loaders : List Int := []
  Class : Int := 0
  deriving DecidableEq
def SBond.row (x : SBond) : List D := [.str x.Name, .list (x.Loaders.map rInt), .int .i64 x.Class]
abbrev SBond.d (x : SBond) : D := .agg x.row
@[simp] theorem SBond.len (x : SBond) : x.row.length = 3 := rfl
def SBond.shp : List Shp := [.str, .list [.int .i64], .int .i64]
def SBond.wf (x : SBond) : Prop := x.Name.length ≤ 140737488351232 ∧ (x.Loaders.length ≤ 140737488351232 ∧ ∀ y ∈ x.Loaders, i64 y) ∧ i64 x.Class
@[simp] theorem SBond.whole (x : SBond) : x.row.take 3 = x.row := rfl
@[simp] theorem SBond.isCell (x : SBond) : x.row.all D.isCell = true := rfl
@[simp] theorem SBond.read (x : SBond) (n : Nat) (H : Heap) : optAll (readT true (n + 1) H) x.row = some x.row := by simp [SBond.row]
@[simp] theorem SBond.readD (x : SBond) (H : Heap) : readT true depth H (.agg x.row) = some (.agg x.row) := by rw [readT_agg9, SBond.read x 7]; rfl
@[simp] theorem SBond.kill (x : SBond) (H K : Heap) : killT depth H (.agg x.row) K = K := rfl
structure SSlot where
  Class : Int := 0
  At : Int := 0
  deriving DecidableEq
def SSlot.row (x : SSlot) : List D := [.int .i64 x.Class, .int .i64 x.At]
abbrev SSlot.d (x : SSlot) : D := .agg x.row
@[simp] theorem SSlot.len (x : SSlot) : x.row.length = 2 := rfl
def SSlot.shp : List Shp := [.int .i64, .int .i64]
def SSlot.wf (x : SSlot) : Prop := i64 x.Class ∧ i64 x.At
@[simp] theorem SSlot.whole (x : SSlot) : x.row.take 2 = x.row := rfl
@[simp] theorem SSlot.isCell (x : SSlot) : x.row.all D.isCell = true := rfl
@[simp] theorem SSlot.read (x : SSlot) (n : Nat) (H : Heap) : optAll (readT true (n + 1) H) x.row = some x.row := by simp [SSlot.row]
@[simp] theorem SSlot.readD (x : SSlot) (H : Heap) : readT true depth H (.agg x.row) = some (.agg x.row) := by rw [readT_agg9, SSlot.read x 7]; rfl
@[simp] theorem SSlot.kill (x : SSlot) (H K : Heap) : killT depth H (.agg x.row) K = K := rfl
@[simp] theorem SSlot.readF (x : SSlot) (l : Bool) (n : Nat) (H : Heap) : optAll (readT l n H) x.row = some x.row := by simp [SSlot.row]
@[simp] theorem SSlot.readFD (x : SSlot) (l : Bool) (H : Heap) : readT l depth H (.agg x.row) = some (.agg x.row) := by rw [readT_agg9, SSlot.readF]; rfl
@[simp] theorem SSlot.readRows (xs : List SSlot) (l : Bool) (n : Nat) (H : Heap) : optAll (optAll (readT l n H)) (xs.map SSlot.row) = some (xs.map SSlot.row) := optAll_self fun r hr => by
  obtain ⟨x, _, rfl⟩ := List.mem_map.mp hr
  simp
theorem SSlot.scalar (l : List SSlot) : scalarRows (l.map SSlot.row) := by
  intro r hr
  obtain ⟨x, _, rfl⟩ := List.mem_map.mp hr
  rfl
@[simp] theorem SSlot.lay (xs : List SSlot) (n : Nat) (H : Heap) : layT (n + 1) (.list (xs.map SSlot.row)) H = (.sl H.length 0 xs.length, H ++ [some (xs.map SSlot.row)]) := by rw [layT_list (SSlot.scalar xs)]; simp
theorem SSlot.plain (l : List SSlot) : plainRows (l.map SSlot.row) := by
  intro r hr
  obtain ⟨x, _, rfl⟩ := List.mem_map.mp hr
  intro l n H
  simp
structure SRow where
  Name : List UInt8 := []
  Desc : List UInt8 := []
  Class : Int := 0
  At : Int := 0
  deriving DecidableEq
def SRow.row (x : SRow) : List D := [.str x.Name, .str x.Desc, .int .i64 x.Class, .int .i64 x.At]
abbrev SRow.d (x : SRow) : D := .agg x.row
@[simp] theorem SRow.len (x : SRow) : x.row.length = 4 := rfl
def SRow.shp : List Shp := [.str, .str, .int .i64, .int .i64]
def SRow.wf (x : SRow) : Prop := x.Name.length ≤ 140737488351232 ∧ x.Desc.length ≤ 140737488351232 ∧ i64 x.Class ∧ i64 x.At
@[simp] theorem SRow.whole (x : SRow) : x.row.take 4 = x.row := rfl
@[simp] theorem SRow.isCell (x : SRow) : x.row.all D.isCell = true := rfl
@[simp] theorem SRow.read (x : SRow) (n : Nat) (H : Heap) : optAll (readT true (n + 1) H) x.row = some x.row := by simp [SRow.row]
@[simp] theorem SRow.readD (x : SRow) (H : Heap) : readT true depth H (.agg x.row) = some (.agg x.row) := by rw [readT_agg9, SRow.read x 7]; rfl
@[simp] theorem SRow.kill (x : SRow) (H K : Heap) : killT depth H (.agg x.row) K = K := rfl
@[simp] theorem SRow.readF (x : SRow) (l : Bool) (n : Nat) (H : Heap) : optAll (readT l n H) x.row = some x.row := by simp [SRow.row]
@[simp] theorem SRow.readFD (x : SRow) (l : Bool) (H : Heap) : readT l depth H (.agg x.row) = some (.agg x.row) := by rw [readT_agg9, SRow.readF]; rfl
@[simp] theorem SRow.readRows (xs : List SRow) (l : Bool) (n : Nat) (H : Heap) : optAll (optAll (readT l n H)) (xs.map SRow.row) = some (xs.map SRow.row) := optAll_self fun r hr => by
  obtain ⟨x, _, rfl⟩ := List.mem_map.mp hr
  simp
theorem SRow.scalar (l : List SRow) : scalarRows (l.map SRow.row) := by
  intro r hr
  obtain ⟨x, _, rfl⟩ := List.mem_map.mp hr
  rfl
@[simp] theorem SRow.lay (xs : List SRow) (n : Nat) (H : Heap) : layT (n + 1) (.list (xs.map SRow.row)) H = (.sl H.length 0 xs.length, H ++ [some (xs.map SRow.row)]) := by rw [layT_list (SRow.scalar xs)]; simp
theorem SRow.plain (l : List SRow) : plainRows (l.map SRow.row) := by
  intro r hr
  obtain ⟨x, _, rfl⟩ := List.mem_map.mp hr
  intro l n H
  simp
structure SVal where
  Tag : Int := 0
  Num : Int := 0
  deriving DecidableEq
def SVal.row (x : SVal) : List D := [.int .i64 x.Tag, .int .i64 x.Num]
abbrev SVal.d (x : SVal) : D := .agg x.row
@[simp] theorem SVal.len (x : SVal) : x.row.length = 2 := rfl
def SVal.shp : List Shp := [.int .i64, .int .i64]
def SVal.wf (x : SVal) : Prop := i64 x.Tag ∧ i64 x.Num
@[simp] theorem SVal.whole (x : SVal) : x.row.take 2 = x.row := rfl
@[simp] theorem SVal.isCell (x : SVal) : x.row.all D.isCell = true := rfl
@[simp] theorem SVal.read (x : SVal) (n : Nat) (H : Heap) : optAll (readT true (n + 1) H) x.row = some x.row := by simp [SVal.row]
@[simp] theorem SVal.readD (x : SVal) (H : Heap) : readT true depth H (.agg x.row) = some (.agg x.row) := by rw [readT_agg9, SVal.read x 7]; rfl
@[simp] theorem SVal.kill (x : SVal) (H K : Heap) : killT depth H (.agg x.row) K = K := rfl
@[simp] theorem SVal.readF (x : SVal) (l : Bool) (n : Nat) (H : Heap) : optAll (readT l n H) x.row = some x.row := by simp [SVal.row]
@[simp] theorem SVal.readFD (x : SVal) (l : Bool) (H : Heap) : readT l depth H (.agg x.row) = some (.agg x.row) := by rw [readT_agg9, SVal.readF]; rfl
@[simp] theorem SVal.readRows (xs : List SVal) (l : Bool) (n : Nat) (H : Heap) : optAll (optAll (readT l n H)) (xs.map SVal.row) = some (xs.map SVal.row) := optAll_self fun r hr => by
  obtain ⟨x, _, rfl⟩ := List.mem_map.mp hr
  simp
theorem SVal.scalar (l : List SVal) : scalarRows (l.map SVal.row) := by
  intro r hr
  obtain ⟨x, _, rfl⟩ := List.mem_map.mp hr
  rfl
@[simp] theorem SVal.lay (xs : List SVal) (n : Nat) (H : Heap) : layT (n + 1) (.list (xs.map SVal.row)) H = (.sl H.length 0 xs.length, H ++ [some (xs.map SVal.row)]) := by rw [layT_list (SVal.scalar xs)]; simp
theorem SVal.plain (l : List SVal) : plainRows (l.map SVal.row) := by
  intro r hr
  obtain ⟨x, _, rfl⟩ := List.mem_map.mp hr
  intro l n H
  simp
structure SCls where
  Name : List UInt8 := []
  Loader : Int := 0
  File : SClass := {}
  Super : Int := 0
  Faces : List Int := []
  State : Int := 0
  Begun : Int := 0
  Slots : List SSlot := []
  Rows : List SRow := []
  Statics : List SVal := []
  deriving DecidableEq
def SCls.row (x : SCls) : List D := [.str x.Name, .int .i64 x.Loader, .list (x.File.Pool.map SConst.row), .int .i64 x.File.Flags, .int .i64 x.File.Name, .int .i64 x.File.Super, .list (x.File.Faces.map rInt), .list (x.File.Fields.map SField.row), .list (x.File.Methods.map SMethod.row), .int .i64 x.Super, .list (x.Faces.map rInt), .int .i64 x.State, .int .i64 x.Begun, .list (x.Slots.map SSlot.row), .list (x.Rows.map SRow.row), .list (x.Statics.map SVal.row)]
abbrev SCls.d (x : SCls) : D := .agg x.row
@[simp] theorem SCls.len (x : SCls) : x.row.length = 16 := rfl
def SCls.shp : List Shp := [.str, .int .i64, .list [.int .i64, .str, .int .i64, .int .i64], .int .i64, .int .i64, .int .i64, .list [.int .i64], .list [.int .i64, .int .i64, .int .i64], .list [.int .i64, .int .i64, .int .i64, .int .i64, .int .i64, .str, .list [.int .i64, .int .i64, .int .i64, .int .i64], .list [.int .i64, .list [.int .i64, .int .i64], .list [.int .i64, .int .i64]]], .int .i64, .list [.int .i64], .int .i64, .int .i64, .list [.int .i64, .int .i64], .list [.str, .str, .int .i64, .int .i64], .list [.int .i64, .int .i64]]
def SCls.wf (x : SCls) : Prop := x.Name.length ≤ 140737488351232 ∧ i64 x.Loader ∧ (x.File.Pool.length ≤ 140737488351232 ∧ ∀ y ∈ x.File.Pool, y.wf) ∧ i64 x.File.Flags ∧ i64 x.File.Name ∧ i64 x.File.Super ∧ (x.File.Faces.length ≤ 140737488351232 ∧ ∀ y ∈ x.File.Faces, i64 y) ∧ (x.File.Fields.length ≤ 140737488351232 ∧ ∀ y ∈ x.File.Fields, y.wf) ∧ (x.File.Methods.length ≤ 140737488351232 ∧ ∀ y ∈ x.File.Methods, y.wf) ∧ i64 x.Super ∧ (x.Faces.length ≤ 140737488351232 ∧ ∀ y ∈ x.Faces, i64 y) ∧ i64 x.State ∧ i64 x.Begun ∧ (x.Slots.length ≤ 140737488351232 ∧ ∀ y ∈ x.Slots, y.wf) ∧ (x.Rows.length ≤ 140737488351232 ∧ ∀ y ∈ x.Rows, y.wf) ∧ (x.Statics.length ≤ 140737488351232 ∧ ∀ y ∈ x.Statics, y.wf)
@[simp] theorem SCls.whole (x : SCls) : x.row.take 16 = x.row := rfl
@[simp] theorem SCls.isCell (x : SCls) : x.row.all D.isCell = true := rfl
@[simp] theorem SCls.read (x : SCls) (n : Nat) (H : Heap) : optAll (readT true (n + 1) H) x.row = some x.row := by simp [SCls.row]
@[simp] theorem SCls.readD (x : SCls) (H : Heap) : readT true depth H (.agg x.row) = some (.agg x.row) := by rw [readT_agg9, SCls.read x 7]; rfl
@[simp] theorem SCls.kill (x : SCls) (H K : Heap) : killT depth H (.agg x.row) K = K := rfl
structure SWorld where
  Loaders : List SLoader := []
  Classes : List SCls := []
  Known : List SKnown := []
  Bonds : List SBond := []
  deriving DecidableEq
def SWorld.row (x : SWorld) : List D := [.list (x.Loaders.map SLoader.row), .list (x.Classes.map SCls.row), .list (x.Known.map SKnown.row), .list (x.Bonds.map SBond.row)]
abbrev SWorld.d (x : SWorld) : D := .agg x.row
@[simp] theorem SWorld.len (x : SWorld) : x.row.length = 4 := rfl
def SWorld.shp : List Shp := [.list [.list [.str, .str], .list [.str, .int .i64], .int .i64], .list [.str, .int .i64, .list [.int .i64, .str, .int .i64, .int .i64], .int .i64, .int .i64, .int .i64, .list [.int .i64], .list [.int .i64, .int .i64, .int .i64], .list [.int .i64, .int .i64, .int .i64, .int .i64, .int .i64, .str, .list [.int .i64, .int .i64, .int .i64, .int .i64], .list [.int .i64, .list [.int .i64, .int .i64], .list [.int .i64, .int .i64]]], .int .i64, .list [.int .i64], .int .i64, .int .i64, .list [.int .i64, .int .i64], .list [.str, .str, .int .i64, .int .i64], .list [.int .i64, .int .i64]], .list [.int .i64, .str, .int .i64], .list [.str, .list [.int .i64], .int .i64]]
def SWorld.wf (x : SWorld) : Prop := (x.Loaders.length ≤ 140737488351232 ∧ ∀ y ∈ x.Loaders, y.wf) ∧ (x.Classes.length ≤ 140737488351232 ∧ ∀ y ∈ x.Classes, y.wf) ∧ (x.Known.length ≤ 140737488351232 ∧ ∀ y ∈ x.Known, y.wf) ∧ (x.Bonds.length ≤ 140737488351232 ∧ ∀ y ∈ x.Bonds, y.wf)
@[simp] theorem SWorld.whole (x : SWorld) : x.row.take 4 = x.row := rfl
@[simp] theorem SWorld.isCell (x : SWorld) : x.row.all D.isCell = true := rfl
@[simp] theorem SWorld.read (x : SWorld) (n : Nat) (H : Heap) : optAll (readT true (n + 1) H) x.row = some x.row := by simp [SWorld.row]
@[simp] theorem SWorld.readD (x : SWorld) (H : Heap) : readT true depth H (.agg x.row) = some (.agg x.row) := by rw [readT_agg9, SWorld.read x 7]; rfl
@[simp] theorem SWorld.kill (x : SWorld) (H K : Heap) : killT depth H (.agg x.row) K = K := rfl
structure SFault where
  Code : Int := 0
  Name : List UInt8 := []
  deriving DecidableEq
def SFault.row (x : SFault) : List D := [.int .i64 x.Code, .str x.Name]
abbrev SFault.d (x : SFault) : D := .agg x.row
@[simp] theorem SFault.len (x : SFault) : x.row.length = 2 := rfl
def SFault.shp : List Shp := [.int .i64, .str]
def SFault.wf (x : SFault) : Prop := i64 x.Code ∧ x.Name.length ≤ 140737488351232
@[simp] theorem SFault.whole (x : SFault) : x.row.take 2 = x.row := rfl
@[simp] theorem SFault.isCell (x : SFault) : x.row.all D.isCell = true := rfl
@[simp] theorem SFault.read (x : SFault) (n : Nat) (H : Heap) : optAll (readT true (n + 1) H) x.row = some x.row := by simp [SFault.row]
@[simp] theorem SFault.readD (x : SFault) (H : Heap) : readT true depth H (.agg x.row) = some (.agg x.row) := by rw [readT_agg9, SFault.read x 7]; rfl
@[simp] theorem SFault.kill (x : SFault) (H K : Heap) : killT depth H (.agg x.row) K = K := rfl
@[simp] theorem SFault.readF (x : SFault) (l : Bool) (n : Nat) (H : Heap) : optAll (readT l n H) x.row = some x.row := by simp [SFault.row]
@[simp] theorem SFault.readFD (x : SFault) (l : Bool) (H : Heap) : readT l depth H (.agg x.row) = some (.agg x.row) := by rw [readT_agg9, SFault.readF]; rfl
@[simp] theorem SFault.readRows (xs : List SFault) (l : Bool) (n : Nat) (H : Heap) : optAll (optAll (readT l n H)) (xs.map SFault.row) = some (xs.map SFault.row) := optAll_self fun r hr => by
  obtain ⟨x, _, rfl⟩ := List.mem_map.mp hr
  simp
theorem SFault.scalar (l : List SFault) : scalarRows (l.map SFault.row) := by
  intro r hr
  obtain ⟨x, _, rfl⟩ := List.mem_map.mp hr
  rfl
@[simp] theorem SFault.lay (xs : List SFault) (n : Nat) (H : Heap) : layT (n + 1) (.list (xs.map SFault.row)) H = (.sl H.length 0 xs.length, H ++ [some (xs.map SFault.row)]) := by rw [layT_list (SFault.scalar xs)]; simp
theorem SFault.plain (l : List SFault) : plainRows (l.map SFault.row) := by
  intro r hr
  obtain ⟨x, _, rfl⟩ := List.mem_map.mp hr
  intro l n H
  simp
structure SAsked where
  loader : Int := 0
  name : List UInt8 := []
  deriving DecidableEq
def SAsked.row (x : SAsked) : List D := [.int .i64 x.loader, .str x.name]
abbrev SAsked.d (x : SAsked) : D := .agg x.row
@[simp] theorem SAsked.len (x : SAsked) : x.row.length = 2 := rfl
def SAsked.shp : List Shp := [.int .i64, .str]
def SAsked.wf (x : SAsked) : Prop := i64 x.loader ∧ x.name.length ≤ 140737488351232
@[simp] theorem SAsked.whole (x : SAsked) : x.row.take 2 = x.row := rfl
@[simp] theorem SAsked.isCell (x : SAsked) : x.row.all D.isCell = true := rfl
@[simp] theorem SAsked.read (x : SAsked) (n : Nat) (H : Heap) : optAll (readT true (n + 1) H) x.row = some x.row := by simp [SAsked.row]
@[simp] theorem SAsked.readD (x : SAsked) (H : Heap) : readT true depth H (.agg x.row) = some (.agg x.row) := by rw [readT_agg9, SAsked.read x 7]; rfl
@[simp] theorem SAsked.kill (x : SAsked) (H K : Heap) : killT depth H (.agg x.row) K = K := rfl
@[simp] theorem SAsked.readF (x : SAsked) (l : Bool) (n : Nat) (H : Heap) : optAll (readT l n H) x.row = some x.row := by simp [SAsked.row]
@[simp] theorem SAsked.readFD (x : SAsked) (l : Bool) (H : Heap) : readT l depth H (.agg x.row) = some (.agg x.row) := by rw [readT_agg9, SAsked.readF]; rfl
@[simp] theorem SAsked.readRows (xs : List SAsked) (l : Bool) (n : Nat) (H : Heap) : optAll (optAll (readT l n H)) (xs.map SAsked.row) = some (xs.map SAsked.row) := optAll_self fun r hr => by
  obtain ⟨x, _, rfl⟩ := List.mem_map.mp hr
  simp
theorem SAsked.scalar (l : List SAsked) : scalarRows (l.map SAsked.row) := by
  intro r hr
  obtain ⟨x, _, rfl⟩ := List.mem_map.mp hr
  rfl
@[simp] theorem SAsked.lay (xs : List SAsked) (n : Nat) (H : Heap) : layT (n + 1) (.list (xs.map SAsked.row)) H = (.sl H.length 0 xs.length, H ++ [some (xs.map SAsked.row)]) := by rw [layT_list (SAsked.scalar xs)]; simp
theorem SAsked.plain (l : List SAsked) : plainRows (l.map SAsked.row) := by
  intro r hr
  obtain ⟨x, _, rfl⟩ := List.mem_map.mp hr
  intro l n H
  simp
structure SObj where
  Class : Int := 0
  Fields : List SVal := []
  deriving DecidableEq
def SObj.row (x : SObj) : List D := [.int .i64 x.Class, .list (x.Fields.map SVal.row)]
abbrev SObj.d (x : SObj) : D := .agg x.row
@[simp] theorem SObj.len (x : SObj) : x.row.length = 2 := rfl
def SObj.shp : List Shp := [.int .i64, .list [.int .i64, .int .i64]]
def SObj.wf (x : SObj) : Prop := i64 x.Class ∧ (x.Fields.length ≤ 140737488351232 ∧ ∀ y ∈ x.Fields, y.wf)
@[simp] theorem SObj.whole (x : SObj) : x.row.take 2 = x.row := rfl
@[simp] theorem SObj.isCell (x : SObj) : x.row.all D.isCell = true := rfl
@[simp] theorem SObj.read (x : SObj) (n : Nat) (H : Heap) : optAll (readT true (n + 1) H) x.row = some x.row := by simp [SObj.row]
@[simp] theorem SObj.readD (x : SObj) (H : Heap) : readT true depth H (.agg x.row) = some (.agg x.row) := by rw [readT_agg9, SObj.read x 7]; rfl
@[simp] theorem SObj.kill (x : SObj) (H K : Heap) : killT depth H (.agg x.row) K = K := rfl
structure SAct where
  Class : Int := 0
  At : Int := 0
  Pc : Int := 0
  Locals : List SVal := []
  Stack : List SVal := []
  Begins : Int := 0
  deriving DecidableEq
def SAct.row (x : SAct) : List D := [.int .i64 x.Class, .int .i64 x.At, .int .i64 x.Pc, .list (x.Locals.map SVal.row), .list (x.Stack.map SVal.row), .int .i64 x.Begins]
abbrev SAct.d (x : SAct) : D := .agg x.row
@[simp] theorem SAct.len (x : SAct) : x.row.length = 6 := rfl
def SAct.shp : List Shp := [.int .i64, .int .i64, .int .i64, .list [.int .i64, .int .i64], .list [.int .i64, .int .i64], .int .i64]
def SAct.wf (x : SAct) : Prop := i64 x.Class ∧ i64 x.At ∧ i64 x.Pc ∧ (x.Locals.length ≤ 140737488351232 ∧ ∀ y ∈ x.Locals, y.wf) ∧ (x.Stack.length ≤ 140737488351232 ∧ ∀ y ∈ x.Stack, y.wf) ∧ i64 x.Begins
@[simp] theorem SAct.whole (x : SAct) : x.row.take 6 = x.row := rfl
@[simp] theorem SAct.isCell (x : SAct) : x.row.all D.isCell = true := rfl
@[simp] theorem SAct.read (x : SAct) (n : Nat) (H : Heap) : optAll (readT true (n + 1) H) x.row = some x.row := by simp [SAct.row]
@[simp] theorem SAct.readD (x : SAct) (H : Heap) : readT true depth H (.agg x.row) = some (.agg x.row) := by rw [readT_agg9, SAct.read x 7]; rfl
@[simp] theorem SAct.kill (x : SAct) (H K : Heap) : killT depth H (.agg x.row) K = K := rfl
structure SRun where
  World : SWorld := {}
  Heap_ : List SObj := []
  Acts : List SAct := []
  Out : List Int := []
  Fuel : Int := 0
  Room : Int := 0
  Steps : Int := 0
  Prove : Bool := false
  End : Int := 0
  Name : List UInt8 := []
  Fault : SFault := {}
  deriving DecidableEq
def SRun.row (x : SRun) : List D := [.list (x.World.Loaders.map SLoader.row), .list (x.World.Classes.map SCls.row), .list (x.World.Known.map SKnown.row), .list (x.World.Bonds.map SBond.row), .list (x.Heap_.map SObj.row), .list (x.Acts.map SAct.row), .list (x.Out.map rInt), .int .i64 x.Fuel, .int .i64 x.Room, .int .i64 x.Steps, .bool x.Prove, .int .i64 x.End, .str x.Name, .int .i64 x.Fault.Code, .str x.Fault.Name]
abbrev SRun.d (x : SRun) : D := .agg x.row
@[simp] theorem SRun.len (x : SRun) : x.row.length = 15 := rfl
def SRun.shp : List Shp := [.list [.list [.str, .str], .list [.str, .int .i64], .int .i64], .list [.str, .int .i64, .list [.int .i64, .str, .int .i64, .int .i64], .int .i64, .int .i64, .int .i64, .list [.int .i64], .list [.int .i64, .int .i64, .int .i64], .list [.int .i64, .int .i64, .int .i64, .int .i64, .int .i64, .str, .list [.int .i64, .int .i64, .int .i64, .int .i64], .list [.int .i64, .list [.int .i64, .int .i64], .list [.int .i64, .int .i64]]], .int .i64, .list [.int .i64], .int .i64, .int .i64, .list [.int .i64, .int .i64], .list [.str, .str, .int .i64, .int .i64], .list [.int .i64, .int .i64]], .list [.int .i64, .str, .int .i64], .list [.str, .list [.int .i64], .int .i64], .list [.int .i64, .list [.int .i64, .int .i64]], .list [.int .i64, .int .i64, .int .i64, .list [.int .i64, .int .i64], .list [.int .i64, .int .i64], .int .i64], .list [.int .i64], .int .i64, .int .i64, .int .i64, .bool, .int .i64, .str, .int .i64, .str]
def SRun.wf (x : SRun) : Prop := (x.World.Loaders.length ≤ 140737488351232 ∧ ∀ y ∈ x.World.Loaders, y.wf) ∧ (x.World.Classes.length ≤ 140737488351232 ∧ ∀ y ∈ x.World.Classes, y.wf) ∧ (x.World.Known.length ≤ 140737488351232 ∧ ∀ y ∈ x.World.Known, y.wf) ∧ (x.World.Bonds.length ≤ 140737488351232 ∧ ∀ y ∈ x.World.Bonds, y.wf) ∧ (x.Heap_.length ≤ 140737488351232 ∧ ∀ y ∈ x.Heap_, y.wf) ∧ (x.Acts.length ≤ 140737488351232 ∧ ∀ y ∈ x.Acts, y.wf) ∧ (x.Out.length ≤ 140737488351232 ∧ ∀ y ∈ x.Out, i64 y) ∧ i64 x.Fuel ∧ i64 x.Room ∧ i64 x.Steps ∧ i64 x.End ∧ x.Name.length ≤ 140737488351232 ∧ i64 x.Fault.Code ∧ x.Fault.Name.length ≤ 140737488351232
@[simp] theorem SRun.whole (x : SRun) : x.row.take 15 = x.row := rfl
@[simp] theorem SRun.isCell (x : SRun) : x.row.all D.isCell = true := rfl
@[simp] theorem SRun.read (x : SRun) (n : Nat) (H : Heap) : optAll (readT true (n + 1) H) x.row = some x.row := by simp [SRun.row]
@[simp] theorem SRun.readD (x : SRun) (H : Heap) : readT true depth H (.agg x.row) = some (.agg x.row) := by rw [readT_agg9, SRun.read x 7]; rfl
@[simp] theorem SRun.kill (x : SRun) (H K : Heap) : killT depth H (.agg x.row) K = K := rfl
structure SPick where
  At : Int := 0
  Kind : Int := 0
  Loader : Int := 0
  Name : List UInt8 := []
  deriving DecidableEq
def SPick.row (x : SPick) : List D := [.int .i64 x.At, .int .i64 x.Kind, .int .i64 x.Loader, .str x.Name]
abbrev SPick.d (x : SPick) : D := .agg x.row
@[simp] theorem SPick.len (x : SPick) : x.row.length = 4 := rfl
def SPick.shp : List Shp := [.int .i64, .int .i64, .int .i64, .str]
def SPick.wf (x : SPick) : Prop := i64 x.At ∧ i64 x.Kind ∧ i64 x.Loader ∧ x.Name.length ≤ 140737488351232
@[simp] theorem SPick.whole (x : SPick) : x.row.take 4 = x.row := rfl
@[simp] theorem SPick.isCell (x : SPick) : x.row.all D.isCell = true := rfl
@[simp] theorem SPick.read (x : SPick) (n : Nat) (H : Heap) : optAll (readT true (n + 1) H) x.row = some x.row := by simp [SPick.row]
@[simp] theorem SPick.readD (x : SPick) (H : Heap) : readT true depth H (.agg x.row) = some (.agg x.row) := by rw [readT_agg9, SPick.read x 7]; rfl
@[simp] theorem SPick.kill (x : SPick) (H K : Heap) : killT depth H (.agg x.row) K = K := rfl
@[simp] theorem SPick.readF (x : SPick) (l : Bool) (n : Nat) (H : Heap) : optAll (readT l n H) x.row = some x.row := by simp [SPick.row]
@[simp] theorem SPick.readFD (x : SPick) (l : Bool) (H : Heap) : readT l depth H (.agg x.row) = some (.agg x.row) := by rw [readT_agg9, SPick.readF]; rfl
@[simp] theorem SPick.readRows (xs : List SPick) (l : Bool) (n : Nat) (H : Heap) : optAll (optAll (readT l n H)) (xs.map SPick.row) = some (xs.map SPick.row) := optAll_self fun r hr => by
  obtain ⟨x, _, rfl⟩ := List.mem_map.mp hr
  simp
theorem SPick.scalar (l : List SPick) : scalarRows (l.map SPick.row) := by
  intro r hr
  obtain ⟨x, _, rfl⟩ := List.mem_map.mp hr
  rfl
@[simp] theorem SPick.lay (xs : List SPick) (n : Nat) (H : Heap) : layT (n + 1) (.list (xs.map SPick.row)) H = (.sl H.length 0 xs.length, H ++ [some (xs.map SPick.row)]) := by rw [layT_list (SPick.scalar xs)]; simp
theorem SPick.plain (l : List SPick) : plainRows (l.map SPick.row) := by
  intro r hr
  obtain ⟨x, _, rfl⟩ := List.mem_map.mp hr
  intro l n H
  simp
structure SStart where
  Loaders : List SLoader := []
  Loader : Int := 0
  Name : List UInt8 := []
  Fuel : Int := 0
  Room : Int := 0
  Prove : Bool := false
  Picks : List SPick := []
  deriving DecidableEq
def SStart.row (x : SStart) : List D := [.list (x.Loaders.map SLoader.row), .int .i64 x.Loader, .str x.Name, .int .i64 x.Fuel, .int .i64 x.Room, .bool x.Prove, .list (x.Picks.map SPick.row)]
abbrev SStart.d (x : SStart) : D := .agg x.row
@[simp] theorem SStart.len (x : SStart) : x.row.length = 7 := rfl
def SStart.shp : List Shp := [.list [.list [.str, .str], .list [.str, .int .i64], .int .i64], .int .i64, .str, .int .i64, .int .i64, .bool, .list [.int .i64, .int .i64, .int .i64, .str]]
def SStart.wf (x : SStart) : Prop := (x.Loaders.length ≤ 140737488351232 ∧ ∀ y ∈ x.Loaders, y.wf) ∧ i64 x.Loader ∧ x.Name.length ≤ 140737488351232 ∧ i64 x.Fuel ∧ i64 x.Room ∧ (x.Picks.length ≤ 140737488351232 ∧ ∀ y ∈ x.Picks, y.wf)
@[simp] theorem SStart.whole (x : SStart) : x.row.take 7 = x.row := rfl
@[simp] theorem SStart.isCell (x : SStart) : x.row.all D.isCell = true := rfl
@[simp] theorem SStart.read (x : SStart) (n : Nat) (H : Heap) : optAll (readT true (n + 1) H) x.row = some x.row := by simp [SStart.row]
@[simp] theorem SStart.readD (x : SStart) (H : Heap) : readT true depth H (.agg x.row) = some (.agg x.row) := by rw [readT_agg9, SStart.read x 7]; rfl
@[simp] theorem SStart.kill (x : SStart) (H K : Heap) : killT depth H (.agg x.row) K = K := rfl
structure SAnswer where
  End : Int := 0
  Name : List UInt8 := []
  Fault : SFault := {}
  Out : List Int := []
  Steps : Int := 0
  deriving DecidableEq
def SAnswer.row (x : SAnswer) : List D := [.int .i64 x.End, .str x.Name, .int .i64 x.Fault.Code, .str x.Fault.Name, .list (x.Out.map rInt), .int .i64 x.Steps]
abbrev SAnswer.d (x : SAnswer) : D := .agg x.row
@[simp] theorem SAnswer.len (x : SAnswer) : x.row.length = 6 := rfl
def SAnswer.shp : List Shp := [.int .i64, .str, .int .i64, .str, .list [.int .i64], .int .i64]
def SAnswer.wf (x : SAnswer) : Prop := i64 x.End ∧ x.Name.length ≤ 140737488351232 ∧ i64 x.Fault.Code ∧ x.Fault.Name.length ≤ 140737488351232 ∧ (x.Out.length ≤ 140737488351232 ∧ ∀ y ∈ x.Out, i64 y) ∧ i64 x.Steps
@[simp] theorem SAnswer.whole (x : SAnswer) : x.row.take 6 = x.row := rfl
@[simp] theorem SAnswer.isCell (x : SAnswer) : x.row.all D.isCell = true := rfl
@[simp] theorem SAnswer.read (x : SAnswer) (n : Nat) (H : Heap) : optAll (readT true (n + 1) H) x.row = some x.row := by simp [SAnswer.row]
@[simp] theorem SAnswer.readD (x : SAnswer) (H : Heap) : readT true depth H (.agg x.row) = some (.agg x.row) := by rw [readT_agg9, SAnswer.read x 7]; rfl
@[simp] theorem SAnswer.kill (x : SAnswer) (H K : Heap) : killT depth H (.agg x.row) K = K := rfl
structure SAsm where
  c : SClass := {}
  bad : Bool := false
  deriving DecidableEq
def SAsm.row (x : SAsm) : List D := [.list (x.c.Pool.map SConst.row), .int .i64 x.c.Flags, .int .i64 x.c.Name, .int .i64 x.c.Super, .list (x.c.Faces.map rInt), .list (x.c.Fields.map SField.row), .list (x.c.Methods.map SMethod.row), .bool x.bad]
abbrev SAsm.d (x : SAsm) : D := .agg x.row
@[simp] theorem SAsm.len (x : SAsm) : x.row.length = 8 := rfl
def SAsm.shp : List Shp := [.list [.int .i64, .str, .int .i64, .int .i64], .int .i64, .int .i64, .int .i64, .list [.int .i64], .list [.int .i64, .int .i64, .int .i64], .list [.int .i64, .int .i64, .int .i64, .int .i64, .int .i64, .str, .list [.int .i64, .int .i64, .int .i64, .int .i64], .list [.int .i64, .list [.int .i64, .int .i64], .list [.int .i64, .int .i64]]], .bool]
def SAsm.wf (x : SAsm) : Prop := (x.c.Pool.length ≤ 140737488351232 ∧ ∀ y ∈ x.c.Pool, y.wf) ∧ i64 x.c.Flags ∧ i64 x.c.Name ∧ i64 x.c.Super ∧ (x.c.Faces.length ≤ 140737488351232 ∧ ∀ y ∈ x.c.Faces, i64 y) ∧ (x.c.Fields.length ≤ 140737488351232 ∧ ∀ y ∈ x.c.Fields, y.wf) ∧ (x.c.Methods.length ≤ 140737488351232 ∧ ∀ y ∈ x.c.Methods, y.wf)
@[simp] theorem SAsm.whole (x : SAsm) : x.row.take 8 = x.row := rfl
@[simp] theorem SAsm.isCell (x : SAsm) : x.row.all D.isCell = true := rfl
@[simp] theorem SAsm.read (x : SAsm) (n : Nat) (H : Heap) : optAll (readT true (n + 1) H) x.row = some x.row := by simp [SAsm.row]
@[simp] theorem SAsm.readD (x : SAsm) (H : Heap) : readT true depth H (.agg x.row) = some (.agg x.row) := by rw [readT_agg9, SAsm.read x 7]; rfl
@[simp] theorem SAsm.kill (x : SAsm) (H K : Heap) : killT depth H (.agg x.row) K = K := rfl
structure SSession where
  s : SStart := {}
  out : List (List UInt8) := []
  deriving DecidableEq
def SSession.row (x : SSession) : List D := [.list (x.s.Loaders.map SLoader.row), .int .i64 x.s.Loader, .str x.s.Name, .int .i64 x.s.Fuel, .int .i64 x.s.Room, .bool x.s.Prove, .list (x.s.Picks.map SPick.row), .list (x.out.map rStr)]
abbrev SSession.d (x : SSession) : D := .agg x.row
@[simp] theorem SSession.len (x : SSession) : x.row.length = 8 := rfl
def SSession.shp : List Shp := [.list [.list [.str, .str], .list [.str, .int .i64], .int .i64], .int .i64, .str, .int .i64, .int .i64, .bool, .list [.int .i64, .int .i64, .int .i64, .str], .list [.str]]
def SSession.wf (x : SSession) : Prop := (x.s.Loaders.length ≤ 140737488351232 ∧ ∀ y ∈ x.s.Loaders, y.wf) ∧ i64 x.s.Loader ∧ x.s.Name.length ≤ 140737488351232 ∧ i64 x.s.Fuel ∧ i64 x.s.Room ∧ (x.s.Picks.length ≤ 140737488351232 ∧ ∀ y ∈ x.s.Picks, y.wf) ∧ (x.out.length ≤ 140737488351232 ∧ ∀ y ∈ x.out, y.length ≤ 140737488351232)
@[simp] theorem SSession.whole (x : SSession) : x.row.take 8 = x.row := rfl
@[simp] theorem SSession.isCell (x : SSession) : x.row.all D.isCell = true := rfl
@[simp] theorem SSession.read (x : SSession) (n : Nat) (H : Heap) : optAll (readT true (n + 1) H) x.row = some x.row := by simp [SSession.row]
@[simp] theorem SSession.readD (x : SSession) (H : Heap) : readT true depth H (.agg x.row) = some (.agg x.row) := by rw [readT_agg9, SSession.read x 7]; rfl
@[simp] theorem SSession.kill (x : SSession) (H K : Heap) : killT depth H (.agg x.row) K = K := rfl
structure SEnding where
  end_ : Int := 0
  name : List UInt8 := []
  fault : SFault := {}
  deriving DecidableEq
def SEnding.row (x : SEnding) : List D := [.int .i64 x.end_, .str x.name, .int .i64 x.fault.Code, .str x.fault.Name]
abbrev SEnding.d (x : SEnding) : D := .agg x.row
@[simp] theorem SEnding.len (x : SEnding) : x.row.length = 4 := rfl
def SEnding.shp : List Shp := [.int .i64, .str, .int .i64, .str]
def SEnding.wf (x : SEnding) : Prop := i64 x.end_ ∧ x.name.length ≤ 140737488351232 ∧ i64 x.fault.Code ∧ x.fault.Name.length ≤ 140737488351232
@[simp] theorem SEnding.whole (x : SEnding) : x.row.take 4 = x.row := rfl
@[simp] theorem SEnding.isCell (x : SEnding) : x.row.all D.isCell = true := rfl
@[simp] theorem SEnding.read (x : SEnding) (n : Nat) (H : Heap) : optAll (readT true (n + 1) H) x.row = some x.row := by simp [SEnding.row]
@[simp] theorem SEnding.readD (x : SEnding) (H : Heap) : readT true depth H (.agg x.row) = some (.agg x.row) := by rw [readT_agg9, SEnding.read x 7]; rfl
@[simp] theorem SEnding.kill (x : SEnding) (H K : Heap) : killT depth H (.agg x.row) K = K := rfl
@[simp] theorem SEnding.readF (x : SEnding) (l : Bool) (n : Nat) (H : Heap) : optAll (readT l n H) x.row = some x.row := by simp [SEnding.row]
@[simp] theorem SEnding.readFD (x : SEnding) (l : Bool) (H : Heap) : readT l depth H (.agg x.row) = some (.agg x.row) := by rw [readT_agg9, SEnding.readF]; rfl
@[simp] theorem SEnding.readRows (xs : List SEnding) (l : Bool) (n : Nat) (H : Heap) : optAll (optAll (readT l n H)) (xs.map SEnding.row) = some (xs.map SEnding.row) := optAll_self fun r hr => by
  obtain ⟨x, _, rfl⟩ := List.mem_map.mp hr
  simp
theorem SEnding.scalar (l : List SEnding) : scalarRows (l.map SEnding.row) := by
  intro r hr
  obtain ⟨x, _, rfl⟩ := List.mem_map.mp hr
  rfl
@[simp] theorem SEnding.lay (xs : List SEnding) (n : Nat) (H : Heap) : layT (n + 1) (.list (xs.map SEnding.row)) H = (.sl H.length 0 xs.length, H ++ [some (xs.map SEnding.row)]) := by rw [layT_list (SEnding.scalar xs)]; simp
theorem SEnding.plain (l : List SEnding) : plainRows (l.map SEnding.row) := by
  intro r hr
  obtain ⟨x, _, rfl⟩ := List.mem_map.mp hr
  intro l n H
  simp
structure SMachine where
  Run : SRun := {}
  deriving DecidableEq
def SMachine.row (x : SMachine) : List D := [.list (x.Run.World.Loaders.map SLoader.row), .list (x.Run.World.Classes.map SCls.row), .list (x.Run.World.Known.map SKnown.row), .list (x.Run.World.Bonds.map SBond.row), .list (x.Run.Heap_.map SObj.row), .list (x.Run.Acts.map SAct.row), .list (x.Run.Out.map rInt), .int .i64 x.Run.Fuel, .int .i64 x.Run.Room, .int .i64 x.Run.Steps, .bool x.Run.Prove, .int .i64 x.Run.End, .str x.Run.Name, .int .i64 x.Run.Fault.Code, .str x.Run.Fault.Name]
abbrev SMachine.d (x : SMachine) : D := .agg x.row
@[simp] theorem SMachine.len (x : SMachine) : x.row.length = 15 := rfl
def SMachine.shp : List Shp := [.list [.list [.str, .str], .list [.str, .int .i64], .int .i64], .list [.str, .int .i64, .list [.int .i64, .str, .int .i64, .int .i64], .int .i64, .int .i64, .int .i64, .list [.int .i64], .list [.int .i64, .int .i64, .int .i64], .list [.int .i64, .int .i64, .int .i64, .int .i64, .int .i64, .str, .list [.int .i64, .int .i64, .int .i64, .int .i64], .list [.int .i64, .list [.int .i64, .int .i64], .list [.int .i64, .int .i64]]], .int .i64, .list [.int .i64], .int .i64, .int .i64, .list [.int .i64, .int .i64], .list [.str, .str, .int .i64, .int .i64], .list [.int .i64, .int .i64]], .list [.int .i64, .str, .int .i64], .list [.str, .list [.int .i64], .int .i64], .list [.int .i64, .list [.int .i64, .int .i64]], .list [.int .i64, .int .i64, .int .i64, .list [.int .i64, .int .i64], .list [.int .i64, .int .i64], .int .i64], .list [.int .i64], .int .i64, .int .i64, .int .i64, .bool, .int .i64, .str, .int .i64, .str]
def SMachine.wf (x : SMachine) : Prop := (x.Run.World.Loaders.length ≤ 140737488351232 ∧ ∀ y ∈ x.Run.World.Loaders, y.wf) ∧ (x.Run.World.Classes.length ≤ 140737488351232 ∧ ∀ y ∈ x.Run.World.Classes, y.wf) ∧ (x.Run.World.Known.length ≤ 140737488351232 ∧ ∀ y ∈ x.Run.World.Known, y.wf) ∧ (x.Run.World.Bonds.length ≤ 140737488351232 ∧ ∀ y ∈ x.Run.World.Bonds, y.wf) ∧ (x.Run.Heap_.length ≤ 140737488351232 ∧ ∀ y ∈ x.Run.Heap_, y.wf) ∧ (x.Run.Acts.length ≤ 140737488351232 ∧ ∀ y ∈ x.Run.Acts, y.wf) ∧ (x.Run.Out.length ≤ 140737488351232 ∧ ∀ y ∈ x.Run.Out, i64 y) ∧ i64 x.Run.Fuel ∧ i64 x.Run.Room ∧ i64 x.Run.Steps ∧ i64 x.Run.End ∧ x.Run.Name.length ≤ 140737488351232 ∧ i64 x.Run.Fault.Code ∧ x.Run.Fault.Name.length ≤ 140737488351232
@[simp] theorem SMachine.whole (x : SMachine) : x.row.take 15 = x.row := rfl
@[simp] theorem SMachine.isCell (x : SMachine) : x.row.all D.isCell = true := rfl
@[simp] theorem SMachine.read (x : SMachine) (n : Nat) (H : Heap) : optAll (readT true (n + 1) H) x.row = some x.row := by simp [SMachine.row]
@[simp] theorem SMachine.readD (x : SMachine) (H : Heap) : readT true depth H (.agg x.row) = some (.agg x.row) := by rw [readT_agg9, SMachine.read x 7]; rfl
@[simp] theorem SMachine.kill (x : SMachine) (H K : Heap) : killT depth H (.agg x.row) K = K := rfl
structure PL10Run where
  r : SRun := {}
  deriving DecidableEq
def PL10Run.row (x : PL10Run) : List D := [.list (x.r.World.Loaders.map SLoader.row), .list (x.r.World.Classes.map SCls.row), .list (x.r.World.Known.map SKnown.row), .list (x.r.World.Bonds.map SBond.row), .list (x.r.Heap_.map SObj.row), .list (x.r.Acts.map SAct.row), .list (x.r.Out.map rInt), .int .i64 x.r.Fuel, .int .i64 x.r.Room, .int .i64 x.r.Steps, .bool x.r.Prove, .int .i64 x.r.End, .str x.r.Name, .int .i64 x.r.Fault.Code, .str x.r.Fault.Name]
abbrev PL10Run.d (x : PL10Run) : D := .agg x.row
@[simp] theorem PL10Run.len (x : PL10Run) : x.row.length = 15 := rfl
def PL10Run.shp : List Shp := [.list [.list [.str, .str], .list [.str, .int .i64], .int .i64], .list [.str, .int .i64, .list [.int .i64, .str, .int .i64, .int .i64], .int .i64, .int .i64, .int .i64, .list [.int .i64], .list [.int .i64, .int .i64, .int .i64], .list [.int .i64, .int .i64, .int .i64, .int .i64, .int .i64, .str, .list [.int .i64, .int .i64, .int .i64, .int .i64], .list [.int .i64, .list [.int .i64, .int .i64], .list [.int .i64, .int .i64]]], .int .i64, .list [.int .i64], .int .i64, .int .i64, .list [.int .i64, .int .i64], .list [.str, .str, .int .i64, .int .i64], .list [.int .i64, .int .i64]], .list [.int .i64, .str, .int .i64], .list [.str, .list [.int .i64], .int .i64], .list [.int .i64, .list [.int .i64, .int .i64]], .list [.int .i64, .int .i64, .int .i64, .list [.int .i64, .int .i64], .list [.int .i64, .int .i64], .int .i64], .list [.int .i64], .int .i64, .int .i64, .int .i64, .bool, .int .i64, .str, .int .i64, .str]
def PL10Run.wf (x : PL10Run) : Prop := (x.r.World.Loaders.length ≤ 140737488351232 ∧ ∀ y ∈ x.r.World.Loaders, y.wf) ∧ (x.r.World.Classes.length ≤ 140737488351232 ∧ ∀ y ∈ x.r.World.Classes, y.wf) ∧ (x.r.World.Known.length ≤ 140737488351232 ∧ ∀ y ∈ x.r.World.Known, y.wf) ∧ (x.r.World.Bonds.length ≤ 140737488351232 ∧ ∀ y ∈ x.r.World.Bonds, y.wf) ∧ (x.r.Heap_.length ≤ 140737488351232 ∧ ∀ y ∈ x.r.Heap_, y.wf) ∧ (x.r.Acts.length ≤ 140737488351232 ∧ ∀ y ∈ x.r.Acts, y.wf) ∧ (x.r.Out.length ≤ 140737488351232 ∧ ∀ y ∈ x.r.Out, i64 y) ∧ i64 x.r.Fuel ∧ i64 x.r.Room ∧ i64 x.r.Steps ∧ i64 x.r.End ∧ x.r.Name.length ≤ 140737488351232 ∧ i64 x.r.Fault.Code ∧ x.r.Fault.Name.length ≤ 140737488351232
@[simp] theorem PL10Run.whole (x : PL10Run) : x.row.take 15 = x.row := rfl
@[simp] theorem PL10Run.isCell (x : PL10Run) : x.row.all D.isCell = true := rfl
@[simp] theorem PL10Run.read (x : PL10Run) (n : Nat) (H : Heap) : optAll (readT true (n + 1) H) x.row = some x.row := by simp [PL10Run.row]
@[simp] theorem PL10Run.readD (x : PL10Run) (H : Heap) : readT true depth H (.agg x.row) = some (.agg x.row) := by rw [readT_agg9, PL10Run.read x 7]; rfl
@[simp] theorem PL10Run.kill (x : PL10Run) (H K : Heap) : killT depth H (.agg x.row) K = K := rfl
structure PL13Build where
  c : SClass := {}
  bad : Bool := false
  deriving DecidableEq
def PL13Build.row (x : PL13Build) : List D := [.list (x.c.Pool.map SConst.row), .int .i64 x.c.Flags, .int .i64 x.c.Name, .int .i64 x.c.Super, .list (x.c.Faces.map rInt), .list (x.c.Fields.map SField.row), .list (x.c.Methods.map SMethod.row), .bool x.bad]
abbrev PL13Build.d (x : PL13Build) : D := .agg x.row
@[simp] theorem PL13Build.len (x : PL13Build) : x.row.length = 8 := rfl
def PL13Build.shp : List Shp := [.list [.int .i64, .str, .int .i64, .int .i64], .int .i64, .int .i64, .int .i64, .list [.int .i64], .list [.int .i64, .int .i64, .int .i64], .list [.int .i64, .int .i64, .int .i64, .int .i64, .int .i64, .str, .list [.int .i64, .int .i64, .int .i64, .int .i64], .list [.int .i64, .list [.int .i64, .int .i64], .list [.int .i64, .int .i64]]], .bool]
def PL13Build.wf (x : PL13Build) : Prop := (x.c.Pool.length ≤ 140737488351232 ∧ ∀ y ∈ x.c.Pool, y.wf) ∧ i64 x.c.Flags ∧ i64 x.c.Name ∧ i64 x.c.Super ∧ (x.c.Faces.length ≤ 140737488351232 ∧ ∀ y ∈ x.c.Faces, i64 y) ∧ (x.c.Fields.length ≤ 140737488351232 ∧ ∀ y ∈ x.c.Fields, y.wf) ∧ (x.c.Methods.length ≤ 140737488351232 ∧ ∀ y ∈ x.c.Methods, y.wf)
@[simp] theorem PL13Build.whole (x : PL13Build) : x.row.take 8 = x.row := rfl
@[simp] theorem PL13Build.isCell (x : PL13Build) : x.row.all D.isCell = true := rfl
@[simp] theorem PL13Build.read (x : PL13Build) (n : Nat) (H : Heap) : optAll (readT true (n + 1) H) x.row = some x.row := by simp [PL13Build.row]
@[simp] theorem PL13Build.readD (x : PL13Build) (H : Heap) : readT true depth H (.agg x.row) = some (.agg x.row) := by rw [readT_agg9, PL13Build.read x 7]; rfl
@[simp] theorem PL13Build.kill (x : PL13Build) (H K : Heap) : killT depth H (.agg x.row) K = K := rfl
structure PL14Desk where
  s : SStart := {}
  to : Int := 0
  name : List UInt8 := []
  text : List UInt8 := []
  open_ : Bool := false
  deriving DecidableEq
def PL14Desk.row (x : PL14Desk) : List D := [.list (x.s.Loaders.map SLoader.row), .int .i64 x.s.Loader, .str x.s.Name, .int .i64 x.s.Fuel, .int .i64 x.s.Room, .bool x.s.Prove, .list (x.s.Picks.map SPick.row), .int .i64 x.to, .str x.name, .str x.text, .bool x.open_]
abbrev PL14Desk.d (x : PL14Desk) : D := .agg x.row
@[simp] theorem PL14Desk.len (x : PL14Desk) : x.row.length = 11 := rfl
def PL14Desk.shp : List Shp := [.list [.list [.str, .str], .list [.str, .int .i64], .int .i64], .int .i64, .str, .int .i64, .int .i64, .bool, .list [.int .i64, .int .i64, .int .i64, .str], .int .i64, .str, .str, .bool]
def PL14Desk.wf (x : PL14Desk) : Prop := (x.s.Loaders.length ≤ 140737488351232 ∧ ∀ y ∈ x.s.Loaders, y.wf) ∧ i64 x.s.Loader ∧ x.s.Name.length ≤ 140737488351232 ∧ i64 x.s.Fuel ∧ i64 x.s.Room ∧ (x.s.Picks.length ≤ 140737488351232 ∧ ∀ y ∈ x.s.Picks, y.wf) ∧ i64 x.to ∧ x.name.length ≤ 140737488351232 ∧ x.text.length ≤ 140737488351232
@[simp] theorem PL14Desk.whole (x : PL14Desk) : x.row.take 11 = x.row := rfl
@[simp] theorem PL14Desk.isCell (x : PL14Desk) : x.row.all D.isCell = true := rfl
@[simp] theorem PL14Desk.read (x : PL14Desk) (n : Nat) (H : Heap) : optAll (readT true (n + 1) H) x.row = some x.row := by simp [PL14Desk.row]
@[simp] theorem PL14Desk.readD (x : PL14Desk) (H : Heap) : readT true depth H (.agg x.row) = some (.agg x.row) := by rw [readT_agg9, PL14Desk.read x 7]; rfl
@[simp] theorem PL14Desk.kill (x : PL14Desk) (H K : Heap) : killT depth H (.agg x.row) K = K := rfl
structure PL15Rd where
  b : List UInt8 := []
  p : Int := 0
  deriving DecidableEq
def PL15Rd.row (x : PL15Rd) : List D := [.list (x.b.map rByte), .int .i64 x.p]
abbrev PL15Rd.d (x : PL15Rd) : D := .agg x.row
@[simp] theorem PL15Rd.len (x : PL15Rd) : x.row.length = 2 := rfl
def PL15Rd.shp : List Shp := [.list [.int .u8], .int .i64]
def PL15Rd.wf (x : PL15Rd) : Prop := (x.b.length ≤ 140737488351232 ∧ ∀ y ∈ x.b, True) ∧ i64 x.p
@[simp] theorem PL15Rd.whole (x : PL15Rd) : x.row.take 2 = x.row := rfl
@[simp] theorem PL15Rd.isCell (x : PL15Rd) : x.row.all D.isCell = true := rfl
@[simp] theorem PL15Rd.read (x : PL15Rd) (n : Nat) (H : Heap) : optAll (readT true (n + 1) H) x.row = some x.row := by simp [PL15Rd.row]
@[simp] theorem PL15Rd.readD (x : PL15Rd) (H : Heap) : readT true depth H (.agg x.row) = some (.agg x.row) := by rw [readT_agg9, PL15Rd.read x 7]; rfl
@[simp] theorem PL15Rd.kill (x : PL15Rd) (H K : Heap) : killT depth H (.agg x.row) K = K := rfl
structure PL1Rd where
  s : List UInt8 := []
  at_ : Int := 0
  bad : Bool := false
  deriving DecidableEq
def PL1Rd.row (x : PL1Rd) : List D := [.str x.s, .int .i64 x.at_, .bool x.bad]
abbrev PL1Rd.d (x : PL1Rd) : D := .agg x.row
@[simp] theorem PL1Rd.len (x : PL1Rd) : x.row.length = 3 := rfl
def PL1Rd.shp : List Shp := [.str, .int .i64, .bool]
def PL1Rd.wf (x : PL1Rd) : Prop := x.s.length ≤ 140737488351232 ∧ i64 x.at_
@[simp] theorem PL1Rd.whole (x : PL1Rd) : x.row.take 3 = x.row := rfl
@[simp] theorem PL1Rd.isCell (x : PL1Rd) : x.row.all D.isCell = true := rfl
@[simp] theorem PL1Rd.read (x : PL1Rd) (n : Nat) (H : Heap) : optAll (readT true (n + 1) H) x.row = some x.row := by simp [PL1Rd.row]
@[simp] theorem PL1Rd.readD (x : PL1Rd) (H : Heap) : readT true depth H (.agg x.row) = some (.agg x.row) := by rw [readT_agg9, PL1Rd.read x 7]; rfl
@[simp] theorem PL1Rd.kill (x : PL1Rd) (H K : Heap) : killT depth H (.agg x.row) K = K := rfl
@[simp] theorem PL1Rd.readF (x : PL1Rd) (l : Bool) (n : Nat) (H : Heap) : optAll (readT l n H) x.row = some x.row := by simp [PL1Rd.row]
@[simp] theorem PL1Rd.readFD (x : PL1Rd) (l : Bool) (H : Heap) : readT l depth H (.agg x.row) = some (.agg x.row) := by rw [readT_agg9, PL1Rd.readF]; rfl
@[simp] theorem PL1Rd.readRows (xs : List PL1Rd) (l : Bool) (n : Nat) (H : Heap) : optAll (optAll (readT l n H)) (xs.map PL1Rd.row) = some (xs.map PL1Rd.row) := optAll_self fun r hr => by
  obtain ⟨x, _, rfl⟩ := List.mem_map.mp hr
  simp
theorem PL1Rd.scalar (l : List PL1Rd) : scalarRows (l.map PL1Rd.row) := by
  intro r hr
  obtain ⟨x, _, rfl⟩ := List.mem_map.mp hr
  rfl
@[simp] theorem PL1Rd.lay (xs : List PL1Rd) (n : Nat) (H : Heap) : layT (n + 1) (.list (xs.map PL1Rd.row)) H = (.sl H.length 0 xs.length, H ++ [some (xs.map PL1Rd.row)]) := by rw [layT_list (PL1Rd.scalar xs)]; simp
theorem PL1Rd.plain (l : List PL1Rd) : plainRows (l.map PL1Rd.row) := by
  intro r hr
  obtain ⟨x, _, rfl⟩ := List.mem_map.mp hr
  intro l n H
  simp
structure PL5Pair where
  loader : Int := 0
  name : List UInt8 := []
  deriving DecidableEq
def PL5Pair.row (x : PL5Pair) : List D := [.int .i64 x.loader, .str x.name]
abbrev PL5Pair.d (x : PL5Pair) : D := .agg x.row
@[simp] theorem PL5Pair.len (x : PL5Pair) : x.row.length = 2 := rfl
def PL5Pair.shp : List Shp := [.int .i64, .str]
def PL5Pair.wf (x : PL5Pair) : Prop := i64 x.loader ∧ x.name.length ≤ 140737488351232
@[simp] theorem PL5Pair.whole (x : PL5Pair) : x.row.take 2 = x.row := rfl
@[simp] theorem PL5Pair.isCell (x : PL5Pair) : x.row.all D.isCell = true := rfl
@[simp] theorem PL5Pair.read (x : PL5Pair) (n : Nat) (H : Heap) : optAll (readT true (n + 1) H) x.row = some x.row := by simp [PL5Pair.row]
@[simp] theorem PL5Pair.readD (x : PL5Pair) (H : Heap) : readT true depth H (.agg x.row) = some (.agg x.row) := by rw [readT_agg9, PL5Pair.read x 7]; rfl
@[simp] theorem PL5Pair.kill (x : PL5Pair) (H K : Heap) : killT depth H (.agg x.row) K = K := rfl
@[simp] theorem PL5Pair.readF (x : PL5Pair) (l : Bool) (n : Nat) (H : Heap) : optAll (readT l n H) x.row = some x.row := by simp [PL5Pair.row]
@[simp] theorem PL5Pair.readFD (x : PL5Pair) (l : Bool) (H : Heap) : readT l depth H (.agg x.row) = some (.agg x.row) := by rw [readT_agg9, PL5Pair.readF]; rfl
@[simp] theorem PL5Pair.readRows (xs : List PL5Pair) (l : Bool) (n : Nat) (H : Heap) : optAll (optAll (readT l n H)) (xs.map PL5Pair.row) = some (xs.map PL5Pair.row) := optAll_self fun r hr => by
  obtain ⟨x, _, rfl⟩ := List.mem_map.mp hr
  simp
theorem PL5Pair.scalar (l : List PL5Pair) : scalarRows (l.map PL5Pair.row) := by
  intro r hr
  obtain ⟨x, _, rfl⟩ := List.mem_map.mp hr
  rfl
@[simp] theorem PL5Pair.lay (xs : List PL5Pair) (n : Nat) (H : Heap) : layT (n + 1) (.list (xs.map PL5Pair.row)) H = (.sl H.length 0 xs.length, H ++ [some (xs.map PL5Pair.row)]) := by rw [layT_list (PL5Pair.scalar xs)]; simp
theorem PL5Pair.plain (l : List PL5Pair) : plainRows (l.map PL5Pair.row) := by
  intro r hr
  obtain ⟨x, _, rfl⟩ := List.mem_map.mp hr
  intro l n H
  simp
structure PL5Quest where
  making : List PL5Pair := []
  asked : List Int := []
  deriving DecidableEq
def PL5Quest.row (x : PL5Quest) : List D := [.list (x.making.map PL5Pair.row), .list (x.asked.map rInt)]
abbrev PL5Quest.d (x : PL5Quest) : D := .agg x.row
@[simp] theorem PL5Quest.len (x : PL5Quest) : x.row.length = 2 := rfl
def PL5Quest.shp : List Shp := [.list [.int .i64, .str], .list [.int .i64]]
def PL5Quest.wf (x : PL5Quest) : Prop := (x.making.length ≤ 140737488351232 ∧ ∀ y ∈ x.making, y.wf) ∧ (x.asked.length ≤ 140737488351232 ∧ ∀ y ∈ x.asked, i64 y)
@[simp] theorem PL5Quest.whole (x : PL5Quest) : x.row.take 2 = x.row := rfl
@[simp] theorem PL5Quest.isCell (x : PL5Quest) : x.row.all D.isCell = true := rfl
@[simp] theorem PL5Quest.read (x : PL5Quest) (n : Nat) (H : Heap) : optAll (readT true (n + 1) H) x.row = some x.row := by simp [PL5Quest.row]
@[simp] theorem PL5Quest.readD (x : PL5Quest) (H : Heap) : readT true depth H (.agg x.row) = some (.agg x.row) := by rw [readT_agg9, PL5Quest.read x 7]; rfl
@[simp] theorem PL5Quest.kill (x : PL5Quest) (H K : Heap) : killT depth H (.agg x.row) K = K := rfl
structure PL9Kind where
  tag : Int := 0
  name : List UInt8 := []
  deriving DecidableEq
def PL9Kind.row (x : PL9Kind) : List D := [.int .i64 x.tag, .str x.name]
abbrev PL9Kind.d (x : PL9Kind) : D := .agg x.row
@[simp] theorem PL9Kind.len (x : PL9Kind) : x.row.length = 2 := rfl
def PL9Kind.shp : List Shp := [.int .i64, .str]
def PL9Kind.wf (x : PL9Kind) : Prop := i64 x.tag ∧ x.name.length ≤ 140737488351232
@[simp] theorem PL9Kind.whole (x : PL9Kind) : x.row.take 2 = x.row := rfl
@[simp] theorem PL9Kind.isCell (x : PL9Kind) : x.row.all D.isCell = true := rfl
@[simp] theorem PL9Kind.read (x : PL9Kind) (n : Nat) (H : Heap) : optAll (readT true (n + 1) H) x.row = some x.row := by simp [PL9Kind.row]
@[simp] theorem PL9Kind.readD (x : PL9Kind) (H : Heap) : readT true depth H (.agg x.row) = some (.agg x.row) := by rw [readT_agg9, PL9Kind.read x 7]; rfl
@[simp] theorem PL9Kind.kill (x : PL9Kind) (H K : Heap) : killT depth H (.agg x.row) K = K := rfl
@[simp] theorem PL9Kind.readF (x : PL9Kind) (l : Bool) (n : Nat) (H : Heap) : optAll (readT l n H) x.row = some x.row := by simp [PL9Kind.row]
@[simp] theorem PL9Kind.readFD (x : PL9Kind) (l : Bool) (H : Heap) : readT l depth H (.agg x.row) = some (.agg x.row) := by rw [readT_agg9, PL9Kind.readF]; rfl
@[simp] theorem PL9Kind.readRows (xs : List PL9Kind) (l : Bool) (n : Nat) (H : Heap) : optAll (optAll (readT l n H)) (xs.map PL9Kind.row) = some (xs.map PL9Kind.row) := optAll_self fun r hr => by
  obtain ⟨x, _, rfl⟩ := List.mem_map.mp hr
  simp
theorem PL9Kind.scalar (l : List PL9Kind) : scalarRows (l.map PL9Kind.row) := by
  intro r hr
  obtain ⟨x, _, rfl⟩ := List.mem_map.mp hr
  rfl
@[simp] theorem PL9Kind.lay (xs : List PL9Kind) (n : Nat) (H : Heap) : layT (n + 1) (.list (xs.map PL9Kind.row)) H = (.sl H.length 0 xs.length, H ++ [some (xs.map PL9Kind.row)]) := by rw [layT_list (PL9Kind.scalar xs)]; simp
theorem PL9Kind.plain (l : List PL9Kind) : plainRows (l.map PL9Kind.row) := by
  intro r hr
  obtain ⟨x, _, rfl⟩ := List.mem_map.mp hr
  intro l n H
  simp
structure PL9State where
  locals : List PL9Kind := []
  stack : List PL9Kind := []
  dead : Bool := false
  deriving DecidableEq
def PL9State.row (x : PL9State) : List D := [.list (x.locals.map PL9Kind.row), .list (x.stack.map PL9Kind.row), .bool x.dead]
abbrev PL9State.d (x : PL9State) : D := .agg x.row
@[simp] theorem PL9State.len (x : PL9State) : x.row.length = 3 := rfl
def PL9State.shp : List Shp := [.list [.int .i64, .str], .list [.int .i64, .str], .bool]
def PL9State.wf (x : PL9State) : Prop := (x.locals.length ≤ 140737488351232 ∧ ∀ y ∈ x.locals, y.wf) ∧ (x.stack.length ≤ 140737488351232 ∧ ∀ y ∈ x.stack, y.wf)
@[simp] theorem PL9State.whole (x : PL9State) : x.row.take 3 = x.row := rfl
@[simp] theorem PL9State.isCell (x : PL9State) : x.row.all D.isCell = true := rfl
@[simp] theorem PL9State.read (x : PL9State) (n : Nat) (H : Heap) : optAll (readT true (n + 1) H) x.row = some x.row := by simp [PL9State.row]
@[simp] theorem PL9State.readD (x : PL9State) (H : Heap) : readT true depth H (.agg x.row) = some (.agg x.row) := by rw [readT_agg9, PL9State.read x 7]; rfl
@[simp] theorem PL9State.kill (x : PL9State) (H K : Heap) : killT depth H (.agg x.row) K = K := rfl
structure PL9Go where
  at_ : Int := 0
  s : PL9State := {}
  deriving DecidableEq
def PL9Go.row (x : PL9Go) : List D := [.int .i64 x.at_, .list (x.s.locals.map PL9Kind.row), .list (x.s.stack.map PL9Kind.row), .bool x.s.dead]
abbrev PL9Go.d (x : PL9Go) : D := .agg x.row
@[simp] theorem PL9Go.len (x : PL9Go) : x.row.length = 4 := rfl
def PL9Go.shp : List Shp := [.int .i64, .list [.int .i64, .str], .list [.int .i64, .str], .bool]
def PL9Go.wf (x : PL9Go) : Prop := i64 x.at_ ∧ (x.s.locals.length ≤ 140737488351232 ∧ ∀ y ∈ x.s.locals, y.wf) ∧ (x.s.stack.length ≤ 140737488351232 ∧ ∀ y ∈ x.s.stack, y.wf)
@[simp] theorem PL9Go.whole (x : PL9Go) : x.row.take 4 = x.row := rfl
@[simp] theorem PL9Go.isCell (x : PL9Go) : x.row.all D.isCell = true := rfl
@[simp] theorem PL9Go.read (x : PL9Go) (n : Nat) (H : Heap) : optAll (readT true (n + 1) H) x.row = some x.row := by simp [PL9Go.row]
@[simp] theorem PL9Go.readD (x : PL9Go) (H : Heap) : readT true depth H (.agg x.row) = some (.agg x.row) := by rw [readT_agg9, PL9Go.read x 7]; rfl
@[simp] theorem PL9Go.kill (x : PL9Go) (H K : Heap) : killT depth H (.agg x.row) K = K := rfl
structure PL9Proof where
  w : SWorld := {}
  class_ : Int := 0
  m : SMethod := {}
  list : List SIns := []
  fault : SFault := {}
  s : PL9State := {}
  free : Bool := false
  goes : List PL9Go := []
  deriving DecidableEq
def PL9Proof.row (x : PL9Proof) : List D := [.list (x.w.Loaders.map SLoader.row), .list (x.w.Classes.map SCls.row), .list (x.w.Known.map SKnown.row), .list (x.w.Bonds.map SBond.row), .int .i64 x.class_, .int .i64 x.m.Flags, .int .i64 x.m.Name, .int .i64 x.m.Desc, .int .i64 x.m.Deep, .int .i64 x.m.Locals, .str x.m.Code, .list (x.m.Traps.map STrap.row), .list (x.m.Frames.map SFrame.row), .list (x.list.map SIns.row), .int .i64 x.fault.Code, .str x.fault.Name, .list (x.s.locals.map PL9Kind.row), .list (x.s.stack.map PL9Kind.row), .bool x.s.dead, .bool x.free, .list (x.goes.map PL9Go.row)]
abbrev PL9Proof.d (x : PL9Proof) : D := .agg x.row
@[simp] theorem PL9Proof.len (x : PL9Proof) : x.row.length = 21 := rfl
def PL9Proof.shp : List Shp := [.list [.list [.str, .str], .list [.str, .int .i64], .int .i64], .list [.str, .int .i64, .list [.int .i64, .str, .int .i64, .int .i64], .int .i64, .int .i64, .int .i64, .list [.int .i64], .list [.int .i64, .int .i64, .int .i64], .list [.int .i64, .int .i64, .int .i64, .int .i64, .int .i64, .str, .list [.int .i64, .int .i64, .int .i64, .int .i64], .list [.int .i64, .list [.int .i64, .int .i64], .list [.int .i64, .int .i64]]], .int .i64, .list [.int .i64], .int .i64, .int .i64, .list [.int .i64, .int .i64], .list [.str, .str, .int .i64, .int .i64], .list [.int .i64, .int .i64]], .list [.int .i64, .str, .int .i64], .list [.str, .list [.int .i64], .int .i64], .int .i64, .int .i64, .int .i64, .int .i64, .int .i64, .int .i64, .str, .list [.int .i64, .int .i64, .int .i64, .int .i64], .list [.int .i64, .list [.int .i64, .int .i64], .list [.int .i64, .int .i64]], .list [.int .i64, .int .i64, .int .i64], .int .i64, .str, .list [.int .i64, .str], .list [.int .i64, .str], .bool, .bool, .list [.int .i64, .list [.int .i64, .str], .list [.int .i64, .str], .bool]]
def PL9Proof.wf (x : PL9Proof) : Prop := (x.w.Loaders.length ≤ 140737488351232 ∧ ∀ y ∈ x.w.Loaders, y.wf) ∧ (x.w.Classes.length ≤ 140737488351232 ∧ ∀ y ∈ x.w.Classes, y.wf) ∧ (x.w.Known.length ≤ 140737488351232 ∧ ∀ y ∈ x.w.Known, y.wf) ∧ (x.w.Bonds.length ≤ 140737488351232 ∧ ∀ y ∈ x.w.Bonds, y.wf) ∧ i64 x.class_ ∧ i64 x.m.Flags ∧ i64 x.m.Name ∧ i64 x.m.Desc ∧ i64 x.m.Deep ∧ i64 x.m.Locals ∧ x.m.Code.length ≤ 140737488351232 ∧ (x.m.Traps.length ≤ 140737488351232 ∧ ∀ y ∈ x.m.Traps, y.wf) ∧ (x.m.Frames.length ≤ 140737488351232 ∧ ∀ y ∈ x.m.Frames, y.wf) ∧ (x.list.length ≤ 140737488351232 ∧ ∀ y ∈ x.list, y.wf) ∧ i64 x.fault.Code ∧ x.fault.Name.length ≤ 140737488351232 ∧ (x.s.locals.length ≤ 140737488351232 ∧ ∀ y ∈ x.s.locals, y.wf) ∧ (x.s.stack.length ≤ 140737488351232 ∧ ∀ y ∈ x.s.stack, y.wf) ∧ (x.goes.length ≤ 140737488351232 ∧ ∀ y ∈ x.goes, y.wf)
@[simp] theorem PL9Proof.whole (x : PL9Proof) : x.row.take 21 = x.row := rfl
@[simp] theorem PL9Proof.isCell (x : PL9Proof) : x.row.all D.isCell = true := rfl
@[simp] theorem PL9Proof.read (x : PL9Proof) (n : Nat) (H : Heap) : optAll (readT true (n + 1) H) x.row = some x.row := by simp [PL9Proof.row]
@[simp] theorem PL9Proof.readD (x : PL9Proof) (H : Heap) : readT true depth H (.agg x.row) = some (.agg x.row) := by rw [readT_agg9, PL9Proof.read x 7]; rfl
@[simp] theorem PL9Proof.kill (x : PL9Proof) (H K : Heap) : killT depth H (.agg x.row) K = K := rfl
end Go.Ev
