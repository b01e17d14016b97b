import Derived.Test.YtmljkoieihaomaaGreatXf
namespace Go.Ev
set_option linter.unusedVariables false
def rInt (n:Int):List D:=[.int .i64 n]
def rStr (s:List UInt8):List D:=[.str s]
def rBool (b:Bool):List D:=[.bool b]
def rByte (n:UInt8):List D:=[.int .u8 n.toNat]
structure SConst where
 Kind:Int:=0
 Text:List UInt8:=[]
 A:Int:=0
 B:Int:=0
 deriving DecidableEq
def SConst.row (x:SConst):List D:=[.int .i64 x.Kind,.str x.Text,.int .i64 x.A,.int .i64 x.B]
abbrev SConst.d (x:SConst):D:=.agg x.row
@[simp] theorem SConst.len (x:SConst):x.row.length=4:=rfl
def SConst.shp:List Shp:=[.int .i64,.str,.int .i64,.int .i64]
def SConst.wf (x:SConst):Prop:=i64 x.Kind∧x.Text.length≤140737488351232∧i64 x.A∧i64 x.B
@[simp] theorem SConst.whole (x:SConst):x.row.take 4=x.row:=rfl
@[simp] theorem SConst.isCell (x:SConst):x.row.all D.isCell=true:=rfl
@[simp] theorem SConst.read (x:SConst) (n:Nat) (H:Heap):optAll (readT true (n + 1) H) x.row=some x.row:=by simp [SConst.row]
@[simp] theorem SConst.readD (x:SConst) (H:Heap):readT true depth H (.agg x.row)=some (.agg x.row):=by rw [readT_agg9,SConst.read x 7]; rfl
@[simp] theorem SConst.kill (x:SConst) (H K:Heap):killT depth H (.agg x.row) K=K:=rfl
@[simp] theorem SConst.readF (x:SConst) (l:Bool) (n:Nat) (H:Heap):optAll (readT l n H) x.row=some x.row:=by simp [SConst.row]
theorem SConst.scalar (l:List SConst):scalarRows (l.map SConst.row):=by
 intro r hr
 obtain ⟨x,_,rfl⟩:=List.mem_map.mp hr
 rfl
@[simp] theorem SConst.lay (xs:List SConst) (n:Nat) (H:Heap):layT (n + 1) (.list (xs.map SConst.row)) H=(.sl H.length 0 xs.length,H++[some (xs.map SConst.row)]):=by rw [layT_list (SConst.scalar xs)]; simp
theorem SConst.plain (l:List SConst):plainRows (l.map SConst.row):=by
 intro r hr
 obtain ⟨x,_,rfl⟩:=List.mem_map.mp hr
 intro l n H
 exact SConst.readF x l n H
structure SField where
 Flags:Int:=0
 Name:Int:=0
 Typ:Int:=0
 deriving DecidableEq
def SField.row (x:SField):List D:=[.int .i64 x.Flags,.int .i64 x.Name,.int .i64 x.Typ]
abbrev SField.d (x:SField):D:=.agg x.row
@[simp] theorem SField.len (x:SField):x.row.length=3:=rfl
def SField.shp:List Shp:=[.int .i64,.int .i64,.int .i64]
def SField.wf (x:SField):Prop:=i64 x.Flags∧i64 x.Name∧i64 x.Typ
@[simp] theorem SField.whole (x:SField):x.row.take 3=x.row:=rfl
@[simp] theorem SField.isCell (x:SField):x.row.all D.isCell=true:=rfl
@[simp] theorem SField.read (x:SField) (n:Nat) (H:Heap):optAll (readT true (n + 1) H) x.row=some x.row:=by simp [SField.row]
@[simp] theorem SField.readD (x:SField) (H:Heap):readT true depth H (.agg x.row)=some (.agg x.row):=by rw [readT_agg9,SField.read x 7]; rfl
@[simp] theorem SField.kill (x:SField) (H K:Heap):killT depth H (.agg x.row) K=K:=rfl
@[simp] theorem SField.readF (x:SField) (l:Bool) (n:Nat) (H:Heap):optAll (readT l n H) x.row=some x.row:=by simp [SField.row]
theorem SField.scalar (l:List SField):scalarRows (l.map SField.row):=by
 intro r hr
 obtain ⟨x,_,rfl⟩:=List.mem_map.mp hr
 rfl
@[simp] theorem SField.lay (xs:List SField) (n:Nat) (H:Heap):layT (n + 1) (.list (xs.map SField.row)) H=(.sl H.length 0 xs.length,H++[some (xs.map SField.row)]):=by rw [layT_list (SField.scalar xs)]; simp
theorem SField.plain (l:List SField):plainRows (l.map SField.row):=by
 intro r hr
 obtain ⟨x,_,rfl⟩:=List.mem_map.mp hr
 intro l n H
 exact SField.readF x l n H
structure STrap where
 From:Int:=0
 To:Int:=0
 At:Int:=0
 Class:Int:=0
 deriving DecidableEq
def STrap.row (x:STrap):List D:=[.int .i64 x.From,.int .i64 x.To,.int .i64 x.At,.int .i64 x.Class]
abbrev STrap.d (x:STrap):D:=.agg x.row
@[simp] theorem STrap.len (x:STrap):x.row.length=4:=rfl
def STrap.shp:List Shp:=[.int .i64,.int .i64,.int .i64,.int .i64]
def STrap.wf (x:STrap):Prop:=i64 x.From∧i64 x.To∧i64 x.At∧i64 x.Class
@[simp] theorem STrap.whole (x:STrap):x.row.take 4=x.row:=rfl
@[simp] theorem STrap.isCell (x:STrap):x.row.all D.isCell=true:=rfl
@[simp] theorem STrap.read (x:STrap) (n:Nat) (H:Heap):optAll (readT true (n + 1) H) x.row=some x.row:=by simp [STrap.row]
@[simp] theorem STrap.readD (x:STrap) (H:Heap):readT true depth H (.agg x.row)=some (.agg x.row):=by rw [readT_agg9,STrap.read x 7]; rfl
@[simp] theorem STrap.kill (x:STrap) (H K:Heap):killT depth H (.agg x.row) K=K:=rfl
@[simp] theorem STrap.readF (x:STrap) (l:Bool) (n:Nat) (H:Heap):optAll (readT l n H) x.row=some x.row:=by simp [STrap.row]
theorem STrap.scalar (l:List STrap):scalarRows (l.map STrap.row):=by
 intro r hr
 obtain ⟨x,_,rfl⟩:=List.mem_map.mp hr
 rfl
@[simp] theorem STrap.lay (xs:List STrap) (n:Nat) (H:Heap):layT (n + 1) (.list (xs.map STrap.row)) H=(.sl H.length 0 xs.length,H++[some (xs.map STrap.row)]):=by rw [layT_list (STrap.scalar xs)]; simp
theorem STrap.plain (l:List STrap):plainRows (l.map STrap.row):=by
 intro r hr
 obtain ⟨x,_,rfl⟩:=List.mem_map.mp hr
 intro l n H
 exact STrap.readF x l n H
structure SKind where
 Tag:Int:=0
 Class:Int:=0
 deriving DecidableEq
def SKind.row (x:SKind):List D:=[.int .i64 x.Tag,.int .i64 x.Class]
abbrev SKind.d (x:SKind):D:=.agg x.row
@[simp] theorem SKind.len (x:SKind):x.row.length=2:=rfl
def SKind.shp:List Shp:=[.int .i64,.int .i64]
def SKind.wf (x:SKind):Prop:=i64 x.Tag∧i64 x.Class
@[simp] theorem SKind.whole (x:SKind):x.row.take 2=x.row:=rfl
@[simp] theorem SKind.isCell (x:SKind):x.row.all D.isCell=true:=rfl
@[simp] theorem SKind.read (x:SKind) (n:Nat) (H:Heap):optAll (readT true (n + 1) H) x.row=some x.row:=by simp [SKind.row]
@[simp] theorem SKind.readD (x:SKind) (H:Heap):readT true depth H (.agg x.row)=some (.agg x.row):=by rw [readT_agg9,SKind.read x 7]; rfl
@[simp] theorem SKind.kill (x:SKind) (H K:Heap):killT depth H (.agg x.row) K=K:=rfl
@[simp] theorem SKind.readF (x:SKind) (l:Bool) (n:Nat) (H:Heap):optAll (readT l n H) x.row=some x.row:=by simp [SKind.row]
theorem SKind.scalar (l:List SKind):scalarRows (l.map SKind.row):=by
 intro r hr
 obtain ⟨x,_,rfl⟩:=List.mem_map.mp hr
 rfl
@[simp] theorem SKind.lay (xs:List SKind) (n:Nat) (H:Heap):layT (n + 1) (.list (xs.map SKind.row)) H=(.sl H.length 0 xs.length,H++[some (xs.map SKind.row)]):=by rw [layT_list (SKind.scalar xs)]; simp
theorem SKind.plain (l:List SKind):plainRows (l.map SKind.row):=by
 intro r hr
 obtain ⟨x,_,rfl⟩:=List.mem_map.mp hr
 intro l n H
 exact SKind.readF x l n H
structure SFrame where
 At:Int:=0
 Locals:List SKind:=[]
 Stack:List SKind:=[]
 deriving DecidableEq
def SFrame.row (x:SFrame):List D:=[.int .i64 x.At,.list (x.Locals.map SKind.row),.list (x.Stack.map SKind.row)]
abbrev SFrame.d (x:SFrame):D:=.agg x.row
@[simp] theorem SFrame.len (x:SFrame):x.row.length=3:=rfl
def SFrame.shp:List Shp:=[.int .i64,.list [.int .i64,.int .i64],.list [.int .i64,.int .i64]]
def SFrame.wf (x:SFrame):Prop:=i64 x.At∧(x.Locals.length≤140737488351232∧∀ y ∈ x.Locals,y.wf)∧(x.Stack.length≤140737488351232∧∀ y ∈ x.Stack,y.wf)
@[simp] theorem SFrame.whole (x:SFrame):x.row.take 3=x.row:=rfl
@[simp] theorem SFrame.isCell (x:SFrame):x.row.all D.isCell=true:=rfl
@[simp] theorem SFrame.read (x:SFrame) (n:Nat) (H:Heap):optAll (readT true (n + 1) H) x.row=some x.row:=by simp [SFrame.row]
@[simp] theorem SFrame.readD (x:SFrame) (H:Heap):readT true depth H (.agg x.row)=some (.agg x.row):=by rw [readT_agg9,SFrame.read x 7]; rfl
@[simp] theorem SFrame.kill (x:SFrame) (H K:Heap):killT depth H (.agg x.row) K=K:=rfl
structure SMethod where
 Flags:Int:=0
 Name:Int:=0
 Desc:Int:=0
 Deep:Int:=0
 Locals:Int:=0
 Code:List UInt8:=[]
 Traps:List STrap:=[]
 Frames:List SFrame:=[]
 deriving DecidableEq
def SMethod.row (x:SMethod):List D:=[.int .i64 x.Flags,.int .i64 x.Name,.int .i64 x.Desc,.int .i64 x.Deep,.int .i64 x.Locals,.str x.Code,.list (x.Traps.map STrap.row),.list (x.Frames.map SFrame.row)]
abbrev SMethod.d (x:SMethod):D:=.agg x.row
@[simp] theorem SMethod.len (x:SMethod):x.row.length=8:=rfl
def SMethod.shp:List Shp:=[.int .i64,.int .i64,.int .i64,.int .i64,.int .i64,.str,.list [.int .i64,.int .i64,.int .i64,.int .i64],.list [.int .i64,.list [.int .i64,.int .i64],.list [.int .i64,.int .i64]]]
def SMethod.wf (x:SMethod):Prop:=i64 x.Flags∧i64 x.Name∧i64 x.Desc∧i64 x.Deep∧i64 x.Locals∧x.Code.length≤140737488351232∧(x.Traps.length≤140737488351232∧∀ y ∈ x.Traps,y.wf)∧(x.Frames.length≤140737488351232∧∀ y ∈ x.Frames,y.wf)
@[simp] theorem SMethod.whole (x:SMethod):x.row.take 8=x.row:=rfl
@[simp] theorem SMethod.isCell (x:SMethod):x.row.all D.isCell=true:=rfl
@[simp] theorem SMethod.read (x:SMethod) (n:Nat) (H:Heap):optAll (readT true (n + 1) H) x.row=some x.row:=by simp [SMethod.row]
@[simp] theorem SMethod.readD (x:SMethod) (H:Heap):readT true depth H (.agg x.row)=some (.agg x.row):=by rw [readT_agg9,SMethod.read x 7]; rfl
@[simp] theorem SMethod.kill (x:SMethod) (H K:Heap):killT depth H (.agg x.row) K=K:=rfl
structure SClass where
 Pool:List SConst:=[]
 Flags:Int:=0
 Name:Int:=0
 Super:Int:=0
 Faces:List Int:=[]
 Fields:List SField:=[]
 Methods:List SMethod:=[]
 deriving DecidableEq
def SClass.row (x:SClass):List D:=[.list (x.Pool.map SConst.row),.int .i64 x.Flags,.int .i64 x.Name,.int .i64 x.Super,.list (x.Faces.map rInt),.list (x.Fields.map SField.row),.list (x.Methods.map SMethod.row)]
abbrev SClass.d (x:SClass):D:=.agg x.row
@[simp] theorem SClass.len (x:SClass):x.row.length=7:=rfl
def SClass.shp:List Shp:=[.list [.int .i64,.str,.int .i64,.int .i64],.int .i64,.int .i64,.int .i64,.list [.int .i64],.list [.int .i64,.int .i64,.int .i64],.list [.int .i64,.int .i64,.int .i64,.int .i64,.int .i64,.str,.list [.int .i64,.int .i64,.int .i64,.int .i64],.list [.int .i64,.list [.int .i64,.int .i64],.list [.int .i64,.int .i64]]]]
def SClass.wf (x:SClass):Prop:=(x.Pool.length≤140737488351232∧∀ y ∈ x.Pool,y.wf)∧i64 x.Flags∧i64 x.Name∧i64 x.Super∧(x.Faces.length≤140737488351232∧∀ y ∈ x.Faces,i64 y)∧(x.Fields.length≤140737488351232∧∀ y ∈ x.Fields,y.wf)∧(x.Methods.length≤140737488351232∧∀ y ∈ x.Methods,y.wf)
@[simp] theorem SClass.whole (x:SClass):x.row.take 7=x.row:=rfl
@[simp] theorem SClass.isCell (x:SClass):x.row.all D.isCell=true:=rfl
@[simp] theorem SClass.read (x:SClass) (n:Nat) (H:Heap):optAll (readT true (n + 1) H) x.row=some x.row:=by simp [SClass.row]
@[simp] theorem SClass.readD (x:SClass) (H:Heap):readT true depth H (.agg x.row)=some (.agg x.row):=by rw [readT_agg9,SClass.read x 7]; rfl
@[simp] theorem SClass.kill (x:SClass) (H K:Heap):killT depth H (.agg x.row) K=K:=rfl
structure SIns where
 At:Int:=0
 Op:Int:=0
 Num:Int:=0
 deriving DecidableEq
def SIns.row (x:SIns):List D:=[.int .i64 x.At,.int .i64 x.Op,.int .i64 x.Num]
abbrev SIns.d (x:SIns):D:=.agg x.row
@[simp] theorem SIns.len (x:SIns):x.row.length=3:=rfl
def SIns.shp:List Shp:=[.int .i64,.int .i64,.int .i64]
def SIns.wf (x:SIns):Prop:=i64 x.At∧i64 x.Op∧i64 x.Num
@[simp] theorem SIns.whole (x:SIns):x.row.take 3=x.row:=rfl
@[simp] theorem SIns.isCell (x:SIns):x.row.all D.isCell=true:=rfl
@[simp] theorem SIns.read (x:SIns) (n:Nat) (H:Heap):optAll (readT true (n + 1) H) x.row=some x.row:=by simp [SIns.row]
@[simp] theorem SIns.readD (x:SIns) (H:Heap):readT true depth H (.agg x.row)=some (.agg x.row):=by rw [readT_agg9,SIns.read x 7]; rfl
@[simp] theorem SIns.kill (x:SIns) (H K:Heap):killT depth H (.agg x.row) K=K:=rfl
@[simp] theorem SIns.readF (x:SIns) (l:Bool) (n:Nat) (H:Heap):optAll (readT l n H) x.row=some x.row:=by simp [SIns.row]
theorem SIns.scalar (l:List SIns):scalarRows (l.map SIns.row):=by
 intro r hr
 obtain ⟨x,_,rfl⟩:=List.mem_map.mp hr
 rfl
@[simp] theorem SIns.lay (xs:List SIns) (n:Nat) (H:Heap):layT (n + 1) (.list (xs.map SIns.row)) H=(.sl H.length 0 xs.length,H++[some (xs.map SIns.row)]):=by rw [layT_list (SIns.scalar xs)]; simp
theorem SIns.plain (l:List SIns):plainRows (l.map SIns.row):=by
 intro r hr
 obtain ⟨x,_,rfl⟩:=List.mem_map.mp hr
 intro l n H
 exact SIns.readF x l n H
structure SFile where
 Name:List UInt8:=[]
 Text:List UInt8:=[]
 deriving DecidableEq
def SFile.row (x:SFile):List D:=[.str x.Name,.str x.Text]
abbrev SFile.d (x:SFile):D:=.agg x.row
@[simp] theorem SFile.len (x:SFile):x.row.length=2:=rfl
def SFile.shp:List Shp:=[.str,.str]
def SFile.wf (x:SFile):Prop:=x.Name.length≤140737488351232∧x.Text.length≤140737488351232
@[simp] theorem SFile.whole (x:SFile):x.row.take 2=x.row:=rfl
@[simp] theorem SFile.isCell (x:SFile):x.row.all D.isCell=true:=rfl
@[simp] theorem SFile.read (x:SFile) (n:Nat) (H:Heap):optAll (readT true (n + 1) H) x.row=some x.row:=by simp [SFile.row]
@[simp] theorem SFile.readD (x:SFile) (H:Heap):readT true depth H (.agg x.row)=some (.agg x.row):=by rw [readT_agg9,SFile.read x 7]; rfl
@[simp] theorem SFile.kill (x:SFile) (H K:Heap):killT depth H (.agg x.row) K=K:=rfl
@[simp] theorem SFile.readF (x:SFile) (l:Bool) (n:Nat) (H:Heap):optAll (readT l n H) x.row=some x.row:=by simp [SFile.row]
theorem SFile.scalar (l:List SFile):scalarRows (l.map SFile.row):=by
 intro r hr
 obtain ⟨x,_,rfl⟩:=List.mem_map.mp hr
 rfl
@[simp] theorem SFile.lay (xs:List SFile) (n:Nat) (H:Heap):layT (n + 1) (.list (xs.map SFile.row)) H=(.sl H.length 0 xs.length,H++[some (xs.map SFile.row)]):=by rw [layT_list (SFile.scalar xs)]; simp
theorem SFile.plain (l:List SFile):plainRows (l.map SFile.row):=by
 intro r hr
 obtain ⟨x,_,rfl⟩:=List.mem_map.mp hr
 intro l n H
 exact SFile.readF x l n H
structure SWay where
 Name:List UInt8:=[]
 To:Int:=0
 deriving DecidableEq
def SWay.row (x:SWay):List D:=[.str x.Name,.int .i64 x.To]
abbrev SWay.d (x:SWay):D:=.agg x.row
@[simp] theorem SWay.len (x:SWay):x.row.length=2:=rfl
def SWay.shp:List Shp:=[.str,.int .i64]
def SWay.wf (x:SWay):Prop:=x.Name.length≤140737488351232∧i64 x.To
@[simp] theorem SWay.whole (x:SWay):x.row.take 2=x.row:=rfl
@[simp] theorem SWay.isCell (x:SWay):x.row.all D.isCell=true:=rfl
@[simp] theorem SWay.read (x:SWay) (n:Nat) (H:Heap):optAll (readT true (n + 1) H) x.row=some x.row:=by simp [SWay.row]
@[simp] theorem SWay.readD (x:SWay) (H:Heap):readT true depth H (.agg x.row)=some (.agg x.row):=by rw [readT_agg9,SWay.read x 7]; rfl
@[simp] theorem SWay.kill (x:SWay) (H K:Heap):killT depth H (.agg x.row) K=K:=rfl
@[simp] theorem SWay.readF (x:SWay) (l:Bool) (n:Nat) (H:Heap):optAll (readT l n H) x.row=some x.row:=by simp [SWay.row]
theorem SWay.scalar (l:List SWay):scalarRows (l.map SWay.row):=by
 intro r hr
 obtain ⟨x,_,rfl⟩:=List.mem_map.mp hr
 rfl
@[simp] theorem SWay.lay (xs:List SWay) (n:Nat) (H:Heap):layT (n + 1) (.list (xs.map SWay.row)) H=(.sl H.length 0 xs.length,H++[some (xs.map SWay.row)]):=by rw [layT_list (SWay.scalar xs)]; simp
theorem SWay.plain (l:List SWay):plainRows (l.map SWay.row):=by
 intro r hr
 obtain ⟨x,_,rfl⟩:=List.mem_map.mp hr
 intro l n H
 exact SWay.readF x l n H
structure SLoader where
 Files:List SFile:=[]
 Ways:List SWay:=[]
 Parent:Int:=0
 deriving DecidableEq
def SLoader.row (x:SLoader):List D:=[.list (x.Files.map SFile.row),.list (x.Ways.map SWay.row),.int .i64 x.Parent]
abbrev SLoader.d (x:SLoader):D:=.agg x.row
@[simp] theorem SLoader.len (x:SLoader):x.row.length=3:=rfl
def SLoader.shp:List Shp:=[.list [.str,.str],.list [.str,.int .i64],.int .i64]
def SLoader.wf (x:SLoader):Prop:=(x.Files.length≤140737488351232∧∀ y ∈ x.Files,y.wf)∧(x.Ways.length≤140737488351232∧∀ y ∈ x.Ways,y.wf)∧i64 x.Parent
@[simp] theorem SLoader.whole (x:SLoader):x.row.take 3=x.row:=rfl
@[simp] theorem SLoader.isCell (x:SLoader):x.row.all D.isCell=true:=rfl
@[simp] theorem SLoader.read (x:SLoader) (n:Nat) (H:Heap):optAll (readT true (n + 1) H) x.row=some x.row:=by simp [SLoader.row]
@[simp] theorem SLoader.readD (x:SLoader) (H:Heap):readT true depth H (.agg x.row)=some (.agg x.row):=by rw [readT_agg9,SLoader.read x 7]; rfl
@[simp] theorem SLoader.kill (x:SLoader) (H K:Heap):killT depth H (.agg x.row) K=K:=rfl
structure SKnown where
 Loader:Int:=0
 Name:List UInt8:=[]
 Class:Int:=0
 deriving DecidableEq
def SKnown.row (x:SKnown):List D:=[.int .i64 x.Loader,.str x.Name,.int .i64 x.Class]
abbrev SKnown.d (x:SKnown):D:=.agg x.row
@[simp] theorem SKnown.len (x:SKnown):x.row.length=3:=rfl
def SKnown.shp:List Shp:=[.int .i64,.str,.int .i64]
def SKnown.wf (x:SKnown):Prop:=i64 x.Loader∧x.Name.length≤140737488351232∧i64 x.Class
@[simp] theorem SKnown.whole (x:SKnown):x.row.take 3=x.row:=rfl
@[simp] theorem SKnown.isCell (x:SKnown):x.row.all D.isCell=true:=rfl
@[simp] theorem SKnown.read (x:SKnown) (n:Nat) (H:Heap):optAll (readT true (n + 1) H) x.row=some x.row:=by simp [SKnown.row]
@[simp] theorem SKnown.readD (x:SKnown) (H:Heap):readT true depth H (.agg x.row)=some (.agg x.row):=by rw [readT_agg9,SKnown.read x 7]; rfl
@[simp] theorem SKnown.kill (x:SKnown) (H K:Heap):killT depth H (.agg x.row) K=K:=rfl
@[simp] theorem SKnown.readF (x:SKnown) (l:Bool) (n:Nat) (H:Heap):optAll (readT l n H) x.row=some x.row:=by simp [SKnown.row]
theorem SKnown.scalar (l:List SKnown):scalarRows (l.map SKnown.row):=by
 intro r hr
 obtain ⟨x,_,rfl⟩:=List.mem_map.mp hr
 rfl
@[simp] theorem SKnown.lay (xs:List SKnown) (n:Nat) (H:Heap):layT (n + 1) (.list (xs.map SKnown.row)) H=(.sl H.length 0 xs.length,H++[some (xs.map SKnown.row)]):=by rw [layT_list (SKnown.scalar xs)]; simp
theorem SKnown.plain (l:List SKnown):plainRows (l.map SKnown.row):=by
 intro r hr
 obtain ⟨x,_,rfl⟩:=List.mem_map.mp hr
 intro l n H
 exact SKnown.readF x l n H
structure SBond where
 Name:List UInt8:=[]
 Loaders:List Int:=[]
 Class:Int:=0
 deriving DecidableEq
def SBond.row (x:SBond):List D:=[.str x.Name,.list (x.Loaders.map rInt),.int .i64 x.Class]
abbrev SBond.d (x:SBond):D:=.agg x.row
@[simp] theorem SBond.len (x:SBond):x.row.length=3:=rfl
def SBond.shp:List Shp:=[.str,.list [.int .i64],.int .i64]
def SBond.wf (x:SBond):Prop:=x.Name.length≤140737488351232∧(x.Loaders.length≤140737488351232∧∀ y ∈ x.Loaders,i64 y)∧i64 x.Class
@[simp] theorem SBond.whole (x:SBond):x.row.take 3=x.row:=rfl
@[simp] theorem SBond.isCell (x:SBond):x.row.all D.isCell=true:=rfl
@[simp] theorem SBond.read (x:SBond) (n:Nat) (H:Heap):optAll (readT true (n + 1) H) x.row=some x.row:=by simp [SBond.row]
@[simp] theorem SBond.readD (x:SBond) (H:Heap):readT true depth H (.agg x.row)=some (.agg x.row):=by rw [readT_agg9,SBond.read x 7]; rfl
@[simp] theorem SBond.kill (x:SBond) (H K:Heap):killT depth H (.agg x.row) K=K:=rfl
structure SSlot where
 Class:Int:=0
 At:Int:=0
 deriving DecidableEq
def SSlot.row (x:SSlot):List D:=[.int .i64 x.Class,.int .i64 x.At]
abbrev SSlot.d (x:SSlot):D:=.agg x.row
@[simp] theorem SSlot.len (x:SSlot):x.row.length=2:=rfl
def SSlot.shp:List Shp:=[.int .i64,.int .i64]
def SSlot.wf (x:SSlot):Prop:=i64 x.Class∧i64 x.At
@[simp] theorem SSlot.whole (x:SSlot):x.row.take 2=x.row:=rfl
@[simp] theorem SSlot.isCell (x:SSlot):x.row.all D.isCell=true:=rfl
@[simp] theorem SSlot.read (x:SSlot) (n:Nat) (H:Heap):optAll (readT true (n + 1) H) x.row=some x.row:=by simp [SSlot.row]
@[simp] theorem SSlot.readD (x:SSlot) (H:Heap):readT true depth H (.agg x.row)=some (.agg x.row):=by rw [readT_agg9,SSlot.read x 7]; rfl
@[simp] theorem SSlot.kill (x:SSlot) (H K:Heap):killT depth H (.agg x.row) K=K:=rfl
@[simp] theorem SSlot.readF (x:SSlot) (l:Bool) (n:Nat) (H:Heap):optAll (readT l n H) x.row=some x.row:=by simp [SSlot.row]
theorem SSlot.scalar (l:List SSlot):scalarRows (l.map SSlot.row):=by
 intro r hr
 obtain ⟨x,_,rfl⟩:=List.mem_map.mp hr
 rfl
@[simp] theorem SSlot.lay (xs:List SSlot) (n:Nat) (H:Heap):layT (n + 1) (.list (xs.map SSlot.row)) H=(.sl H.length 0 xs.length,H++[some (xs.map SSlot.row)]):=by rw [layT_list (SSlot.scalar xs)]; simp
theorem SSlot.plain (l:List SSlot):plainRows (l.map SSlot.row):=by
 intro r hr
 obtain ⟨x,_,rfl⟩:=List.mem_map.mp hr
 intro l n H
 exact SSlot.readF x l n H
structure SRow where
 Name:List UInt8:=[]
 Desc:List UInt8:=[]
 Class:Int:=0
 At:Int:=0
 deriving DecidableEq
def SRow.row (x:SRow):List D:=[.str x.Name,.str x.Desc,.int .i64 x.Class,.int .i64 x.At]
abbrev SRow.d (x:SRow):D:=.agg x.row
@[simp] theorem SRow.len (x:SRow):x.row.length=4:=rfl
def SRow.shp:List Shp:=[.str,.str,.int .i64,.int .i64]
def SRow.wf (x:SRow):Prop:=x.Name.length≤140737488351232∧x.Desc.length≤140737488351232∧i64 x.Class∧i64 x.At
@[simp] theorem SRow.whole (x:SRow):x.row.take 4=x.row:=rfl
@[simp] theorem SRow.isCell (x:SRow):x.row.all D.isCell=true:=rfl
@[simp] theorem SRow.read (x:SRow) (n:Nat) (H:Heap):optAll (readT true (n + 1) H) x.row=some x.row:=by simp [SRow.row]
@[simp] theorem SRow.readD (x:SRow) (H:Heap):readT true depth H (.agg x.row)=some (.agg x.row):=by rw [readT_agg9,SRow.read x 7]; rfl
@[simp] theorem SRow.kill (x:SRow) (H K:Heap):killT depth H (.agg x.row) K=K:=rfl
@[simp] theorem SRow.readF (x:SRow) (l:Bool) (n:Nat) (H:Heap):optAll (readT l n H) x.row=some x.row:=by simp [SRow.row]
theorem SRow.scalar (l:List SRow):scalarRows (l.map SRow.row):=by
 intro r hr
 obtain ⟨x,_,rfl⟩:=List.mem_map.mp hr
 rfl
@[simp] theorem SRow.lay (xs:List SRow) (n:Nat) (H:Heap):layT (n + 1) (.list (xs.map SRow.row)) H=(.sl H.length 0 xs.length,H++[some (xs.map SRow.row)]):=by rw [layT_list (SRow.scalar xs)]; simp
theorem SRow.plain (l:List SRow):plainRows (l.map SRow.row):=by
 intro r hr
 obtain ⟨x,_,rfl⟩:=List.mem_map.mp hr
 intro l n H
 exact SRow.readF x l n H
structure SVal where
 Tag:Int:=0
 Num:Int:=0
 deriving DecidableEq
def SVal.row (x:SVal):List D:=[.int .i64 x.Tag,.int .i64 x.Num]
abbrev SVal.d (x:SVal):D:=.agg x.row
@[simp] theorem SVal.len (x:SVal):x.row.length=2:=rfl
def SVal.shp:List Shp:=[.int .i64,.int .i64]
def SVal.wf (x:SVal):Prop:=i64 x.Tag∧i64 x.Num
@[simp] theorem SVal.whole (x:SVal):x.row.take 2=x.row:=rfl
@[simp] theorem SVal.isCell (x:SVal):x.row.all D.isCell=true:=rfl
@[simp] theorem SVal.read (x:SVal) (n:Nat) (H:Heap):optAll (readT true (n + 1) H) x.row=some x.row:=by simp [SVal.row]
@[simp] theorem SVal.readD (x:SVal) (H:Heap):readT true depth H (.agg x.row)=some (.agg x.row):=by rw [readT_agg9,SVal.read x 7]; rfl
@[simp] theorem SVal.kill (x:SVal) (H K:Heap):killT depth H (.agg x.row) K=K:=rfl
@[simp] theorem SVal.readF (x:SVal) (l:Bool) (n:Nat) (H:Heap):optAll (readT l n H) x.row=some x.row:=by simp [SVal.row]
theorem SVal.scalar (l:List SVal):scalarRows (l.map SVal.row):=by
 intro r hr
 obtain ⟨x,_,rfl⟩:=List.mem_map.mp hr
 rfl
@[simp] theorem SVal.lay (xs:List SVal) (n:Nat) (H:Heap):layT (n + 1) (.list (xs.map SVal.row)) H=(.sl H.length 0 xs.length,H++[some (xs.map SVal.row)]):=by rw [layT_list (SVal.scalar xs)]; simp
theorem SVal.plain (l:List SVal):plainRows (l.map SVal.row):=by
 intro r hr
 obtain ⟨x,_,rfl⟩:=List.mem_map.mp hr
 intro l n H
 exact SVal.readF x l n H
structure SCls where
 Name:List UInt8:=[]
 Loader:Int:=0
 File:SClass:={}
 Super:Int:=0
 Faces:List Int:=[]
 State:Int:=0
 Begun:Int:=0
 Slots:List SSlot:=[]
 Rows:List SRow:=[]
 Statics:List SVal:=[]
 deriving DecidableEq
def SCls.row (x:SCls):List D:=[.str x.Name,.int .i64 x.Loader,.list (x.File.Pool.map SConst.row),.int .i64 x.File.Flags,.int .i64 x.File.Name,.int .i64 x.File.Super,.list (x.File.Faces.map rInt),.list (x.File.Fields.map SField.row),.list (x.File.Methods.map SMethod.row),.int .i64 x.Super,.list (x.Faces.map rInt),.int .i64 x.State,.int .i64 x.Begun,.list (x.Slots.map SSlot.row),.list (x.Rows.map SRow.row),.list (x.Statics.map SVal.row)]
abbrev SCls.d (x:SCls):D:=.agg x.row
@[simp] theorem SCls.len (x:SCls):x.row.length=16:=rfl
def SCls.shp:List Shp:=[.str,.int .i64,.list [.int .i64,.str,.int .i64,.int .i64],.int .i64,.int .i64,.int .i64,.list [.int .i64],.list [.int .i64,.int .i64,.int .i64],.list [.int .i64,.int .i64,.int .i64,.int .i64,.int .i64,.str,.list [.int .i64,.int .i64,.int .i64,.int .i64],.list [.int .i64,.list [.int .i64,.int .i64],.list [.int .i64,.int .i64]]],.int .i64,.list [.int .i64],.int .i64,.int .i64,.list [.int .i64,.int .i64],.list [.str,.str,.int .i64,.int .i64],.list [.int .i64,.int .i64]]
def SCls.wf (x:SCls):Prop:=x.Name.length≤140737488351232∧i64 x.Loader∧(x.File.Pool.length≤140737488351232∧∀ y ∈ x.File.Pool,y.wf)∧i64 x.File.Flags∧i64 x.File.Name∧i64 x.File.Super∧(x.File.Faces.length≤140737488351232∧∀ y ∈ x.File.Faces,i64 y)∧(x.File.Fields.length≤140737488351232∧∀ y ∈ x.File.Fields,y.wf)∧(x.File.Methods.length≤140737488351232∧∀ y ∈ x.File.Methods,y.wf)∧i64 x.Super∧(x.Faces.length≤140737488351232∧∀ y ∈ x.Faces,i64 y)∧i64 x.State∧i64 x.Begun∧(x.Slots.length≤140737488351232∧∀ y ∈ x.Slots,y.wf)∧(x.Rows.length≤140737488351232∧∀ y ∈ x.Rows,y.wf)∧(x.Statics.length≤140737488351232∧∀ y ∈ x.Statics,y.wf)
@[simp] theorem SCls.whole (x:SCls):x.row.take 16=x.row:=rfl
@[simp] theorem SCls.isCell (x:SCls):x.row.all D.isCell=true:=rfl
@[simp] theorem SCls.read (x:SCls) (n:Nat) (H:Heap):optAll (readT true (n + 1) H) x.row=some x.row:=by simp [SCls.row]
@[simp] theorem SCls.readD (x:SCls) (H:Heap):readT true depth H (.agg x.row)=some (.agg x.row):=by rw [readT_agg9,SCls.read x 7]; rfl
@[simp] theorem SCls.kill (x:SCls) (H K:Heap):killT depth H (.agg x.row) K=K:=rfl
structure SWorld where
 Loaders:List SLoader:=[]
 Classes:List SCls:=[]
 Known:List SKnown:=[]
 Bonds:List SBond:=[]
 deriving DecidableEq
def SWorld.row (x:SWorld):List D:=[.list (x.Loaders.map SLoader.row),.list (x.Classes.map SCls.row),.list (x.Known.map SKnown.row),.list (x.Bonds.map SBond.row)]
abbrev SWorld.d (x:SWorld):D:=.agg x.row
@[simp] theorem SWorld.len (x:SWorld):x.row.length=4:=rfl
def SWorld.shp:List Shp:=[.list [.list [.str,.str],.list [.str,.int .i64],.int .i64],.list [.str,.int .i64,.list [.int .i64,.str,.int .i64,.int .i64],.int .i64,.int .i64,.int .i64,.list [.int .i64],.list [.int .i64,.int .i64,.int .i64],.list [.int .i64,.int .i64,.int .i64,.int .i64,.int .i64,.str,.list [.int .i64,.int .i64,.int .i64,.int .i64],.list [.int .i64,.list [.int .i64,.int .i64],.list [.int .i64,.int .i64]]],.int .i64,.list [.int .i64],.int .i64,.int .i64,.list [.int .i64,.int .i64],.list [.str,.str,.int .i64,.int .i64],.list [.int .i64,.int .i64]],.list [.int .i64,.str,.int .i64],.list [.str,.list [.int .i64],.int .i64]]
def SWorld.wf (x:SWorld):Prop:=(x.Loaders.length≤140737488351232∧∀ y ∈ x.Loaders,y.wf)∧(x.Classes.length≤140737488351232∧∀ y ∈ x.Classes,y.wf)∧(x.Known.length≤140737488351232∧∀ y ∈ x.Known,y.wf)∧(x.Bonds.length≤140737488351232∧∀ y ∈ x.Bonds,y.wf)
@[simp] theorem SWorld.whole (x:SWorld):x.row.take 4=x.row:=rfl
@[simp] theorem SWorld.isCell (x:SWorld):x.row.all D.isCell=true:=rfl
@[simp] theorem SWorld.read (x:SWorld) (n:Nat) (H:Heap):optAll (readT true (n + 1) H) x.row=some x.row:=by simp [SWorld.row]
@[simp] theorem SWorld.readD (x:SWorld) (H:Heap):readT true depth H (.agg x.row)=some (.agg x.row):=by rw [readT_agg9,SWorld.read x 7]; rfl
@[simp] theorem SWorld.kill (x:SWorld) (H K:Heap):killT depth H (.agg x.row) K=K:=rfl
end Go.Ev
