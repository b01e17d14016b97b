import Derived.Test.YtmpfooibdekppaaGreatDoorXf
namespace Go.Ev
set_option linter.unusedVariables false
def rInt (n:Int):List D:=[.int .i64 n]
def rStr (s:List UInt8):List D:=[.str s]
def rBool (b:Bool):List D:=[.bool b]
def rByte (n:UInt8):List D:=[.int .u8 n.toNat]
structure SConst where
 Kind:Int:=0
 Text:List UInt8:=[]
 A:Int:=0
 B:Int:=0
 deriving DecidableEq
def SConst.row (x:SConst):List D:=[.int .i64 x.Kind,.str x.Text,.int .i64 x.A,.int .i64 x.B]
abbrev SConst.d (x:SConst):D:=.agg x.row
@[simp] theorem SConst.len (x:SConst):x.row.length=4:=rfl
def SConst.shp:List Shp:=[.int .i64,.str,.int .i64,.int .i64]
def SConst.wf (x:SConst):Prop:=i64 x.Kind∧x.Text.length≤140737488351232∧i64 x.A∧i64 x.B
@[simp] theorem SConst.whole (x:SConst):x.row.take 4=x.row:=rfl
@[simp] theorem SConst.isCell (x:SConst):x.row.all D.isCell=true:=rfl
@[simp] theorem SConst.read (x:SConst) (n:Nat) (H:Heap):optAll (readT true (n + 1) H) x.row=some x.row:=by simp [SConst.row]
@[simp] theorem SConst.readD (x:SConst) (H:Heap):readT true depth H (.agg x.row)=some (.agg x.row):=by rw [readT_agg9,SConst.read x 7]; rfl
@[simp] theorem SConst.kill (x:SConst) (H K:Heap):killT depth H (.agg x.row) K=K:=rfl
@[simp] theorem SConst.readF (x:SConst) (l:Bool) (n:Nat) (H:Heap):optAll (readT l n H) x.row=some x.row:=by simp [SConst.row]
theorem SConst.scalar (l:List SConst):scalarRows (l.map SConst.row):=by
 intro r hr
 obtain ⟨x,_,rfl⟩:=List.mem_map.mp hr
 rfl
@[simp] theorem SConst.lay (xs:List SConst) (n:Nat) (H:Heap):layT (n + 1) (.list (xs.map SConst.row)) H=(.sl H.length 0 xs.length,H++[some (xs.map SConst.row)]):=by rw [layT_list (SConst.scalar xs)]; simp
theorem SConst.plain (l:List SConst):plainRows (l.map SConst.row):=by
 intro r hr
 obtain ⟨x,_,rfl⟩:=List.mem_map.mp hr
 intro l n H
 exact SConst.readF x l n H
structure SField where
 Flags:Int:=0
 Name:Int:=0
 Typ:Int:=0
 deriving DecidableEq
def SField.row (x:SField):List D:=[.int .i64 x.Flags,.int .i64 x.Name,.int .i64 x.Typ]
abbrev SField.d (x:SField):D:=.agg x.row
@[simp] theorem SField.len (x:SField):x.row.length=3:=rfl
def SField.shp:List Shp:=[.int .i64,.int .i64,.int .i64]
def SField.wf (x:SField):Prop:=i64 x.Flags∧i64 x.Name∧i64 x.Typ
@[simp] theorem SField.whole (x:SField):x.row.take 3=x.row:=rfl
@[simp] theorem SField.isCell (x:SField):x.row.all D.isCell=true:=rfl
@[simp] theorem SField.read (x:SField) (n:Nat) (H:Heap):optAll (readT true (n + 1) H) x.row=some x.row:=by simp [SField.row]
@[simp] theorem SField.readD (x:SField) (H:Heap):readT true depth H (.agg x.row)=some (.agg x.row):=by rw [readT_agg9,SField.read x 7]; rfl
@[simp] theorem SField.kill (x:SField) (H K:Heap):killT depth H (.agg x.row) K=K:=rfl
@[simp] theorem SField.readF (x:SField) (l:Bool) (n:Nat) (H:Heap):optAll (readT l n H) x.row=some x.row:=by simp [SField.row]
theorem SField.scalar (l:List SField):scalarRows (l.map SField.row):=by
 intro r hr
 obtain ⟨x,_,rfl⟩:=List.mem_map.mp hr
 rfl
@[simp] theorem SField.lay (xs:List SField) (n:Nat) (H:Heap):layT (n + 1) (.list (xs.map SField.row)) H=(.sl H.length 0 xs.length,H++[some (xs.map SField.row)]):=by rw [layT_list (SField.scalar xs)]; simp
theorem SField.plain (l:List SField):plainRows (l.map SField.row):=by
 intro r hr
 obtain ⟨x,_,rfl⟩:=List.mem_map.mp hr
 intro l n H
 exact SField.readF x l n H
structure STrap where
 From:Int:=0
 To:Int:=0
 At:Int:=0
 Class:Int:=0
 deriving DecidableEq
def STrap.row (x:STrap):List D:=[.int .i64 x.From,.int .i64 x.To,.int .i64 x.At,.int .i64 x.Class]
abbrev STrap.d (x:STrap):D:=.agg x.row
@[simp] theorem STrap.len (x:STrap):x.row.length=4:=rfl
def STrap.shp:List Shp:=[.int .i64,.int .i64,.int .i64,.int .i64]
def STrap.wf (x:STrap):Prop:=i64 x.From∧i64 x.To∧i64 x.At∧i64 x.Class
@[simp] theorem STrap.whole (x:STrap):x.row.take 4=x.row:=rfl
@[simp] theorem STrap.isCell (x:STrap):x.row.all D.isCell=true:=rfl
@[simp] theorem STrap.read (x:STrap) (n:Nat) (H:Heap):optAll (readT true (n + 1) H) x.row=some x.row:=by simp [STrap.row]
@[simp] theorem STrap.readD (x:STrap) (H:Heap):readT true depth H (.agg x.row)=some (.agg x.row):=by rw [readT_agg9,STrap.read x 7]; rfl
@[simp] theorem STrap.kill (x:STrap) (H K:Heap):killT depth H (.agg x.row) K=K:=rfl
@[simp] theorem STrap.readF (x:STrap) (l:Bool) (n:Nat) (H:Heap):optAll (readT l n H) x.row=some x.row:=by simp [STrap.row]
theorem STrap.scalar (l:List STrap):scalarRows (l.map STrap.row):=by
 intro r hr
 obtain ⟨x,_,rfl⟩:=List.mem_map.mp hr
 rfl
@[simp] theorem STrap.lay (xs:List STrap) (n:Nat) (H:Heap):layT (n + 1) (.list (xs.map STrap.row)) H=(.sl H.length 0 xs.length,H++[some (xs.map STrap.row)]):=by rw [layT_list (STrap.scalar xs)]; simp
theorem STrap.plain (l:List STrap):plainRows (l.map STrap.row):=by
 intro r hr
 obtain ⟨x,_,rfl⟩:=List.mem_map.mp hr
 intro l n H
 exact STrap.readF x l n H
structure SKind where
 Tag:Int:=0
 Class:Int:=0
 deriving DecidableEq
def SKind.row (x:SKind):List D:=[.int .i64 x.Tag,.int .i64 x.Class]
abbrev SKind.d (x:SKind):D:=.agg x.row
@[simp] theorem SKind.len (x:SKind):x.row.length=2:=rfl
def SKind.shp:List Shp:=[.int .i64,.int .i64]
def SKind.wf (x:SKind):Prop:=i64 x.Tag∧i64 x.Class
@[simp] theorem SKind.whole (x:SKind):x.row.take 2=x.row:=rfl
@[simp] theorem SKind.isCell (x:SKind):x.row.all D.isCell=true:=rfl
@[simp] theorem SKind.read (x:SKind) (n:Nat) (H:Heap):optAll (readT true (n + 1) H) x.row=some x.row:=by simp [SKind.row]
@[simp] theorem SKind.readD (x:SKind) (H:Heap):readT true depth H (.agg x.row)=some (.agg x.row):=by rw [readT_agg9,SKind.read x 7]; rfl
@[simp] theorem SKind.kill (x:SKind) (H K:Heap):killT depth H (.agg x.row) K=K:=rfl
@[simp] theorem SKind.readF (x:SKind) (l:Bool) (n:Nat) (H:Heap):optAll (readT l n H) x.row=some x.row:=by simp [SKind.row]
theorem SKind.scalar (l:List SKind):scalarRows (l.map SKind.row):=by
 intro r hr
 obtain ⟨x,_,rfl⟩:=List.mem_map.mp hr
 rfl
@[simp] theorem SKind.lay (xs:List SKind) (n:Nat) (H:Heap):layT (n + 1) (.list (xs.map SKind.row)) H=(.sl H.length 0 xs.length,H++[some (xs.map SKind.row)]):=by rw [layT_list (SKind.scalar xs)]; simp
theorem SKind.plain (l:List SKind):plainRows (l.map SKind.row):=by
 intro r hr
 obtain ⟨x,_,rfl⟩:=List.mem_map.mp hr
 intro l n H
 exact SKind.readF x l n H
structure SFrame where
 At:Int:=0
 Locals:List SKind:=[]
 Stack:List SKind:=[]
 deriving DecidableEq
def SFrame.row (x:SFrame):List D:=[.int .i64 x.At,.list (x.Locals.map SKind.row),.list (x.Stack.map SKind.row)]
abbrev SFrame.d (x:SFrame):D:=.agg x.row
@[simp] theorem SFrame.len (x:SFrame):x.row.length=3:=rfl
def SFrame.shp:List Shp:=[.int .i64,.list [.int .i64,.int .i64],.list [.int .i64,.int .i64]]
def SFrame.wf (x:SFrame):Prop:=i64 x.At∧(x.Locals.length≤140737488351232∧∀ y ∈ x.Locals,y.wf)∧(x.Stack.length≤140737488351232∧∀ y ∈ x.Stack,y.wf)
@[simp] theorem SFrame.whole (x:SFrame):x.row.take 3=x.row:=rfl
@[simp] theorem SFrame.isCell (x:SFrame):x.row.all D.isCell=true:=rfl
@[simp] theorem SFrame.read (x:SFrame) (n:Nat) (H:Heap):optAll (readT true (n + 1) H) x.row=some x.row:=by simp [SFrame.row]
@[simp] theorem SFrame.readD (x:SFrame) (H:Heap):readT true depth H (.agg x.row)=some (.agg x.row):=by rw [readT_agg9,SFrame.read x 7]; rfl
@[simp] theorem SFrame.kill (x:SFrame) (H K:Heap):killT depth H (.agg x.row) K=K:=rfl
structure SMethod where
 Flags:Int:=0
 Name:Int:=0
 Desc:Int:=0
 Deep:Int:=0
 Locals:Int:=0
 Code:List UInt8:=[]
 Traps:List STrap:=[]
 Frames:List SFrame:=[]
 deriving DecidableEq
def SMethod.row (x:SMethod):List D:=[.int .i64 x.Flags,.int .i64 x.Name,.int .i64 x.Desc,.int .i64 x.Deep,.int .i64 x.Locals,.str x.Code,.list (x.Traps.map STrap.row),.list (x.Frames.map SFrame.row)]
abbrev SMethod.d (x:SMethod):D:=.agg x.row
@[simp] theorem SMethod.len (x:SMethod):x.row.length=8:=rfl
def SMethod.shp:List Shp:=[.int .i64,.int .i64,.int .i64,.int .i64,.int .i64,.str,.list [.int .i64,.int .i64,.int .i64,.int .i64],.list [.int .i64,.list [.int .i64,.int .i64],.list [.int .i64,.int .i64]]]
def SMethod.wf (x:SMethod):Prop:=i64 x.Flags∧i64 x.Name∧i64 x.Desc∧i64 x.Deep∧i64 x.Locals∧x.Code.length≤140737488351232∧(x.Traps.length≤140737488351232∧∀ y ∈ x.Traps,y.wf)∧(x.Frames.length≤140737488351232∧∀ y ∈ x.Frames,y.wf)
@[simp] theorem SMethod.whole (x:SMethod):x.row.take 8=x.row:=rfl
@[simp] theorem SMethod.isCell (x:SMethod):x.row.all D.isCell=true:=rfl
@[simp] theorem SMethod.read (x:SMethod) (n:Nat) (H:Heap):optAll (readT true (n + 1) H) x.row=some x.row:=by simp [SMethod.row]
@[simp] theorem SMethod.readD (x:SMethod) (H:Heap):readT true depth H (.agg x.row)=some (.agg x.row):=by rw [readT_agg9,SMethod.read x 7]; rfl
@[simp] theorem SMethod.kill (x:SMethod) (H K:Heap):killT depth H (.agg x.row) K=K:=rfl
structure SClass where
 Pool:List SConst:=[]
 Flags:Int:=0
 Name:Int:=0
 Super:Int:=0
 Faces:List Int:=[]
 Fields:List SField:=[]
 Methods:List SMethod:=[]
 deriving DecidableEq
def SClass.row (x:SClass):List D:=[.list (x.Pool.map SConst.row),.int .i64 x.Flags,.int .i64 x.Name,.int .i64 x.Super,.list (x.Faces.map rInt),.list (x.Fields.map SField.row),.list (x.Methods.map SMethod.row)]
abbrev SClass.d (x:SClass):D:=.agg x.row
@[simp] theorem SClass.len (x:SClass):x.row.length=7:=rfl
def SClass.shp:List Shp:=[.list [.int .i64,.str,.int .i64,.int .i64],.int .i64,.int .i64,.int .i64,.list [.int .i64],.list [.int .i64,.int .i64,.int .i64],.list [.int .i64,.int .i64,.int .i64,.int .i64,.int .i64,.str,.list [.int .i64,.int .i64,.int .i64,.int .i64],.list [.int .i64,.list [.int .i64,.int .i64],.list [.int .i64,.int .i64]]]]
def SClass.wf (x:SClass):Prop:=(x.Pool.length≤140737488351232∧∀ y ∈ x.Pool,y.wf)∧i64 x.Flags∧i64 x.Name∧i64 x.Super∧(x.Faces.length≤140737488351232∧∀ y ∈ x.Faces,i64 y)∧(x.Fields.length≤140737488351232∧∀ y ∈ x.Fields,y.wf)∧(x.Methods.length≤140737488351232∧∀ y ∈ x.Methods,y.wf)
@[simp] theorem SClass.whole (x:SClass):x.row.take 7=x.row:=rfl
@[simp] theorem SClass.isCell (x:SClass):x.row.all D.isCell=true:=rfl
@[simp] theorem SClass.read (x:SClass) (n:Nat) (H:Heap):optAll (readT true (n + 1) H) x.row=some x.row:=by simp [SClass.row]
@[simp] theorem SClass.readD (x:SClass) (H:Heap):readT true depth H (.agg x.row)=some (.agg x.row):=by rw [readT_agg9,SClass.read x 7]; rfl
@[simp] theorem SClass.kill (x:SClass) (H K:Heap):killT depth H (.agg x.row) K=K:=rfl
structure SIns where
 At:Int:=0
 Op:Int:=0
 Num:Int:=0
 deriving DecidableEq
def SIns.row (x:SIns):List D:=[.int .i64 x.At,.int .i64 x.Op,.int .i64 x.Num]
abbrev SIns.d (x:SIns):D:=.agg x.row
@[simp] theorem SIns.len (x:SIns):x.row.length=3:=rfl
def SIns.shp:List Shp:=[.int .i64,.int .i64,.int .i64]
def SIns.wf (x:SIns):Prop:=i64 x.At∧i64 x.Op∧i64 x.Num
@[simp] theorem SIns.whole (x:SIns):x.row.take 3=x.row:=rfl
@[simp] theorem SIns.isCell (x:SIns):x.row.all D.isCell=true:=rfl
@[simp] theorem SIns.read (x:SIns) (n:Nat) (H:Heap):optAll (readT true (n + 1) H) x.row=some x.row:=by simp [SIns.row]
@[simp] theorem SIns.readD (x:SIns) (H:Heap):readT true depth H (.agg x.row)=some (.agg x.row):=by rw [readT_agg9,SIns.read x 7]; rfl
@[simp] theorem SIns.kill (x:SIns) (H K:Heap):killT depth H (.agg x.row) K=K:=rfl
@[simp] theorem SIns.readF (x:SIns) (l:Bool) (n:Nat) (H:Heap):optAll (readT l n H) x.row=some x.row:=by simp [SIns.row]
theorem SIns.scalar (l:List SIns):scalarRows (l.map SIns.row):=by
 intro r hr
 obtain ⟨x,_,rfl⟩:=List.mem_map.mp hr
 rfl
@[simp] theorem SIns.lay (xs:List SIns) (n:Nat) (H:Heap):layT (n + 1) (.list (xs.map SIns.row)) H=(.sl H.length 0 xs.length,H++[some (xs.map SIns.row)]):=by rw [layT_list (SIns.scalar xs)]; simp
theorem SIns.plain (l:List SIns):plainRows (l.map SIns.row):=by
 intro r hr
 obtain ⟨x,_,rfl⟩:=List.mem_map.mp hr
 intro l n H
 exact SIns.readF x l n H
end Go.Ev
