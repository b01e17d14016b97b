import Derived.Test.YtmljkoieihaomaaGreatYa
import Derived.Test.YtmljkoieihaomaaGreatQ0
namespace Go.Ev
set_option linter.unusedVariables false
set_option linter.unusedSimpArgs false
set_option linter.unusedSectionVars false
set_option linter.defProp false
set_option maxHeartbeats 1000000
@[simp] theorem isCell_int (k:IntKind) (n:Int):D.isCell (.int k n)=true:=rfl
@[simp] theorem isCell_bool (b:Bool):D.isCell (.bool b)=true:=rfl
@[simp] theorem isCell_str (s:List UInt8):D.isCell (.str s)=true:=rfl
@[simp] theorem isCell_sl0:D.isCell .sl0=true:=rfl
@[simp] theorem isCell_sl (b o n:Nat):D.isCell (.sl b o n)=true:=rfl
@[simp] theorem isCell_ptr (b i f:Nat):D.isCell (.ptr b i f)=true:=rfl
@[simp] theorem isCell_fn (f:FuncId) (c:List D):D.isCell (.fn f c)=true:=rfl
@[simp] theorem isCell_list (r:Rows):D.isCell (.list r)=true:=rfl
@[simp] theorem isCell_el (r:List D) (f:Nat):D.isCell (.el r f)=true:=rfl
theorem ia_nat {α:Type} {row:α→List D} {esz:Nat} (hr:∀ x,(row x).length=esz) {H:Heap} {l:List α} {i:Nat} (hi:i < l.length):ia esz H (.list (l.map row)) (.int .i64 (i:Nat))=some (.el (row l[i]) 0):=by
 rw [ia_list (n:=(i:Int)) (by omega) (by simp; omega) (by simp [hr])]
 simp
theorem nat_succ64 {i n:Nat} (hi:i < n) (hn:n≤140737488351232):IntKind.wrap .i64 ((i:Int) + 1)=((i + 1:Nat):Int):=by rw [wrap_i64 (by omega) (by omega)]; omega
theorem lt64 {i n:Nat} (hi:i < n):decide ((i:Int) < (n:Int))=true:=by simpa using hi
theorem SConst.g0 (x:SConst):part x.row (0,1,false)=some (.int .i64 x.Kind):=rfl
theorem SConst.g1 (x:SConst):part x.row (1,1,false)=some (.str x.Text):=rfl
theorem SConst.g2 (x:SConst):part x.row (2,1,false)=some (.int .i64 x.A):=rfl
theorem SConst.g3 (x:SConst):part x.row (3,1,false)=some (.int .i64 x.B):=rfl
theorem SConst.all (x:SConst):part x.row (0,4,true)=some x.d:=rfl
theorem SConst.p0 (x:SConst) (v:Int):storeRow x.row 0 [.int .i64 v]=some ({ x with Kind:=v }:SConst).row:=rfl
theorem SConst.p1 (x:SConst) (v:List UInt8):storeRow x.row 1 [.str v]=some ({ x with Text:=v }:SConst).row:=rfl
theorem SConst.p2 (x:SConst) (v:Int):storeRow x.row 2 [.int .i64 v]=some ({ x with A:=v }:SConst).row:=rfl
theorem SConst.p3 (x:SConst) (v:Int):storeRow x.row 3 [.int .i64 v]=some ({ x with B:=v }:SConst).row:=rfl
theorem SField.g0 (x:SField):part x.row (0,1,false)=some (.int .i64 x.Flags):=rfl
theorem SField.g1 (x:SField):part x.row (1,1,false)=some (.int .i64 x.Name):=rfl
theorem SField.g2 (x:SField):part x.row (2,1,false)=some (.int .i64 x.Typ):=rfl
theorem SField.all (x:SField):part x.row (0,3,true)=some x.d:=rfl
theorem SField.p0 (x:SField) (v:Int):storeRow x.row 0 [.int .i64 v]=some ({ x with Flags:=v }:SField).row:=rfl
theorem SField.p1 (x:SField) (v:Int):storeRow x.row 1 [.int .i64 v]=some ({ x with Name:=v }:SField).row:=rfl
theorem SField.p2 (x:SField) (v:Int):storeRow x.row 2 [.int .i64 v]=some ({ x with Typ:=v }:SField).row:=rfl
theorem STrap.g0 (x:STrap):part x.row (0,1,false)=some (.int .i64 x.From):=rfl
theorem STrap.g1 (x:STrap):part x.row (1,1,false)=some (.int .i64 x.To):=rfl
theorem STrap.g2 (x:STrap):part x.row (2,1,false)=some (.int .i64 x.At):=rfl
theorem STrap.g3 (x:STrap):part x.row (3,1,false)=some (.int .i64 x.Class):=rfl
theorem STrap.all (x:STrap):part x.row (0,4,true)=some x.d:=rfl
theorem STrap.p0 (x:STrap) (v:Int):storeRow x.row 0 [.int .i64 v]=some ({ x with From:=v }:STrap).row:=rfl
theorem STrap.p1 (x:STrap) (v:Int):storeRow x.row 1 [.int .i64 v]=some ({ x with To:=v }:STrap).row:=rfl
theorem STrap.p2 (x:STrap) (v:Int):storeRow x.row 2 [.int .i64 v]=some ({ x with At:=v }:STrap).row:=rfl
theorem STrap.p3 (x:STrap) (v:Int):storeRow x.row 3 [.int .i64 v]=some ({ x with Class:=v }:STrap).row:=rfl
theorem SKind.g0 (x:SKind):part x.row (0,1,false)=some (.int .i64 x.Tag):=rfl
theorem SKind.g1 (x:SKind):part x.row (1,1,false)=some (.int .i64 x.Class):=rfl
theorem SKind.all (x:SKind):part x.row (0,2,true)=some x.d:=rfl
theorem SKind.p0 (x:SKind) (v:Int):storeRow x.row 0 [.int .i64 v]=some ({ x with Tag:=v }:SKind).row:=rfl
theorem SKind.p1 (x:SKind) (v:Int):storeRow x.row 1 [.int .i64 v]=some ({ x with Class:=v }:SKind).row:=rfl
theorem SFrame.g0 (x:SFrame):part x.row (0,1,false)=some (.int .i64 x.At):=rfl
theorem SFrame.g1 (x:SFrame):part x.row (1,1,false)=some (.list (x.Locals.map SKind.row)):=rfl
theorem SFrame.g2 (x:SFrame):part x.row (2,1,false)=some (.list (x.Stack.map SKind.row)):=rfl
theorem SFrame.all (x:SFrame):part x.row (0,3,true)=some x.d:=rfl
theorem SFrame.p0 (x:SFrame) (v:Int):storeRow x.row 0 [.int .i64 v]=some ({ x with At:=v }:SFrame).row:=rfl
theorem SFrame.p1 (x:SFrame) (v:List SKind):storeRow x.row 1 [.list (v.map SKind.row)]=some ({ x with Locals:=v }:SFrame).row:=rfl
theorem SFrame.p2 (x:SFrame) (v:List SKind):storeRow x.row 2 [.list (v.map SKind.row)]=some ({ x with Stack:=v }:SFrame).row:=rfl
theorem SMethod.g0 (x:SMethod):part x.row (0,1,false)=some (.int .i64 x.Flags):=rfl
theorem SMethod.g1 (x:SMethod):part x.row (1,1,false)=some (.int .i64 x.Name):=rfl
theorem SMethod.g2 (x:SMethod):part x.row (2,1,false)=some (.int .i64 x.Desc):=rfl
theorem SMethod.g3 (x:SMethod):part x.row (3,1,false)=some (.int .i64 x.Deep):=rfl
theorem SMethod.g4 (x:SMethod):part x.row (4,1,false)=some (.int .i64 x.Locals):=rfl
theorem SMethod.g5 (x:SMethod):part x.row (5,1,false)=some (.str x.Code):=rfl
theorem SMethod.g6 (x:SMethod):part x.row (6,1,false)=some (.list (x.Traps.map STrap.row)):=rfl
theorem SMethod.g7 (x:SMethod):part x.row (7,1,false)=some (.list (x.Frames.map SFrame.row)):=rfl
theorem SMethod.all (x:SMethod):part x.row (0,8,true)=some x.d:=rfl
theorem SMethod.p0 (x:SMethod) (v:Int):storeRow x.row 0 [.int .i64 v]=some ({ x with Flags:=v }:SMethod).row:=rfl
theorem SMethod.p1 (x:SMethod) (v:Int):storeRow x.row 1 [.int .i64 v]=some ({ x with Name:=v }:SMethod).row:=rfl
theorem SMethod.p2 (x:SMethod) (v:Int):storeRow x.row 2 [.int .i64 v]=some ({ x with Desc:=v }:SMethod).row:=rfl
theorem SMethod.p3 (x:SMethod) (v:Int):storeRow x.row 3 [.int .i64 v]=some ({ x with Deep:=v }:SMethod).row:=rfl
theorem SMethod.p4 (x:SMethod) (v:Int):storeRow x.row 4 [.int .i64 v]=some ({ x with Locals:=v }:SMethod).row:=rfl
theorem SMethod.p5 (x:SMethod) (v:List UInt8):storeRow x.row 5 [.str v]=some ({ x with Code:=v }:SMethod).row:=rfl
theorem SMethod.p6 (x:SMethod) (v:List STrap):storeRow x.row 6 [.list (v.map STrap.row)]=some ({ x with Traps:=v }:SMethod).row:=rfl
theorem SMethod.p7 (x:SMethod) (v:List SFrame):storeRow x.row 7 [.list (v.map SFrame.row)]=some ({ x with Frames:=v }:SMethod).row:=rfl
theorem SClass.g0 (x:SClass):part x.row (0,1,false)=some (.list (x.Pool.map SConst.row)):=rfl
theorem SClass.g1 (x:SClass):part x.row (1,1,false)=some (.int .i64 x.Flags):=rfl
theorem SClass.g2 (x:SClass):part x.row (2,1,false)=some (.int .i64 x.Name):=rfl
theorem SClass.g3 (x:SClass):part x.row (3,1,false)=some (.int .i64 x.Super):=rfl
theorem SClass.g4 (x:SClass):part x.row (4,1,false)=some (.list (x.Faces.map rInt)):=rfl
theorem SClass.g5 (x:SClass):part x.row (5,1,false)=some (.list (x.Fields.map SField.row)):=rfl
theorem SClass.g6 (x:SClass):part x.row (6,1,false)=some (.list (x.Methods.map SMethod.row)):=rfl
theorem SClass.all (x:SClass):part x.row (0,7,true)=some x.d:=rfl
theorem SClass.p0 (x:SClass) (v:List SConst):storeRow x.row 0 [.list (v.map SConst.row)]=some ({ x with Pool:=v }:SClass).row:=rfl
theorem SClass.p1 (x:SClass) (v:Int):storeRow x.row 1 [.int .i64 v]=some ({ x with Flags:=v }:SClass).row:=rfl
theorem SClass.p2 (x:SClass) (v:Int):storeRow x.row 2 [.int .i64 v]=some ({ x with Name:=v }:SClass).row:=rfl
theorem SClass.p3 (x:SClass) (v:Int):storeRow x.row 3 [.int .i64 v]=some ({ x with Super:=v }:SClass).row:=rfl
theorem SClass.p4 (x:SClass) (v:List Int):storeRow x.row 4 [.list (v.map rInt)]=some ({ x with Faces:=v }:SClass).row:=rfl
theorem SClass.p5 (x:SClass) (v:List SField):storeRow x.row 5 [.list (v.map SField.row)]=some ({ x with Fields:=v }:SClass).row:=rfl
theorem SClass.p6 (x:SClass) (v:List SMethod):storeRow x.row 6 [.list (v.map SMethod.row)]=some ({ x with Methods:=v }:SClass).row:=rfl
theorem SIns.g0 (x:SIns):part x.row (0,1,false)=some (.int .i64 x.At):=rfl
theorem SIns.g1 (x:SIns):part x.row (1,1,false)=some (.int .i64 x.Op):=rfl
theorem SIns.g2 (x:SIns):part x.row (2,1,false)=some (.int .i64 x.Num):=rfl
theorem SIns.all (x:SIns):part x.row (0,3,true)=some x.d:=rfl
theorem SIns.p0 (x:SIns) (v:Int):storeRow x.row 0 [.int .i64 v]=some ({ x with At:=v }:SIns).row:=rfl
theorem SIns.p1 (x:SIns) (v:Int):storeRow x.row 1 [.int .i64 v]=some ({ x with Op:=v }:SIns).row:=rfl
theorem SIns.p2 (x:SIns) (v:Int):storeRow x.row 2 [.int .i64 v]=some ({ x with Num:=v }:SIns).row:=rfl
theorem SFile.g0 (x:SFile):part x.row (0,1,false)=some (.str x.Name):=rfl
theorem SFile.g1 (x:SFile):part x.row (1,1,false)=some (.str x.Text):=rfl
theorem SFile.all (x:SFile):part x.row (0,2,true)=some x.d:=rfl
theorem SFile.p0 (x:SFile) (v:List UInt8):storeRow x.row 0 [.str v]=some ({ x with Name:=v }:SFile).row:=rfl
theorem SFile.p1 (x:SFile) (v:List UInt8):storeRow x.row 1 [.str v]=some ({ x with Text:=v }:SFile).row:=rfl
theorem SWay.g0 (x:SWay):part x.row (0,1,false)=some (.str x.Name):=rfl
theorem SWay.g1 (x:SWay):part x.row (1,1,false)=some (.int .i64 x.To):=rfl
theorem SWay.all (x:SWay):part x.row (0,2,true)=some x.d:=rfl
theorem SWay.p0 (x:SWay) (v:List UInt8):storeRow x.row 0 [.str v]=some ({ x with Name:=v }:SWay).row:=rfl
theorem SWay.p1 (x:SWay) (v:Int):storeRow x.row 1 [.int .i64 v]=some ({ x with To:=v }:SWay).row:=rfl
theorem SLoader.g0 (x:SLoader):part x.row (0,1,false)=some (.list (x.Files.map SFile.row)):=rfl
theorem SLoader.g1 (x:SLoader):part x.row (1,1,false)=some (.list (x.Ways.map SWay.row)):=rfl
theorem SLoader.g2 (x:SLoader):part x.row (2,1,false)=some (.int .i64 x.Parent):=rfl
theorem SLoader.all (x:SLoader):part x.row (0,3,true)=some x.d:=rfl
theorem SLoader.p0 (x:SLoader) (v:List SFile):storeRow x.row 0 [.list (v.map SFile.row)]=some ({ x with Files:=v }:SLoader).row:=rfl
theorem SLoader.p1 (x:SLoader) (v:List SWay):storeRow x.row 1 [.list (v.map SWay.row)]=some ({ x with Ways:=v }:SLoader).row:=rfl
theorem SLoader.p2 (x:SLoader) (v:Int):storeRow x.row 2 [.int .i64 v]=some ({ x with Parent:=v }:SLoader).row:=rfl
theorem SKnown.g0 (x:SKnown):part x.row (0,1,false)=some (.int .i64 x.Loader):=rfl
theorem SKnown.g1 (x:SKnown):part x.row (1,1,false)=some (.str x.Name):=rfl
theorem SKnown.g2 (x:SKnown):part x.row (2,1,false)=some (.int .i64 x.Class):=rfl
theorem SKnown.all (x:SKnown):part x.row (0,3,true)=some x.d:=rfl
theorem SKnown.p0 (x:SKnown) (v:Int):storeRow x.row 0 [.int .i64 v]=some ({ x with Loader:=v }:SKnown).row:=rfl
theorem SKnown.p1 (x:SKnown) (v:List UInt8):storeRow x.row 1 [.str v]=some ({ x with Name:=v }:SKnown).row:=rfl
theorem SKnown.p2 (x:SKnown) (v:Int):storeRow x.row 2 [.int .i64 v]=some ({ x with Class:=v }:SKnown).row:=rfl
theorem SBond.g0 (x:SBond):part x.row (0,1,false)=some (.str x.Name):=rfl
theorem SBond.g1 (x:SBond):part x.row (1,1,false)=some (.list (x.Loaders.map rInt)):=rfl
theorem SBond.g2 (x:SBond):part x.row (2,1,false)=some (.int .i64 x.Class):=rfl
theorem SBond.all (x:SBond):part x.row (0,3,true)=some x.d:=rfl
theorem SBond.p0 (x:SBond) (v:List UInt8):storeRow x.row 0 [.str v]=some ({ x with Name:=v }:SBond).row:=rfl
theorem SBond.p1 (x:SBond) (v:List Int):storeRow x.row 1 [.list (v.map rInt)]=some ({ x with Loaders:=v }:SBond).row:=rfl
theorem SBond.p2 (x:SBond) (v:Int):storeRow x.row 2 [.int .i64 v]=some ({ x with Class:=v }:SBond).row:=rfl
theorem SSlot.g0 (x:SSlot):part x.row (0,1,false)=some (.int .i64 x.Class):=rfl
theorem SSlot.g1 (x:SSlot):part x.row (1,1,false)=some (.int .i64 x.At):=rfl
theorem SSlot.all (x:SSlot):part x.row (0,2,true)=some x.d:=rfl
theorem SSlot.p0 (x:SSlot) (v:Int):storeRow x.row 0 [.int .i64 v]=some ({ x with Class:=v }:SSlot).row:=rfl
theorem SSlot.p1 (x:SSlot) (v:Int):storeRow x.row 1 [.int .i64 v]=some ({ x with At:=v }:SSlot).row:=rfl
theorem SRow.g0 (x:SRow):part x.row (0,1,false)=some (.str x.Name):=rfl
theorem SRow.g1 (x:SRow):part x.row (1,1,false)=some (.str x.Desc):=rfl
theorem SRow.g2 (x:SRow):part x.row (2,1,false)=some (.int .i64 x.Class):=rfl
theorem SRow.g3 (x:SRow):part x.row (3,1,false)=some (.int .i64 x.At):=rfl
theorem SRow.all (x:SRow):part x.row (0,4,true)=some x.d:=rfl
theorem SRow.p0 (x:SRow) (v:List UInt8):storeRow x.row 0 [.str v]=some ({ x with Name:=v }:SRow).row:=rfl
theorem SRow.p1 (x:SRow) (v:List UInt8):storeRow x.row 1 [.str v]=some ({ x with Desc:=v }:SRow).row:=rfl
theorem SRow.p2 (x:SRow) (v:Int):storeRow x.row 2 [.int .i64 v]=some ({ x with Class:=v }:SRow).row:=rfl
theorem SRow.p3 (x:SRow) (v:Int):storeRow x.row 3 [.int .i64 v]=some ({ x with At:=v }:SRow).row:=rfl
theorem SVal.g0 (x:SVal):part x.row (0,1,false)=some (.int .i64 x.Tag):=rfl
theorem SVal.g1 (x:SVal):part x.row (1,1,false)=some (.int .i64 x.Num):=rfl
theorem SVal.all (x:SVal):part x.row (0,2,true)=some x.d:=rfl
theorem SVal.p0 (x:SVal) (v:Int):storeRow x.row 0 [.int .i64 v]=some ({ x with Tag:=v }:SVal).row:=rfl
theorem SVal.p1 (x:SVal) (v:Int):storeRow x.row 1 [.int .i64 v]=some ({ x with Num:=v }:SVal).row:=rfl
theorem SCls.g0 (x:SCls):part x.row (0,1,false)=some (.str x.Name):=rfl
theorem SCls.g1 (x:SCls):part x.row (1,1,false)=some (.int .i64 x.Loader):=rfl
theorem SCls.g2 (x:SCls):part x.row (2,1,false)=some (.list (x.File.Pool.map SConst.row)):=rfl
theorem SCls.g3 (x:SCls):part x.row (3,1,false)=some (.int .i64 x.File.Flags):=rfl
theorem SCls.g4 (x:SCls):part x.row (4,1,false)=some (.int .i64 x.File.Name):=rfl
theorem SCls.g5 (x:SCls):part x.row (5,1,false)=some (.int .i64 x.File.Super):=rfl
theorem SCls.g6 (x:SCls):part x.row (6,1,false)=some (.list (x.File.Faces.map rInt)):=rfl
theorem SCls.g7 (x:SCls):part x.row (7,1,false)=some (.list (x.File.Fields.map SField.row)):=rfl
theorem SCls.g8 (x:SCls):part x.row (8,1,false)=some (.list (x.File.Methods.map SMethod.row)):=rfl
theorem SCls.g9 (x:SCls):part x.row (9,1,false)=some (.int .i64 x.Super):=rfl
theorem SCls.all (x:SCls):part x.row (0,16,true)=some x.d:=rfl
theorem SCls.p0 (x:SCls) (v:List UInt8):storeRow x.row 0 [.str v]=some ({ x with Name:=v }:SCls).row:=rfl
theorem SCls.p1 (x:SCls) (v:Int):storeRow x.row 1 [.int .i64 v]=some ({ x with Loader:=v }:SCls).row:=rfl
theorem SCls.p2 (x:SCls) (v:List SConst):storeRow x.row 2 [.list (v.map SConst.row)]=some ({ x with File:={ x.File with Pool:=v } }:SCls).row:=rfl
theorem SCls.p3 (x:SCls) (v:Int):storeRow x.row 3 [.int .i64 v]=some ({ x with File:={ x.File with Flags:=v } }:SCls).row:=rfl
theorem SCls.p4 (x:SCls) (v:Int):storeRow x.row 4 [.int .i64 v]=some ({ x with File:={ x.File with Name:=v } }:SCls).row:=rfl
theorem SCls.p5 (x:SCls) (v:Int):storeRow x.row 5 [.int .i64 v]=some ({ x with File:={ x.File with Super:=v } }:SCls).row:=rfl
theorem SCls.p6 (x:SCls) (v:List Int):storeRow x.row 6 [.list (v.map rInt)]=some ({ x with File:={ x.File with Faces:=v } }:SCls).row:=rfl
theorem SCls.p7 (x:SCls) (v:List SField):storeRow x.row 7 [.list (v.map SField.row)]=some ({ x with File:={ x.File with Fields:=v } }:SCls).row:=rfl
theorem SCls.p8 (x:SCls) (v:List SMethod):storeRow x.row 8 [.list (v.map SMethod.row)]=some ({ x with File:={ x.File with Methods:=v } }:SCls).row:=rfl
theorem SCls.p9 (x:SCls) (v:Int):storeRow x.row 9 [.int .i64 v]=some ({ x with Super:=v }:SCls).row:=rfl
theorem SCls.p10 (x:SCls) (v:List Int):storeRow x.row 10 [.list (v.map rInt)]=some ({ x with Faces:=v }:SCls).row:=rfl
theorem SCls.p11 (x:SCls) (v:Int):storeRow x.row 11 [.int .i64 v]=some ({ x with State:=v }:SCls).row:=rfl
theorem SWorld.g0 (x:SWorld):part x.row (0,1,false)=some (.list (x.Loaders.map SLoader.row)):=rfl
theorem SWorld.g1 (x:SWorld):part x.row (1,1,false)=some (.list (x.Classes.map SCls.row)):=rfl
theorem SWorld.g2 (x:SWorld):part x.row (2,1,false)=some (.list (x.Known.map SKnown.row)):=rfl
theorem SWorld.g3 (x:SWorld):part x.row (3,1,false)=some (.list (x.Bonds.map SBond.row)):=rfl
theorem SWorld.all (x:SWorld):part x.row (0,4,true)=some x.d:=rfl
theorem SWorld.p0 (x:SWorld) (v:List SLoader):storeRow x.row 0 [.list (v.map SLoader.row)]=some ({ x with Loaders:=v }:SWorld).row:=rfl
theorem SWorld.p1 (x:SWorld) (v:List SCls):storeRow x.row 1 [.list (v.map SCls.row)]=some ({ x with Classes:=v }:SWorld).row:=rfl
theorem SWorld.p2 (x:SWorld) (v:List SKnown):storeRow x.row 2 [.list (v.map SKnown.row)]=some ({ x with Known:=v }:SWorld).row:=rfl
theorem SWorld.p3 (x:SWorld) (v:List SBond):storeRow x.row 3 [.list (v.map SBond.row)]=some ({ x with Bonds:=v }:SWorld).row:=rfl
end Go.Ev
namespace Go.Ev
set_option linter.unusedVariables false
set_option linter.unusedSimpArgs false
set_option linter.unusedSectionVars false
set_option linter.defProp false
set_option maxHeartbeats 1000000
def szR (s:Nat) (left:Int):Int:=if (s:Int)≤left then left - s else -1
theorem szR_pos {s:Nat} {left:Int} (h:(s:Int)≤left):szR s left=left - s:=if_pos h
theorem szR_neg {s:Nat} {left:Int} (h:¬ (s:Int)≤left):szR s left = -1:=if_neg h
def szL {α:Type} (f:α→Nat) (l:List α):Nat:=l.length + (l.map f).sum
theorem szL_len {α:Type} {f:α→Nat} {l:List α} {n:Nat} (h:szL f l≤n):l.length≤n:=by unfold szL at h; omega
theorem szL_get {α:Type} {f:α→Nat} {l:List α} {n i:Nat} (h:szL f l≤n) (hi:i < l.length):f l[i]≤n:=by
 have:∀ {l:List Nat} {i:Nat} (hi:i < l.length),l[i]≤l.sum:=by
  intro l
  induction l with
  | nil=>intro i hi; simp at hi
  | cons a l ih=>
   intro i hi
   cases i with
   | zero=>simp
   | succ i=>have:=ih (i:=i) (by simpa using hi); simp; omega
 have:=this (l:=l.map f) (i:=i) (by simpa using hi)
 simp only [List.getElem_map] at this
 unfold szL at h; omega
def SConst.sz (x:SConst):Nat:=x.Text.length
def SFrame.sz (x:SFrame):Nat:=szL (fun _=>0) x.Locals + szL (fun _=>0) x.Stack
def SMethod.sz (x:SMethod):Nat:=x.Code.length + szL (fun _=>0) x.Traps + szL SFrame.sz x.Frames
def SClass.sz (x:SClass):Nat:=szL SConst.sz x.Pool + szL (fun _=>0) x.Faces + szL (fun _=>0) x.Fields + szL SMethod.sz x.Methods
def SFile.sz (x:SFile):Nat:=x.Name.length + x.Text.length
def SWay.sz (x:SWay):Nat:=x.Name.length
def SLoader.sz (x:SLoader):Nat:=szL SFile.sz x.Files + szL SWay.sz x.Ways
def SKnown.sz (x:SKnown):Nat:=x.Name.length
def SBond.sz (x:SBond):Nat:=x.Name.length + szL (fun _=>0) x.Loaders
def SRow.sz (x:SRow):Nat:=x.Name.length + x.Desc.length
def SCls.sz (x:SCls):Nat:=x.Name.length + szL SConst.sz x.File.Pool + szL (fun _=>0) x.File.Faces + szL (fun _=>0) x.File.Fields + szL SMethod.sz x.File.Methods + szL (fun _=>0) x.Faces + szL (fun _=>0) x.Slots + szL SRow.sz x.Rows + szL (fun _=>0) x.Statics
def SWorld.sz (x:SWorld):Nat:=szL SLoader.sz x.Loaders + szL SCls.sz x.Classes + szL SKnown.sz x.Known + szL SBond.sz x.Bonds
def SFrame.fit (x:SFrame):Prop:=x.Locals.length≤140737488351232∧x.Stack.length≤140737488351232
def SMethod.fit (x:SMethod):Prop:=x.Traps.length≤140737488351232∧x.Frames.length≤140737488351232∧(∀ z ∈ x.Frames,z.fit)
def SClass.fit (x:SClass):Prop:=x.Pool.length≤140737488351232∧x.Faces.length≤140737488351232∧x.Fields.length≤140737488351232∧x.Methods.length≤140737488351232∧(∀ z ∈ x.Methods,z.fit)
def SLoader.fit (x:SLoader):Prop:=x.Files.length≤140737488351232∧x.Ways.length≤140737488351232
def SBond.fit (x:SBond):Prop:=x.Loaders.length≤140737488351232
def SCls.fit (x:SCls):Prop:=x.File.Pool.length≤140737488351232∧x.File.Faces.length≤140737488351232∧x.File.Fields.length≤140737488351232∧x.File.Methods.length≤140737488351232∧(∀ z ∈ x.File.Methods,z.fit)∧x.Faces.length≤140737488351232∧x.Slots.length≤140737488351232∧x.Rows.length≤140737488351232∧x.Statics.length≤140737488351232
def SWorld.fit (x:SWorld):Prop:=x.Loaders.length≤140737488351232∧(∀ z ∈ x.Loaders,z.fit)∧x.Classes.length≤140737488351232∧(∀ z ∈ x.Classes,z.fit)∧x.Known.length≤140737488351232∧x.Bonds.length≤140737488351232∧(∀ z ∈ x.Bonds,z.fit)
def mdig:Nat→Nat→List UInt8→List UInt8
 | 0,_,out=>out
 | f + 1,k,out=>if k=0 then out else mdig f (k / 10) (UInt8.ofNat (48 + k % 10) :: out)
def mtext (k:Int):List UInt8:=if k≤0 then [109,48] else 109 :: mdig (k.toNat + 1) k.toNat []
theorem mkN_le {α:Type} {n f:α→Nat} (h:∀ x,n x≤64 * (1 + f x)):∀ l:List α,mkN n l≤64 * szL f l
 | []=>by simp [mkN]
 | x :: l=>by
  have h1:=h x
  have h2:=mkN_le h l
  rw [mkN_cons]
  simp only [szL,List.map_cons,List.sum_cons,List.length_cons] at h2 ⊢
  omega
def SConst.mark (k:Int) (x:SConst):SConst:=⟨k,mtext (k + 1),k + 1 + 1,k + 1 + 1 + 1⟩
def SConst.marks (x:SConst):Nat:=1 + 1 + 1 + 1
theorem SConst.marks_le (x:SConst):x.marks≤64 * (1 + x.sz):=by
 simp only [SConst.marks,SConst.sz]; omega
def SField.mark (k:Int) (x:SField):SField:=⟨k,k + 1,k + 1 + 1⟩
def SField.marks (x:SField):Nat:=1 + 1 + 1
theorem SField.marks_le0 (x:SField):x.marks≤64 * (1 + 0):=by simp only [SField.marks]; omega
def STrap.mark (k:Int) (x:STrap):STrap:=⟨k,k + 1,k + 1 + 1,k + 1 + 1 + 1⟩
def STrap.marks (x:STrap):Nat:=1 + 1 + 1 + 1
theorem STrap.marks_le0 (x:STrap):x.marks≤64 * (1 + 0):=by simp only [STrap.marks]; omega
def SKind.mark (k:Int) (x:SKind):SKind:=⟨k,k + 1⟩
def SKind.marks (x:SKind):Nat:=1 + 1
theorem SKind.marks_le0 (x:SKind):x.marks≤64 * (1 + 0):=by simp only [SKind.marks]; omega
def SFrame.mark (k:Int) (x:SFrame):SFrame:=⟨k,mkL SKind.mark SKind.marks (k + 1) x.Locals,mkL SKind.mark SKind.marks (k + 1 + (mkN SKind.marks x.Locals:Nat)) x.Stack⟩
def SFrame.marks (x:SFrame):Nat:=1 + mkN SKind.marks x.Locals + mkN SKind.marks x.Stack
theorem SFrame.marks_le (x:SFrame):x.marks≤64 * (1 + x.sz):=by
 have h0:=mkN_le (n:=SKind.marks) (f:=(fun _=>0)) (fun z=>SKind.marks_le0 z) x.Locals
 have h1:=mkN_le (n:=SKind.marks) (f:=(fun _=>0)) (fun z=>SKind.marks_le0 z) x.Stack
 simp only [SFrame.marks,SFrame.sz]; omega
def SMethod.mark (k:Int) (x:SMethod):SMethod:=⟨k,k + 1,k + 1 + 1,k + 1 + 1 + 1,k + 1 + 1 + 1 + 1,mtext (k + 1 + 1 + 1 + 1 + 1),mkL STrap.mark STrap.marks (k + 1 + 1 + 1 + 1 + 1 + 1) x.Traps,mkL SFrame.mark SFrame.marks (k + 1 + 1 + 1 + 1 + 1 + 1 + (mkN STrap.marks x.Traps:Nat)) x.Frames⟩
def SMethod.marks (x:SMethod):Nat:=1 + 1 + 1 + 1 + 1 + 1 + mkN STrap.marks x.Traps + mkN SFrame.marks x.Frames
theorem SMethod.marks_le (x:SMethod):x.marks≤64 * (1 + x.sz):=by
 have h0:=mkN_le (n:=STrap.marks) (f:=(fun _=>0)) (fun z=>STrap.marks_le0 z) x.Traps
 have h1:=mkN_le (n:=SFrame.marks) (f:=SFrame.sz) (fun z=>SFrame.marks_le z) x.Frames
 simp only [SMethod.marks,SMethod.sz]; omega
def SClass.mark (k:Int) (x:SClass):SClass:=⟨mkL SConst.mark SConst.marks (k) x.Pool,k + (mkN SConst.marks x.Pool:Nat),k + (mkN SConst.marks x.Pool:Nat) + 1,k + (mkN SConst.marks x.Pool:Nat) + 1 + 1,mkL (fun k _=>k) (fun _=>1) (k + (mkN SConst.marks x.Pool:Nat) + 1 + 1 + 1) x.Faces,mkL SField.mark SField.marks (k + (mkN SConst.marks x.Pool:Nat) + 1 + 1 + 1 + (mkN (fun _=>1) x.Faces:Nat)) x.Fields,mkL SMethod.mark SMethod.marks (k + (mkN SConst.marks x.Pool:Nat) + 1 + 1 + 1 + (mkN (fun _=>1) x.Faces:Nat) + (mkN SField.marks x.Fields:Nat)) x.Methods⟩
def SClass.marks (x:SClass):Nat:=mkN SConst.marks x.Pool + 1 + 1 + 1 + mkN (fun _=>1) x.Faces + mkN SField.marks x.Fields + mkN SMethod.marks x.Methods
theorem SClass.marks_le (x:SClass):x.marks≤64 * (1 + x.sz):=by
 have h0:=mkN_le (n:=SConst.marks) (f:=SConst.sz) (fun z=>SConst.marks_le z) x.Pool
 have h1:=mkN_le (n:=(fun _=>1)) (f:=(fun _=>0)) (fun z=>by simp) x.Faces
 have h2:=mkN_le (n:=SField.marks) (f:=(fun _=>0)) (fun z=>SField.marks_le0 z) x.Fields
 have h3:=mkN_le (n:=SMethod.marks) (f:=SMethod.sz) (fun z=>SMethod.marks_le z) x.Methods
 simp only [SClass.marks,SClass.sz]; omega
def SIns.mark (k:Int) (x:SIns):SIns:=⟨k,k + 1,k + 1 + 1⟩
def SIns.marks (x:SIns):Nat:=1 + 1 + 1
theorem SIns.marks_le0 (x:SIns):x.marks≤64 * (1 + 0):=by simp only [SIns.marks]; omega
def SFile.mark (k:Int) (x:SFile):SFile:=⟨mtext (k),mtext (k + 1)⟩
def SFile.marks (x:SFile):Nat:=1 + 1
theorem SFile.marks_le (x:SFile):x.marks≤64 * (1 + x.sz):=by
 simp only [SFile.marks,SFile.sz]; omega
def SWay.mark (k:Int) (x:SWay):SWay:=⟨mtext (k),k + 1⟩
def SWay.marks (x:SWay):Nat:=1 + 1
theorem SWay.marks_le (x:SWay):x.marks≤64 * (1 + x.sz):=by
 simp only [SWay.marks,SWay.sz]; omega
def SLoader.mark (k:Int) (x:SLoader):SLoader:=⟨mkL SFile.mark SFile.marks (k) x.Files,mkL SWay.mark SWay.marks (k + (mkN SFile.marks x.Files:Nat)) x.Ways,k + (mkN SFile.marks x.Files:Nat) + (mkN SWay.marks x.Ways:Nat)⟩
def SLoader.marks (x:SLoader):Nat:=mkN SFile.marks x.Files + mkN SWay.marks x.Ways + 1
theorem SLoader.marks_le (x:SLoader):x.marks≤64 * (1 + x.sz):=by
 have h0:=mkN_le (n:=SFile.marks) (f:=SFile.sz) (fun z=>SFile.marks_le z) x.Files
 have h1:=mkN_le (n:=SWay.marks) (f:=SWay.sz) (fun z=>SWay.marks_le z) x.Ways
 simp only [SLoader.marks,SLoader.sz]; omega
def SKnown.mark (k:Int) (x:SKnown):SKnown:=⟨k,mtext (k + 1),k + 1 + 1⟩
def SKnown.marks (x:SKnown):Nat:=1 + 1 + 1
theorem SKnown.marks_le (x:SKnown):x.marks≤64 * (1 + x.sz):=by
 simp only [SKnown.marks,SKnown.sz]; omega
def SBond.mark (k:Int) (x:SBond):SBond:=⟨mtext (k),mkL (fun k _=>k) (fun _=>1) (k + 1) x.Loaders,k + 1 + (mkN (fun _=>1) x.Loaders:Nat)⟩
def SBond.marks (x:SBond):Nat:=1 + mkN (fun _=>1) x.Loaders + 1
theorem SBond.marks_le (x:SBond):x.marks≤64 * (1 + x.sz):=by
 have h0:=mkN_le (n:=(fun _=>1)) (f:=(fun _=>0)) (fun z=>by simp) x.Loaders
 simp only [SBond.marks,SBond.sz]; omega
def SSlot.mark (k:Int) (x:SSlot):SSlot:=⟨k,k + 1⟩
def SSlot.marks (x:SSlot):Nat:=1 + 1
theorem SSlot.marks_le0 (x:SSlot):x.marks≤64 * (1 + 0):=by simp only [SSlot.marks]; omega
def SRow.mark (k:Int) (x:SRow):SRow:=⟨mtext (k),mtext (k + 1),k + 1 + 1,k + 1 + 1 + 1⟩
def SRow.marks (x:SRow):Nat:=1 + 1 + 1 + 1
theorem SRow.marks_le (x:SRow):x.marks≤64 * (1 + x.sz):=by
 simp only [SRow.marks,SRow.sz]; omega
def SVal.mark (k:Int) (x:SVal):SVal:=⟨k,k + 1⟩
def SVal.marks (x:SVal):Nat:=1 + 1
theorem SVal.marks_le0 (x:SVal):x.marks≤64 * (1 + 0):=by simp only [SVal.marks]; omega
def SCls.mark (k:Int) (x:SCls):SCls:=⟨mtext (k),k + 1,⟨mkL SConst.mark SConst.marks (k + 1 + 1) x.File.Pool,k + 1 + 1 + (mkN SConst.marks x.File.Pool:Nat),k + 1 + 1 + (mkN SConst.marks x.File.Pool:Nat) + 1,k + 1 + 1 + (mkN SConst.marks x.File.Pool:Nat) + 1 + 1,mkL (fun k _=>k) (fun _=>1) (k + 1 + 1 + (mkN SConst.marks x.File.Pool:Nat) + 1 + 1 + 1) x.File.Faces,mkL SField.mark SField.marks (k + 1 + 1 + (mkN SConst.marks x.File.Pool:Nat) + 1 + 1 + 1 + (mkN (fun _=>1) x.File.Faces:Nat)) x.File.Fields,mkL SMethod.mark SMethod.marks (k + 1 + 1 + (mkN SConst.marks x.File.Pool:Nat) + 1 + 1 + 1 + (mkN (fun _=>1) x.File.Faces:Nat) + (mkN SField.marks x.File.Fields:Nat)) x.File.Methods⟩,k + 1 + 1 + (mkN SConst.marks x.File.Pool:Nat) + 1 + 1 + 1 + (mkN (fun _=>1) x.File.Faces:Nat) + (mkN SField.marks x.File.Fields:Nat) + (mkN SMethod.marks x.File.Methods:Nat),mkL (fun k _=>k) (fun _=>1) (k + 1 + 1 + (mkN SConst.marks x.File.Pool:Nat) + 1 + 1 + 1 + (mkN (fun _=>1) x.File.Faces:Nat) + (mkN SField.marks x.File.Fields:Nat) + (mkN SMethod.marks x.File.Methods:Nat) + 1) x.Faces,k + 1 + 1 + (mkN SConst.marks x.File.Pool:Nat) + 1 + 1 + 1 + (mkN (fun _=>1) x.File.Faces:Nat) + (mkN SField.marks x.File.Fields:Nat) + (mkN SMethod.marks x.File.Methods:Nat) + 1 + (mkN (fun _=>1) x.Faces:Nat),k + 1 + 1 + (mkN SConst.marks x.File.Pool:Nat) + 1 + 1 + 1 + (mkN (fun _=>1) x.File.Faces:Nat) + (mkN SField.marks x.File.Fields:Nat) + (mkN SMethod.marks x.File.Methods:Nat) + 1 + (mkN (fun _=>1) x.Faces:Nat) + 1,mkL SSlot.mark SSlot.marks (k + 1 + 1 + (mkN SConst.marks x.File.Pool:Nat) + 1 + 1 + 1 + (mkN (fun _=>1) x.File.Faces:Nat) + (mkN SField.marks x.File.Fields:Nat) + (mkN SMethod.marks x.File.Methods:Nat) + 1 + (mkN (fun _=>1) x.Faces:Nat) + 1 + 1) x.Slots,mkL SRow.mark SRow.marks (k + 1 + 1 + (mkN SConst.marks x.File.Pool:Nat) + 1 + 1 + 1 + (mkN (fun _=>1) x.File.Faces:Nat) + (mkN SField.marks x.File.Fields:Nat) + (mkN SMethod.marks x.File.Methods:Nat) + 1 + (mkN (fun _=>1) x.Faces:Nat) + 1 + 1 + (mkN SSlot.marks x.Slots:Nat)) x.Rows,mkL SVal.mark SVal.marks (k + 1 + 1 + (mkN SConst.marks x.File.Pool:Nat) + 1 + 1 + 1 + (mkN (fun _=>1) x.File.Faces:Nat) + (mkN SField.marks x.File.Fields:Nat) + (mkN SMethod.marks x.File.Methods:Nat) + 1 + (mkN (fun _=>1) x.Faces:Nat) + 1 + 1 + (mkN SSlot.marks x.Slots:Nat) + (mkN SRow.marks x.Rows:Nat)) x.Statics⟩
def SCls.marks (x:SCls):Nat:=1 + 1 + mkN SConst.marks x.File.Pool + 1 + 1 + 1 + mkN (fun _=>1) x.File.Faces + mkN SField.marks x.File.Fields + mkN SMethod.marks x.File.Methods + 1 + mkN (fun _=>1) x.Faces + 1 + 1 + mkN SSlot.marks x.Slots + mkN SRow.marks x.Rows + mkN SVal.marks x.Statics
theorem SCls.marks_le (x:SCls):x.marks≤64 * (1 + x.sz):=by
 have h0:=mkN_le (n:=SConst.marks) (f:=SConst.sz) (fun z=>SConst.marks_le z) x.File.Pool
 have h1:=mkN_le (n:=(fun _=>1)) (f:=(fun _=>0)) (fun z=>by simp) x.File.Faces
 have h2:=mkN_le (n:=SField.marks) (f:=(fun _=>0)) (fun z=>SField.marks_le0 z) x.File.Fields
 have h3:=mkN_le (n:=SMethod.marks) (f:=SMethod.sz) (fun z=>SMethod.marks_le z) x.File.Methods
 have h4:=mkN_le (n:=(fun _=>1)) (f:=(fun _=>0)) (fun z=>by simp) x.Faces
 have h5:=mkN_le (n:=SSlot.marks) (f:=(fun _=>0)) (fun z=>SSlot.marks_le0 z) x.Slots
 have h6:=mkN_le (n:=SRow.marks) (f:=SRow.sz) (fun z=>SRow.marks_le z) x.Rows
 have h7:=mkN_le (n:=SVal.marks) (f:=(fun _=>0)) (fun z=>SVal.marks_le0 z) x.Statics
 simp only [SCls.marks,SCls.sz]; omega
def SWorld.mark (k:Int) (x:SWorld):SWorld:=⟨mkL SLoader.mark SLoader.marks (k) x.Loaders,mkL SCls.mark SCls.marks (k + (mkN SLoader.marks x.Loaders:Nat)) x.Classes,mkL SKnown.mark SKnown.marks (k + (mkN SLoader.marks x.Loaders:Nat) + (mkN SCls.marks x.Classes:Nat)) x.Known,mkL SBond.mark SBond.marks (k + (mkN SLoader.marks x.Loaders:Nat) + (mkN SCls.marks x.Classes:Nat) + (mkN SKnown.marks x.Known:Nat)) x.Bonds⟩
def SWorld.marks (x:SWorld):Nat:=mkN SLoader.marks x.Loaders + mkN SCls.marks x.Classes + mkN SKnown.marks x.Known + mkN SBond.marks x.Bonds
theorem SWorld.marks_le (x:SWorld):x.marks≤64 * (1 + x.sz):=by
 have h0:=mkN_le (n:=SLoader.marks) (f:=SLoader.sz) (fun z=>SLoader.marks_le z) x.Loaders
 have h1:=mkN_le (n:=SCls.marks) (f:=SCls.sz) (fun z=>SCls.marks_le z) x.Classes
 have h2:=mkN_le (n:=SKnown.marks) (f:=SKnown.sz) (fun z=>SKnown.marks_le z) x.Known
 have h3:=mkN_le (n:=SBond.marks) (f:=SBond.sz) (fun z=>SBond.marks_le z) x.Bonds
 simp only [SWorld.marks,SWorld.sz]; omega
def SWorld.vmark (k:Int) (x:SWorld):SWorld:=⟨mkL SLoader.mark SLoader.marks (k) x.Loaders,mkL SCls.mark SCls.marks (k + (mkN SLoader.marks x.Loaders:Nat)) x.Classes,mkL SKnown.mark SKnown.marks (k + (mkN SLoader.marks x.Loaders:Nat) + (mkN SCls.marks x.Classes:Nat)) x.Known,mkL SBond.mark SBond.marks (k + (mkN SLoader.marks x.Loaders:Nat) + (mkN SCls.marks x.Classes:Nat) + (mkN SKnown.marks x.Known:Nat)) x.Bonds⟩
def SWorld.vmarks (x:SWorld):Nat:=mkN SLoader.marks x.Loaders + mkN SCls.marks x.Classes + mkN SKnown.marks x.Known + mkN SBond.marks x.Bonds
theorem SWorld.vmarks_le (x:SWorld):x.vmarks≤64 * (1 + x.sz):=by
 have h0:=mkN_le (n:=SLoader.marks) (f:=SLoader.sz) (fun z=>SLoader.marks_le z) x.Loaders
 have h1:=mkN_le (n:=SCls.marks) (f:=SCls.sz) (fun z=>SCls.marks_le z) x.Classes
 have h2:=mkN_le (n:=SKnown.marks) (f:=SKnown.sz) (fun z=>SKnown.marks_le z) x.Known
 have h3:=mkN_le (n:=SBond.marks) (f:=SBond.sz) (fun z=>SBond.marks_le z) x.Bonds
 simp only [SWorld.vmarks,SWorld.sz]; omega
def SClass.vmark (k:Int) (x:SClass):SClass:=⟨mkL SConst.mark SConst.marks (k) x.Pool,x.Flags,x.Name,x.Super,mkL (fun k _=>k) (fun _=>1) (k + (mkN SConst.marks x.Pool:Nat)) x.Faces,mkL SField.mark SField.marks (k + (mkN SConst.marks x.Pool:Nat) + (mkN (fun _=>1) x.Faces:Nat)) x.Fields,mkL SMethod.mark SMethod.marks (k + (mkN SConst.marks x.Pool:Nat) + (mkN (fun _=>1) x.Faces:Nat) + (mkN SField.marks x.Fields:Nat)) x.Methods⟩
def SClass.vmarks (x:SClass):Nat:=mkN SConst.marks x.Pool + mkN (fun _=>1) x.Faces + mkN SField.marks x.Fields + mkN SMethod.marks x.Methods
theorem SClass.vmarks_le (x:SClass):x.vmarks≤64 * (1 + x.sz):=by
 have h0:=mkN_le (n:=SConst.marks) (f:=SConst.sz) (fun z=>SConst.marks_le z) x.Pool
 have h1:=mkN_le (n:=(fun _=>1)) (f:=(fun _=>0)) (fun z=>by simp) x.Faces
 have h2:=mkN_le (n:=SField.marks) (f:=(fun _=>0)) (fun z=>SField.marks_le0 z) x.Fields
 have h3:=mkN_le (n:=SMethod.marks) (f:=SMethod.sz) (fun z=>SMethod.marks_le z) x.Methods
 simp only [SClass.vmarks,SClass.sz]; omega
end Go.Ev
namespace Go.Ev
set_option linter.unusedVariables false
set_option linter.unusedSimpArgs false
set_option linter.unusedSectionVars false
set_option linter.defProp false
set_option maxHeartbeats 1000000
def u8 (n:Int):UInt8:=UInt8.ofNat (n % 256).toNat
abbrev Get (α:Type):=List UInt8→Option (α×List UInt8)
def gOne:Get Int
 | []=>none
 | b :: r=>some ((b.toNat:Int),r)
def bindG {α β:Type} (g:Get α) (h:α→Get β):Get β:=fun s=>(g s).bind fun q=>h q.1 q.2
def pureG {α:Type} (a:α):Get α:=fun s=>some (a,s)
def failG {α:Type}:Get α:=fun _=>none
def gTwo:Get Int:=bindG gOne fun a=>bindG gOne fun b=>pureG (256 * a + b)
def isAbs (flags:Int):Bool:=decide (flags % 16 / 8=1)
def pTwo (n:Int):List UInt8:=[u8 (n / 256),u8 n]
section
variable (w:Int→List UInt8)
end
def Back {α:Type} (g:Get α) (p:α→List UInt8):Prop:=∀ s a r,g s=some (a,r)→s=p a++r
def Back2 (w:Int→List UInt8) (ab:Int→Bool):Prop:=Back gTwo w∧(∀ n:Nat,n≤120→w n=pTwo n)∧∀ n:Int,0≤n→n≤255→ab n=isAbs n
section
variable {w:Int→List UInt8} {ab:Int→Bool} (hw:Back2 w ab)
include hw
end
end Go.Ev
