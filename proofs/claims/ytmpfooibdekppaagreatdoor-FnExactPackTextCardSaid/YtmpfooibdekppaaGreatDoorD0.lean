import Derived.Test.YtmpfooibdekppaaGreatDoorYa
import Derived.Test.YtmpfooibdekppaaGreatDoorQ1
namespace Go.Ev
set_option linter.unusedVariables false
set_option linter.unusedSimpArgs false
set_option linter.unusedSectionVars false
set_option linter.defProp false
set_option maxHeartbeats 1000000
def fst_ (r:R):Option D:=r.map Prod.fst
theorem fst_bind {α:Type} (x:Option α) (f:α→R):fst_ (x.bind f)=x.bind fun a=>fst_ (f a):=by cases x <;> rfl
theorem fst_cond (b:Bool) (x y:R):fst_ (bif b then x else y)=bif b then fst_ x else fst_ y:=by cases b <;> rfl
theorem fst_some (v:D) (H:Heap):fst_ (some (v,H))=some v:=rfl
theorem fst_ex {r:R} {v:D} (h:fst_ r=some v):∃ H,r=some (v,H):=by
 cases r with
 | none=>cases h
 | some q=>obtain ⟨a,b⟩:=q; cases h; exact ⟨b,rfl⟩
def pureV (v:D):Prop:=∀ (l:Bool) (H:Heap),readT l depth H v=some v
theorem pureV_sc {v:D} (h:v.scalar=true):pureV v:=fun l H=>readT_scalar h
theorem run_fst {E:Env} {l:Bool} {g:FuncId} {ts:List D} {v:D} (hv:pureV v) (h:fst_ (ent E g ts [])=some v):run E (exec E) l g ts=some v:=by
 obtain ⟨H,e⟩:=fst_ex h
 rw [run_ent,e]
 exact hv l H
theorem run_bool {E:Env} {l:Bool} {g:FuncId} {ts:List D} {v:Bool} (h:fst_ (ent E g ts [])=some (.bool v)):run E (exec E) l g ts=some (.bool v):=run_fst (pureV_sc rfl) h
theorem run_int {E:Env} {l:Bool} {g:FuncId} {ts:List D} {v:Int} (h:fst_ (ent E g ts [])=some (.int .i64 v)):run E (exec E) l g ts=some (.int .i64 v):=run_fst (pureV_sc rfl) h
theorem run_str {E:Env} {l:Bool} {g:FuncId} {ts:List D} {v:List UInt8} (h:fst_ (ent E g ts [])=some (.str v)):run E (exec E) l g ts=some (.str v):=run_fst (pureV_sc rfl) h
@[simp] theorem isCell_int (k:IntKind) (n:Int):D.isCell (.int k n)=true:=rfl
@[simp] theorem isCell_bool (b:Bool):D.isCell (.bool b)=true:=rfl
@[simp] theorem isCell_str (s:List UInt8):D.isCell (.str s)=true:=rfl
@[simp] theorem isCell_sl0:D.isCell .sl0=true:=rfl
@[simp] theorem isCell_sl (b o n:Nat):D.isCell (.sl b o n)=true:=rfl
@[simp] theorem isCell_ptr (b i f:Nat):D.isCell (.ptr b i f)=true:=rfl
@[simp] theorem isCell_fn (f:FuncId) (c:List D):D.isCell (.fn f c)=true:=rfl
@[simp] theorem isCell_list (r:Rows):D.isCell (.list r)=true:=rfl
@[simp] theorem isCell_el (r:List D) (f:Nat):D.isCell (.el r f)=true:=rfl
theorem cells_int (k:IntKind) (n:Int):D.cells (.int k n)=[.int k n]:=rfl
theorem cells_bool (b:Bool):D.cells (.bool b)=[.bool b]:=rfl
theorem cells_str (s:List UInt8):D.cells (.str s)=[.str s]:=rfl
theorem cells_sl0:D.cells .sl0=[.sl0]:=rfl
theorem cells_sl (b o n:Nat):D.cells (.sl b o n)=[.sl b o n]:=rfl
theorem cells_ptr (b i f:Nat):D.cells (.ptr b i f)=[.ptr b i f]:=rfl
theorem cells_fn (f:FuncId) (c:List D):D.cells (.fn f c)=[.fn f c]:=rfl
theorem cells_list (r:Rows):D.cells (.list r)=[.list r]:=rfl
theorem cells_el (r:List D) (f:Nat):D.cells (.el r f)=[.el r f]:=rfl
theorem cells_agg (cs:List D):D.cells (.agg cs)=cs:=rfl
theorem len0 (H:Heap) (L:Heap):(H++L).length=H.length + L.length:=List.length_append
theorem blk_far0 (H L:Heap):getBlk (H++L) H.length=getBlk L 0:=by
 unfold getBlk; rw [List.getElem?_append_right (Nat.le_refl _),Nat.sub_self]
theorem blk_far (H L:Heap) (k:Nat):getBlk (H++L) (H.length + k)=getBlk L k:=by
 unfold getBlk; rw [List.getElem?_append_right (by omega)]; congr 3; omega
theorem blk_zero (x:Option Rows) (H:Heap):getBlk (x :: H) 0=x:=rfl
theorem blk_succ (x:Option Rows) (H:Heap) (n:Nat):getBlk (x :: H) (n + 1)=getBlk H n:=rfl
theorem set_far0 (H L:Heap) (x:Option Rows):(H++L).set H.length x=H++L.set 0 x:=by rw [List.set_append_right _ _ (Nat.le_refl _),Nat.sub_self]
theorem set_far (H L:Heap) (k:Nat) (x:Option Rows):(H++L).set (H.length + k) x=H++L.set k x:=by rw [List.set_append_right _ _ (by omega)]; congr 2; omega
theorem set_zero' {α:Type} (a x:α) (l:List α):(a :: l).set 0 x=x :: l:=rfl
theorem set_succ' {α:Type} (a x:α) (l:List α) (n:Nat):(a :: l).set (n + 1) x=a :: l.set n x:=rfl
theorem getD_zero {α:Type} (a:α) (l:List α):(a :: l)[0]? = some a:=rfl
theorem getD_succ {α:Type} (a:α) (l:List α) (n:Nat):(a :: l)[n + 1]? = l[n]?:=rfl
theorem storeRow_all {row v:List D} (h:row.length=v.length):storeRow row 0 v=some v:=by
 simp [storeRow,h]
theorem storeRow_one (a v:D):storeRow [a] 0 [v]=some [v]:=rfl
theorem ld_eq (a:Bool) (z:Nat) (H:Heap) (b i f:Nat):ld a z H (.ptr b i f)=(getBlk H b).bind fun rows=>(rows[i]?).bind fun row=>part row (f,z,a):=by
 unfold ld getRow
 dsimp only
 cases getBlk H b <;> rfl
theorem st_eq (z:Nat) (H:Heap) (b i f:Nat) (v:D):st z H (.ptr b i f) v=(getBlk H b).bind fun rows=>if v.cells.length=z∧v.cells.all D.isCell=true then (rows[i]?).bind fun row=>(storeRow row f v.cells).map fun r=>H.set b (some (rows.set i r)) else none:=rfl
theorem alloc_cond (H:Heap) (cells:List D) (k:D→Heap→R):alloc_ H cells k=bif cells.all D.isCell then k (.ptr H.length 0 0) (H++[some [cells]]) else none:=rfl
theorem ia_nat {α:Type} {row:α→List D} {esz:Nat} (hr:∀ x,(row x).length=esz) {H:Heap} {l:List α} {i:Nat} (hi:i < l.length):ia esz H (.list (l.map row)) (.int .i64 (i:Nat))=some (.el (row l[i]) 0):=by
 rw [ia_list (n:=(i:Int)) (by omega) (by simp; omega) (by simp [hr])]
 simp
theorem nat_succ64 {i n:Nat} (hi:i < n) (hn:n≤140737488351232):IntKind.wrap .i64 ((i:Int) + 1)=((i + 1:Nat):Int):=by rw [wrap_i64 (by omega) (by omega)]; omega
theorem lt64 {i n:Nat} (hi:i < n):decide ((i:Int) < (n:Int))=true:=by simpa using hi
theorem nlt64 (n:Nat):decide ((n:Int) < (n:Int))=false:=by simp
theorem part_c0 (a:D) (l:List D):part (a :: l) (0,1,false)=some a:=rfl
theorem part_cS (a:D) (l:List D) (f:Nat):part (a :: l) (f + 1,1,false)=part l (f,1,false):=rfl
theorem nil_ptr (b i f:Nat):nilCheck (.ptr b i f)=some (.ptr b i f):=rfl
theorem nil_el (r:List D) (f:Nat):nilCheck (.el r f)=some (.el r f):=rfl
theorem nil_fn (f:FuncId) (c:List D):nilCheck (.fn f c)=some (.fn f c):=rfl
theorem rInt_part (n:Int):part (rInt n) (0,1,false)=some (.int .i64 n):=rfl
theorem rStr_part (n:List UInt8):part (rStr n) (0,1,false)=some (.str n):=rfl
theorem rBool_part (n:Bool):part (rBool n) (0,1,false)=some (.bool n):=rfl
def SIMP:=And.intro @Option.bind_some.{0,0} (And.intro @Option.bind_none.{0,0} (And.intro @Option.map_some.{0,0} (And.intro @Option.map_none.{0,0} (And.intro @asB_bool (And.intro @cond_true.{1} (And.intro @cond_false.{1} (And.intro @asFn_fn (And.intro @bI_add (And.intro @bI_sub (And.intro @bI_mul (And.intro @bI_eql (And.intro @bI_neq (And.intro @bI_lss (And.intro @bI_leq (And.intro @bI_gtr (And.intro @bI_geq (And.intro @bS_eql (And.intro @bS_neq (And.intro @bB_eql (And.intro @bB_neq (And.intro @unOp_not (And.intro @unOp_neg (And.intro @lnS_str (And.intro @lnL_list (And.intro @lnL_sl0 (And.intro @lnL_sl (And.intro @cI_int (And.intro @extract_tup (And.intro @tupOf_two (And.intro @tupOf_one (And.intro @tupOf_nil (And.intro @ret_nil (And.intro @ret_one (And.intro @ret_two (And.intro @ret_three (And.intro @ret_four (And.intro @fa_ptr (And.intro @fa_el (And.intro @ld_el (And.intro @fd_agg (And.intro @part_c0 (And.intro @part_cS (And.intro @rInt_part (And.intro @rStr_part (And.intro @rBool_part (And.intro @ld_eq (And.intro @st_eq (And.intro @alloc_cond (And.intro @nil_ptr (And.intro @nil_el (And.intro @nil_fn (And.intro @List.all_cons.{0} (And.intro @List.all_nil.{0} (And.intro @Bool.and_true (And.intro @Bool.true_and (And.intro @Bool.false_and (And.intro @Bool.and_false (And.intro @isCell_int (And.intro @isCell_bool (And.intro @isCell_str (And.intro @isCell_sl0 (And.intro @isCell_sl (And.intro @isCell_ptr (And.intro @isCell_fn (And.intro @isCell_list (And.intro @isCell_el (And.intro @cells_int (And.intro @cells_bool (And.intro @cells_str (And.intro @cells_sl0 (And.intro @cells_sl (And.intro @cells_ptr (And.intro @cells_fn (And.intro @cells_list (And.intro @cells_el (And.intro @cells_agg (And.intro @blk_far0 (And.intro @blk_far (And.intro @blk_zero (And.intro @blk_succ (And.intro @set_far0 (And.intro @set_far (And.intro @set_zero' (And.intro @set_succ' (And.intro @getD_zero (And.intro @getD_succ (And.intro @List.length_map.{0,0} (And.intro @List.length_cons.{0} (And.intro @List.length_nil.{0} (And.intro @len0 (And.intro @Nat.zero_add (And.intro @Nat.add_zero (And.intro @List.cons_append.{0} (And.intro @List.nil_append.{0} (And.intro @List.append_assoc.{0} (And.intro @and_self (And.intro @true_and (And.intro @and_true (And.intro @if_true.{1} (And.intro @if_false.{1} (And.intro @eq_self.{1} (And.intro @call_pure (And.intro @optAll_cons (And.intro @optAll_nil (And.intro @readT_int (And.intro @readT_bool (And.intro @readT_str (And.intro @readT_list9 (And.intro @readT_sl09 (And.intro @readA_el (And.intro @storeRow_one (And.intro @call_view (And.intro @List.foldl_cons.{0,0} (And.intro @List.foldl_nil.{0,0} (And.intro @killT_int (And.intro @killT_bool (And.intro @killT_str (And.intro @killT_list (And.intro @killT_sl0 (And.intro @fst_bind (And.intro @fst_cond (And.intro @fst_some (And.intro @decide_true (And.intro @decide_false (And.intro @Bool.not_true (And.intro @Bool.not_false (And.intro @readA_int (And.intro @readA_bool (And.intro @readA_str (And.intro @readA_list (And.intro @readA_sl0 (And.intro @readA_sl (And.intro @readA_agg (@readA_tup))))))))))))))))))))))))))))))))))))))))))))))))))))))))))))))))))))))))))))))))))))))))))))))))))))))))))))))))))))))))))))))))))))))
theorem SConst.g0 (x:SConst):part x.row (0,1,false)=some (.int .i64 x.Kind):=rfl
theorem SConst.g1 (x:SConst):part x.row (1,1,false)=some (.str x.Text):=rfl
theorem SConst.g2 (x:SConst):part x.row (2,1,false)=some (.int .i64 x.A):=rfl
theorem SConst.g3 (x:SConst):part x.row (3,1,false)=some (.int .i64 x.B):=rfl
theorem SConst.all (x:SConst):part x.row (0,4,true)=some x.d:=rfl
theorem SConst.cov (x:SConst) (z:List D) (h:z.length=4):storeRow z 0 x.row=some x.row:=storeRow_all h
theorem SConst.p0 (x:SConst) (v:Int):storeRow x.row 0 [.int .i64 v]=some ({ x with Kind:=v }:SConst).row:=rfl
theorem SConst.p1 (x:SConst) (v:List UInt8):storeRow x.row 1 [.str v]=some ({ x with Text:=v }:SConst).row:=rfl
theorem SConst.p2 (x:SConst) (v:Int):storeRow x.row 2 [.int .i64 v]=some ({ x with A:=v }:SConst).row:=rfl
theorem SConst.p3 (x:SConst) (v:Int):storeRow x.row 3 [.int .i64 v]=some ({ x with B:=v }:SConst).row:=rfl
def SConst.simps:=And.intro @SConst.g0 (And.intro @SConst.g1 (And.intro @SConst.g2 (And.intro @SConst.g3 (And.intro @SConst.all (And.intro @SConst.cov (And.intro @SConst.p0 (And.intro @SConst.p1 (And.intro @SConst.p2 (And.intro @SConst.p3 (And.intro @SConst.len (And.intro @SConst.isCell (@SConst.readD))))))))))))
theorem SField.g0 (x:SField):part x.row (0,1,false)=some (.int .i64 x.Flags):=rfl
theorem SField.g1 (x:SField):part x.row (1,1,false)=some (.int .i64 x.Name):=rfl
theorem SField.g2 (x:SField):part x.row (2,1,false)=some (.int .i64 x.Typ):=rfl
theorem SField.all (x:SField):part x.row (0,3,true)=some x.d:=rfl
theorem SField.cov (x:SField) (z:List D) (h:z.length=3):storeRow z 0 x.row=some x.row:=storeRow_all h
theorem SField.p0 (x:SField) (v:Int):storeRow x.row 0 [.int .i64 v]=some ({ x with Flags:=v }:SField).row:=rfl
theorem SField.p1 (x:SField) (v:Int):storeRow x.row 1 [.int .i64 v]=some ({ x with Name:=v }:SField).row:=rfl
theorem SField.p2 (x:SField) (v:Int):storeRow x.row 2 [.int .i64 v]=some ({ x with Typ:=v }:SField).row:=rfl
def SField.simps:=And.intro @SField.g0 (And.intro @SField.g1 (And.intro @SField.g2 (And.intro @SField.all (And.intro @SField.cov (And.intro @SField.p0 (And.intro @SField.p1 (And.intro @SField.p2 (And.intro @SField.len (And.intro @SField.isCell (@SField.readD))))))))))
theorem STrap.g0 (x:STrap):part x.row (0,1,false)=some (.int .i64 x.From):=rfl
theorem STrap.g1 (x:STrap):part x.row (1,1,false)=some (.int .i64 x.To):=rfl
theorem STrap.g2 (x:STrap):part x.row (2,1,false)=some (.int .i64 x.At):=rfl
theorem STrap.g3 (x:STrap):part x.row (3,1,false)=some (.int .i64 x.Class):=rfl
theorem STrap.all (x:STrap):part x.row (0,4,true)=some x.d:=rfl
theorem STrap.cov (x:STrap) (z:List D) (h:z.length=4):storeRow z 0 x.row=some x.row:=storeRow_all h
theorem STrap.p0 (x:STrap) (v:Int):storeRow x.row 0 [.int .i64 v]=some ({ x with From:=v }:STrap).row:=rfl
theorem STrap.p1 (x:STrap) (v:Int):storeRow x.row 1 [.int .i64 v]=some ({ x with To:=v }:STrap).row:=rfl
theorem STrap.p2 (x:STrap) (v:Int):storeRow x.row 2 [.int .i64 v]=some ({ x with At:=v }:STrap).row:=rfl
theorem STrap.p3 (x:STrap) (v:Int):storeRow x.row 3 [.int .i64 v]=some ({ x with Class:=v }:STrap).row:=rfl
def STrap.simps:=And.intro @STrap.g0 (And.intro @STrap.g1 (And.intro @STrap.g2 (And.intro @STrap.g3 (And.intro @STrap.all (And.intro @STrap.cov (And.intro @STrap.p0 (And.intro @STrap.p1 (And.intro @STrap.p2 (And.intro @STrap.p3 (And.intro @STrap.len (And.intro @STrap.isCell (@STrap.readD))))))))))))
theorem SKind.g0 (x:SKind):part x.row (0,1,false)=some (.int .i64 x.Tag):=rfl
theorem SKind.g1 (x:SKind):part x.row (1,1,false)=some (.int .i64 x.Class):=rfl
theorem SKind.all (x:SKind):part x.row (0,2,true)=some x.d:=rfl
theorem SKind.cov (x:SKind) (z:List D) (h:z.length=2):storeRow z 0 x.row=some x.row:=storeRow_all h
theorem SKind.p0 (x:SKind) (v:Int):storeRow x.row 0 [.int .i64 v]=some ({ x with Tag:=v }:SKind).row:=rfl
theorem SKind.p1 (x:SKind) (v:Int):storeRow x.row 1 [.int .i64 v]=some ({ x with Class:=v }:SKind).row:=rfl
def SKind.simps:=And.intro @SKind.g0 (And.intro @SKind.g1 (And.intro @SKind.all (And.intro @SKind.cov (And.intro @SKind.p0 (And.intro @SKind.p1 (And.intro @SKind.len (And.intro @SKind.isCell (@SKind.readD))))))))
theorem SFrame.g0 (x:SFrame):part x.row (0,1,false)=some (.int .i64 x.At):=rfl
theorem SFrame.g1 (x:SFrame):part x.row (1,1,false)=some (.list (x.Locals.map SKind.row)):=rfl
theorem SFrame.g2 (x:SFrame):part x.row (2,1,false)=some (.list (x.Stack.map SKind.row)):=rfl
theorem SFrame.all (x:SFrame):part x.row (0,3,true)=some x.d:=rfl
theorem SFrame.cov (x:SFrame) (z:List D) (h:z.length=3):storeRow z 0 x.row=some x.row:=storeRow_all h
theorem SFrame.p0 (x:SFrame) (v:Int):storeRow x.row 0 [.int .i64 v]=some ({ x with At:=v }:SFrame).row:=rfl
theorem SFrame.p1 (x:SFrame) (v:List SKind):storeRow x.row 1 [.list (v.map SKind.row)]=some ({ x with Locals:=v }:SFrame).row:=rfl
theorem SFrame.p2 (x:SFrame) (v:List SKind):storeRow x.row 2 [.list (v.map SKind.row)]=some ({ x with Stack:=v }:SFrame).row:=rfl
def SFrame.simps:=And.intro @SFrame.g0 (And.intro @SFrame.g1 (And.intro @SFrame.g2 (And.intro @SFrame.all (And.intro @SFrame.cov (And.intro @SFrame.p0 (And.intro @SFrame.p1 (And.intro @SFrame.p2 (And.intro @SFrame.len (And.intro @SFrame.isCell (@SFrame.readD))))))))))
theorem SMethod.g0 (x:SMethod):part x.row (0,1,false)=some (.int .i64 x.Flags):=rfl
theorem SMethod.g1 (x:SMethod):part x.row (1,1,false)=some (.int .i64 x.Name):=rfl
theorem SMethod.g2 (x:SMethod):part x.row (2,1,false)=some (.int .i64 x.Desc):=rfl
theorem SMethod.g3 (x:SMethod):part x.row (3,1,false)=some (.int .i64 x.Deep):=rfl
theorem SMethod.g4 (x:SMethod):part x.row (4,1,false)=some (.int .i64 x.Locals):=rfl
theorem SMethod.g5 (x:SMethod):part x.row (5,1,false)=some (.str x.Code):=rfl
theorem SMethod.g6 (x:SMethod):part x.row (6,1,false)=some (.list (x.Traps.map STrap.row)):=rfl
theorem SMethod.g7 (x:SMethod):part x.row (7,1,false)=some (.list (x.Frames.map SFrame.row)):=rfl
theorem SMethod.all (x:SMethod):part x.row (0,8,true)=some x.d:=rfl
theorem SMethod.cov (x:SMethod) (z:List D) (h:z.length=8):storeRow z 0 x.row=some x.row:=storeRow_all h
theorem SMethod.p0 (x:SMethod) (v:Int):storeRow x.row 0 [.int .i64 v]=some ({ x with Flags:=v }:SMethod).row:=rfl
theorem SMethod.p1 (x:SMethod) (v:Int):storeRow x.row 1 [.int .i64 v]=some ({ x with Name:=v }:SMethod).row:=rfl
theorem SMethod.p2 (x:SMethod) (v:Int):storeRow x.row 2 [.int .i64 v]=some ({ x with Desc:=v }:SMethod).row:=rfl
theorem SMethod.p3 (x:SMethod) (v:Int):storeRow x.row 3 [.int .i64 v]=some ({ x with Deep:=v }:SMethod).row:=rfl
theorem SMethod.p4 (x:SMethod) (v:Int):storeRow x.row 4 [.int .i64 v]=some ({ x with Locals:=v }:SMethod).row:=rfl
theorem SMethod.p5 (x:SMethod) (v:List UInt8):storeRow x.row 5 [.str v]=some ({ x with Code:=v }:SMethod).row:=rfl
theorem SMethod.p6 (x:SMethod) (v:List STrap):storeRow x.row 6 [.list (v.map STrap.row)]=some ({ x with Traps:=v }:SMethod).row:=rfl
theorem SMethod.p7 (x:SMethod) (v:List SFrame):storeRow x.row 7 [.list (v.map SFrame.row)]=some ({ x with Frames:=v }:SMethod).row:=rfl
def SMethod.simps:=And.intro @SMethod.g0 (And.intro @SMethod.g1 (And.intro @SMethod.g2 (And.intro @SMethod.g3 (And.intro @SMethod.g4 (And.intro @SMethod.g5 (And.intro @SMethod.g6 (And.intro @SMethod.g7 (And.intro @SMethod.all (And.intro @SMethod.cov (And.intro @SMethod.p0 (And.intro @SMethod.p1 (And.intro @SMethod.p2 (And.intro @SMethod.p3 (And.intro @SMethod.p4 (And.intro @SMethod.p5 (And.intro @SMethod.p6 (And.intro @SMethod.p7 (And.intro @SMethod.len (And.intro @SMethod.isCell (@SMethod.readD))))))))))))))))))))
theorem SClass.g0 (x:SClass):part x.row (0,1,false)=some (.list (x.Pool.map SConst.row)):=rfl
theorem SClass.g1 (x:SClass):part x.row (1,1,false)=some (.int .i64 x.Flags):=rfl
theorem SClass.g2 (x:SClass):part x.row (2,1,false)=some (.int .i64 x.Name):=rfl
theorem SClass.g3 (x:SClass):part x.row (3,1,false)=some (.int .i64 x.Super):=rfl
theorem SClass.g4 (x:SClass):part x.row (4,1,false)=some (.list (x.Faces.map rInt)):=rfl
theorem SClass.g5 (x:SClass):part x.row (5,1,false)=some (.list (x.Fields.map SField.row)):=rfl
theorem SClass.g6 (x:SClass):part x.row (6,1,false)=some (.list (x.Methods.map SMethod.row)):=rfl
theorem SClass.all (x:SClass):part x.row (0,7,true)=some x.d:=rfl
theorem SClass.cov (x:SClass) (z:List D) (h:z.length=7):storeRow z 0 x.row=some x.row:=storeRow_all h
theorem SClass.p0 (x:SClass) (v:List SConst):storeRow x.row 0 [.list (v.map SConst.row)]=some ({ x with Pool:=v }:SClass).row:=rfl
theorem SClass.p1 (x:SClass) (v:Int):storeRow x.row 1 [.int .i64 v]=some ({ x with Flags:=v }:SClass).row:=rfl
theorem SClass.p2 (x:SClass) (v:Int):storeRow x.row 2 [.int .i64 v]=some ({ x with Name:=v }:SClass).row:=rfl
theorem SClass.p3 (x:SClass) (v:Int):storeRow x.row 3 [.int .i64 v]=some ({ x with Super:=v }:SClass).row:=rfl
theorem SClass.p4 (x:SClass) (v:List Int):storeRow x.row 4 [.list (v.map rInt)]=some ({ x with Faces:=v }:SClass).row:=rfl
theorem SClass.p5 (x:SClass) (v:List SField):storeRow x.row 5 [.list (v.map SField.row)]=some ({ x with Fields:=v }:SClass).row:=rfl
theorem SClass.p6 (x:SClass) (v:List SMethod):storeRow x.row 6 [.list (v.map SMethod.row)]=some ({ x with Methods:=v }:SClass).row:=rfl
def SClass.simps:=And.intro @SClass.g0 (And.intro @SClass.g1 (And.intro @SClass.g2 (And.intro @SClass.g3 (And.intro @SClass.g4 (And.intro @SClass.g5 (And.intro @SClass.g6 (And.intro @SClass.all (And.intro @SClass.cov (And.intro @SClass.p0 (And.intro @SClass.p1 (And.intro @SClass.p2 (And.intro @SClass.p3 (And.intro @SClass.p4 (And.intro @SClass.p5 (And.intro @SClass.p6 (And.intro @SClass.len (And.intro @SClass.isCell (@SClass.readD))))))))))))))))))
theorem SIns.g0 (x:SIns):part x.row (0,1,false)=some (.int .i64 x.At):=rfl
theorem SIns.g1 (x:SIns):part x.row (1,1,false)=some (.int .i64 x.Op):=rfl
theorem SIns.g2 (x:SIns):part x.row (2,1,false)=some (.int .i64 x.Num):=rfl
theorem SIns.all (x:SIns):part x.row (0,3,true)=some x.d:=rfl
theorem SIns.cov (x:SIns) (z:List D) (h:z.length=3):storeRow z 0 x.row=some x.row:=storeRow_all h
theorem SIns.p0 (x:SIns) (v:Int):storeRow x.row 0 [.int .i64 v]=some ({ x with At:=v }:SIns).row:=rfl
theorem SIns.p1 (x:SIns) (v:Int):storeRow x.row 1 [.int .i64 v]=some ({ x with Op:=v }:SIns).row:=rfl
theorem SIns.p2 (x:SIns) (v:Int):storeRow x.row 2 [.int .i64 v]=some ({ x with Num:=v }:SIns).row:=rfl
def SIns.simps:=And.intro @SIns.g0 (And.intro @SIns.g1 (And.intro @SIns.g2 (And.intro @SIns.all (And.intro @SIns.cov (And.intro @SIns.p0 (And.intro @SIns.p1 (And.intro @SIns.p2 (And.intro @SIns.len (And.intro @SIns.isCell (@SIns.readD))))))))))
end Go.Ev
namespace Go.Ev
set_option linter.unusedVariables false
set_option linter.unusedSimpArgs false
set_option linter.unusedSectionVars false
set_option linter.defProp false
set_option maxHeartbeats 1000000
def szR (s:Nat) (left:Int):Int:=if (s:Int)≤left then left - s else -1
theorem szR_pos {s:Nat} {left:Int} (h:(s:Int)≤left):szR s left=left - s:=if_pos h
theorem szR_neg {s:Nat} {left:Int} (h:¬ (s:Int)≤left):szR s left = -1:=if_neg h
def szL {α:Type} (f:α→Nat) (l:List α):Nat:=l.length + (l.map f).sum
theorem szL_len {α:Type} {f:α→Nat} {l:List α} {n:Nat} (h:szL f l≤n):l.length≤n:=by unfold szL at h; omega
theorem szL_get {α:Type} {f:α→Nat} {l:List α} {n i:Nat} (h:szL f l≤n) (hi:i < l.length):f l[i]≤n:=by
 have:∀ {l:List Nat} {i:Nat} (hi:i < l.length),l[i]≤l.sum:=by
  intro l
  induction l with
  | nil=>intro i hi; simp at hi
  | cons a l ih=>
   intro i hi
   cases i with
   | zero=>simp
   | succ i=>have:=ih (i:=i) (by simpa using hi); simp; omega
 have:=this (l:=l.map f) (i:=i) (by simpa using hi)
 simp only [List.getElem_map] at this
 unfold szL at h; omega
theorem szL_zero {α:Type} (l:List α):szL (fun _=>0) l=l.length:=by
 have:(l.map (fun _=>0)).sum=0:=by
  induction l with
  | nil=>rfl
  | cons a l ih=>simpa using ih
 simp only [szL,this,Nat.add_zero]
def SConst.sz (x:SConst):Nat:=x.Text.length
def SFrame.sz (x:SFrame):Nat:=szL (fun _=>0) x.Locals + szL (fun _=>0) x.Stack
def SMethod.sz (x:SMethod):Nat:=x.Code.length + szL (fun _=>0) x.Traps + szL SFrame.sz x.Frames
def SClass.sz (x:SClass):Nat:=szL SConst.sz x.Pool + szL (fun _=>0) x.Faces + szL (fun _=>0) x.Fields + szL SMethod.sz x.Methods
def SFrame.fit (x:SFrame):Prop:=x.Locals.length≤140737488351232∧x.Stack.length≤140737488351232
def SMethod.fit (x:SMethod):Prop:=x.Traps.length≤140737488351232∧x.Frames.length≤140737488351232∧(∀ z ∈ x.Frames,z.fit)
def SClass.fit (x:SClass):Prop:=x.Pool.length≤140737488351232∧x.Faces.length≤140737488351232∧x.Fields.length≤140737488351232∧x.Methods.length≤140737488351232∧(∀ z ∈ x.Methods,z.fit)
end Go.Ev
namespace Go.Ev
set_option linter.unusedVariables false
set_option linter.unusedSimpArgs false
set_option linter.unusedSectionVars false
set_option linter.defProp false
set_option maxHeartbeats 1000000
def u8 (n:Int):UInt8:=UInt8.ofNat (n % 256).toNat
theorem u8_self (b:UInt8):u8 (b.toNat:Int)=b:=by
 have h:=b.toNat_lt
 apply UInt8.toNat_inj.mp
 simp only [u8,UInt8.toNat_ofNat',Nat.reducePow]
 omega
abbrev Get (α:Type):=List UInt8→Option (α×List UInt8)
def gOne:Get Int
 | []=>none
 | b :: r=>some ((b.toNat:Int),r)
def bindG {α β:Type} (g:Get α) (h:α→Get β):Get β:=fun s=>(g s).bind fun q=>h q.1 q.2
def pureG {α:Type} (a:α):Get α:=fun s=>some (a,s)
def failG {α:Type}:Get α:=fun _=>none
def gTwo:Get Int:=bindG gOne fun a=>bindG gOne fun b=>pureG (256 * a + b)
def gText (n:Nat):Get (List UInt8):=fun s=>if n≤s.length then some (s.take n,s.drop n) else none
def gMany {α:Type} (f:Get α):Nat→Get (List α)
 | 0=>pureG []
 | n + 1=>bindG f fun a=>bindG (gMany f n) fun l=>pureG (a :: l)
def gUp (most:Int) (g:Get Int):Get Int:=bindG g fun n=>if most < n then failG else pureG n
def gList {α:Type} (most:Int) (f:Get α):Get (List α):=bindG (gUp most gOne) fun n=>gMany f n.toNat
def gKind:Get SKind:=bindG (gUp 3 gOne) fun t=>if t=3 then bindG gTwo fun c=>pureG ⟨t,c⟩ else pureG ⟨t,0⟩
def gConst:Get SConst:=bindG gOne fun k=>
 if k=1 then bindG gOne fun n=>bindG (gText n.toNat) fun t=>pureG ⟨k,t,0,0⟩
 else if k=2 then bindG gTwo fun a=>pureG ⟨k,[],a,0⟩
 else if 3≤k∧k≤6 then bindG gTwo fun a=>bindG gTwo fun b=>pureG ⟨k,[],a,b⟩
 else failG
def gTrap:Get STrap:=bindG gTwo fun a=>bindG gTwo fun b=>bindG gTwo fun c=>bindG gTwo fun d=>pureG ⟨a,b,c,d⟩
def gFrame:Get SFrame:=bindG gTwo fun a=>bindG (gList 8 gKind) fun b=>bindG (gList 8 gKind) fun c=>pureG ⟨a,b,c⟩
def isAbs (flags:Int):Bool:=decide (flags % 16 / 8=1)
def gBody (f n d:Int):Get SMethod:=bindG gOne fun a=>bindG gOne fun b=>bindG (gUp 120 gTwo) fun c=>bindG (gText c.toNat) fun t=>
 bindG (gList 3 gTrap) fun x=>bindG (gList 8 gFrame) fun y=>pureG ⟨f,n,d,a,b,t,x,y⟩
def gMethod:Get SMethod:=bindG gOne fun f=>bindG gTwo fun n=>bindG gTwo fun d=>
 if isAbs f=true then pureG ⟨f,n,d,0,0,[],[],[]⟩ else gBody f n d
def gField:Get SField:=bindG gOne fun f=>bindG gTwo fun n=>bindG gTwo fun d=>pureG ⟨f,n,d⟩
def stow:List UInt8:=[83,84,79,87]
def gClass:Get SClass:=bindG (gText 4) fun w=>if w=stow then
 bindG (gList 60 gConst) fun p=>bindG gOne fun f=>bindG gTwo fun n=>bindG gTwo fun u=>bindG (gList 3 gTwo) fun a=>bindG (gList 5 gField) fun i=>bindG (gList 6 gMethod) fun m=>
  pureG ⟨p,f,n,u,a,i,m⟩ else failG
def fileGet (s:List UInt8):Option SClass:=if 900 < s.length then none else match gClass s with
 | some (c,[])=>some c
 | _=>none
def pOne (n:Int):List UInt8:=[u8 n]
def pTwo (n:Int):List UInt8:=[u8 (n / 256),u8 n]
def pTwo' (n:Int):List UInt8:=[u8 (n.tdiv 256),u8 (n.tmod 256)]
section
variable (w:Int→List UInt8)
def pKind (k:SKind):List UInt8:=if k.Tag=3 then pOne k.Tag++w k.Class else pOne k.Tag
def pKinds (l:List SKind):List UInt8:=pOne l.length++l.flatMap (pKind w)
def pConst (c:SConst):List UInt8:=if c.Kind=1 then pOne c.Kind++pOne c.Text.length++c.Text else if c.Kind=2 then pOne c.Kind++w c.A else pOne c.Kind++w c.A++w c.B
def pTrap (t:STrap):List UInt8:=w t.From++w t.To++w t.At++w t.Class
def pFrame (f:SFrame):List UInt8:=w f.At++pKinds w f.Locals++pKinds w f.Stack
def pMethod (ab:Int→Bool) (m:SMethod):List UInt8:=
 let h:=pOne m.Flags++w m.Name++w m.Desc
 if ab m.Flags=true then h else h++pOne m.Deep++pOne m.Locals++w m.Code.length++m.Code++pOne m.Traps.length++m.Traps.flatMap (pTrap w)++pOne m.Frames.length++m.Frames.flatMap (pFrame w)
def pField (f:SField):List UInt8:=pOne f.Flags++w f.Name++w f.Typ
def pClass (ab:Int→Bool) (c:SClass):List UInt8:=stow++pOne c.Pool.length++c.Pool.flatMap (pConst w)++pOne c.Flags++w c.Name++w c.Super++pOne c.Faces.length++c.Faces.flatMap w++pOne c.Fields.length++c.Fields.flatMap (pField w)++pOne c.Methods.length++c.Methods.flatMap (pMethod w ab)
end
def Back {α:Type} (g:Get α) (p:α→List UInt8):Prop:=∀ s a r,g s=some (a,r)→s=p a++r
def Back2 (w:Int→List UInt8) (ab:Int→Bool):Prop:=Back gTwo w∧(∀ n:Nat,n≤120→w n=pTwo n)∧∀ n:Int,0≤n→n≤255→ab n=isAbs n
def isAbs' (n:Int):Bool:=decide ((n.tmod 16).tdiv 8=1)
theorem isAbs_same {n:Int} (h:0≤n):isAbs' n=isAbs n:=by
 unfold isAbs isAbs'
 rw [Int.tmod_eq_emod_of_nonneg h,Int.tdiv_eq_ediv_of_nonneg (Int.emod_nonneg _ (by decide))]
theorem gOne_back:Back gOne pOne:=by
 intro s a r h
 cases s with
 | nil=>cases h
 | cons b t=>cases h; simp [pOne,u8_self]
theorem gOne_rng {s:List UInt8} {a:Int} {r:List UInt8} (h:gOne s=some (a,r)):0≤a∧a≤255∧s.length=r.length + 1:=by
 cases s with
 | nil=>cases h
 | cons b t=>cases h; have:=b.toNat_lt; simp; omega
theorem gTwo_eq {s:List UInt8} {a:Int} {r:List UInt8} (h:gTwo s=some (a,r)):∃ x y:UInt8,s=x :: y :: r∧a=256 * x.toNat + y.toNat:=by
 unfold gTwo at h
 match s,h with
 | [],h=>cases h
 | [x],h=>cases h
 | x :: y :: t,h=>cases h; exact ⟨x,y,rfl,rfl⟩
theorem gTwo_rng {s:List UInt8} {a:Int} {r:List UInt8} (h:gTwo s=some (a,r)):0≤a∧a≤65535∧s.length=r.length + 2:=by
 obtain ⟨x,y,rfl,rfl⟩:=gTwo_eq h
 have:=x.toNat_lt
 have:=y.toNat_lt
 simp; omega
theorem two_eq (x y:UInt8):pTwo (256 * x.toNat + y.toNat)=[x,y]:=by
 have hx:=x.toNat_lt
 have hy:=y.toNat_lt
 have e1:(256 * (x.toNat:Int) + y.toNat) / 256=x.toNat:=by omega
 have e2:u8 (256 * (x.toNat:Int) + y.toNat)=u8 (y.toNat:Int):=by simp [u8]
 simp [pTwo,e1,e2,u8_self]
theorem pTwo_same {n:Int} (h:0≤n):pTwo' n=pTwo n:=by
 have e1:n.tmod 256=n % 256:=Int.tmod_eq_emod_of_nonneg h
 have e2:n.tdiv 256=n / 256:=Int.tdiv_eq_ediv_of_nonneg h
 simp [pTwo,pTwo',e1,e2,u8]
theorem back2_pTwo:Back2 pTwo isAbs:=⟨fun s a r h=>by obtain ⟨x,y,rfl,rfl⟩:=gTwo_eq h; rw [two_eq]; rfl,fun _ _=>rfl,fun _ _ _=>rfl⟩
theorem back2_pTwo':Back2 pTwo' isAbs':=⟨fun s a r h=>by
 obtain ⟨x,y,rfl,rfl⟩:=gTwo_eq h
 rw [pTwo_same (by omega),two_eq]; rfl,fun n _=>pTwo_same (by omega),fun n h _=>isAbs_same h⟩
theorem gText_eq {n:Nat} {s t r:List UInt8} (h:gText n s=some (t,r)):s=t++r∧t.length=n:=by
 unfold gText at h
 split at h
 ·cases h; simp; omega
 ·cases h
theorem gMany_back {α:Type} {f:Get α} {p:α→List UInt8} (hf:Back f p):∀ n s l r,gMany f n s=some (l,r)→s=l.flatMap p++r∧l.length=n
 | 0,s,l,r,h=>by cases h; simp
 | n + 1,s,l,r,h=>by
  simp only [gMany,bindG,pureG,failG,Option.bind_eq_some_iff] at h
  obtain ⟨⟨a,r1⟩,h1,⟨l2,r2⟩,h2,h3⟩:=h
  cases h3
  obtain ⟨e1,e2⟩:=gMany_back hf n _ _ _ h2
  have:=hf _ _ _ h1
  try simp only at e1
  exact ⟨by simp [this,e1],by simp [e2]⟩
theorem gUp_eq {most:Int} {g:Get Int} {s:List UInt8} {a:Int} {r:List UInt8} (h:gUp most g s=some (a,r)):g s=some (a,r)∧a≤most:=by
 simp only [gUp,bindG,pureG,failG,Option.bind_eq_some_iff] at h
 obtain ⟨⟨b,r1⟩,h1,h2⟩:=h
 split at h2
 ·cases h2
 ·cases h2; exact ⟨h1,by omega⟩
theorem gList_back {α:Type} {most:Int} {f:Get α} {p:α→List UInt8} (hf:Back f p):Back (gList most f) (fun l=>pOne l.length++l.flatMap p):=by
 intro s l r h
 simp only [gList,bindG,pureG,failG,Option.bind_eq_some_iff] at h
 obtain ⟨⟨n,r1⟩,h1,h2⟩:=h
 obtain ⟨h1,-⟩:=gUp_eq h1
 obtain ⟨e1,e2⟩:=gMany_back hf _ _ _ _ h2
 have h3:=gOne_back _ _ _ h1
 have h4:=gOne_rng h1
 try simp only at e1 e2
 show s=(pOne l.length++l.flatMap p)++r
 rw [h3,e1,show (l.length:Int)=n by omega]; simp
section
variable {w:Int→List UInt8} {ab:Int→Bool} (hw:Back2 w ab)
include hw
theorem gKind_back:Back gKind (pKind w):=by
 intro s a r h
 simp only [gKind,bindG,pureG,failG,Option.bind_eq_some_iff] at h
 obtain ⟨⟨n,r1⟩,h1,h2⟩:=h
 obtain ⟨h1,-⟩:=gUp_eq h1
 have h3:=gOne_back _ _ _ h1
 split at h2
 ·rename_i h4
  obtain ⟨⟨c,r2⟩,h5,h6⟩:=Option.bind_eq_some_iff.mp h2
  cases h6
  have h7:=hw.1 _ _ _ h5
  try simp only at h4 h7
  simp [h3,h7,pKind,h4]
 ·rename_i h4
  cases h2
  try simp only at h4
  simp [h3,pKind,h4]
theorem gConst_back:Back gConst (pConst w):=by
 intro s a r h
 simp only [gConst,bindG,pureG,failG,Option.bind_eq_some_iff] at h
 obtain ⟨⟨n,r1⟩,h1,h2⟩:=h
 have h3:=gOne_back _ _ _ h1
 try simp only at h2
 split at h2
 ·rename_i h4
  simp only [bindG,pureG,failG,Option.bind_eq_some_iff] at h2
  obtain ⟨⟨c,r2⟩,h5,⟨t,r3⟩,h6,h7⟩:=h2
  cases h7
  obtain ⟨e1,e2⟩:=gText_eq h6
  have h8:=gOne_back _ _ _ h5
  have h9:=gOne_rng h5
  try simp only at e1 e2 h8
  have:c=(t.length:Int):=by omega
  simp [h3,h8,e1,pConst,h4,this]
 ·rename_i h4
  split at h2
  ·rename_i h5
   obtain ⟨⟨c,r2⟩,h6,h7⟩:=Option.bind_eq_some_iff.mp h2
   cases h7
   have h8:=hw.1 _ _ _ h6
   try simp only at h8
   simp [h3,h8,pConst,h5]
  ·rename_i h5
   split at h2
   ·simp only [bindG,pureG,failG,Option.bind_eq_some_iff] at h2
    obtain ⟨⟨c,r2⟩,h6,⟨d,r3⟩,h7,h8⟩:=h2
    cases h8
    have h9:=hw.1 _ _ _ h6
    have h10:=hw.1 _ _ _ h7
    try simp only at h9 h10
    simp [h3,h9,h10,pConst,h4,h5]
   ·cases h2
theorem gTrap_back:Back gTrap (pTrap w):=by
 intro s a r h
 simp only [gTrap,bindG,pureG,failG,Option.bind_eq_some_iff] at h
 obtain ⟨⟨a1,r1⟩,h1,⟨a2,r2⟩,h2,⟨a3,r3⟩,h3,⟨a4,r4⟩,h4,h5⟩:=h
 cases h5
 have e1:=hw.1 _ _ _ h1
 have e2:=hw.1 _ _ _ h2
 have e3:=hw.1 _ _ _ h3
 have e4:=hw.1 _ _ _ h4
 try simp only at e1 e2 e3 e4
 simp [e1,e2,e3,e4,pTrap]
theorem gFrame_back:Back gFrame (pFrame w):=by
 intro s a r h
 simp only [gFrame,bindG,pureG,failG,Option.bind_eq_some_iff] at h
 obtain ⟨⟨a1,r1⟩,h1,⟨a2,r2⟩,h2,⟨a3,r3⟩,h3,h5⟩:=h
 cases h5
 have e1:=hw.1 _ _ _ h1
 have e2:=gList_back (gKind_back hw) _ _ _ h2
 have e3:=gList_back (gKind_back hw) _ _ _ h3
 try simp only at e1 e2 e3
 simp [e1,e2,e3,pFrame,pKinds]
theorem gField_back:Back gField (pField w):=by
 intro s a r h
 simp only [gField,bindG,pureG,failG,Option.bind_eq_some_iff] at h
 obtain ⟨⟨a1,r1⟩,h1,⟨a2,r2⟩,h2,⟨a3,r3⟩,h3,h5⟩:=h
 cases h5
 have e1:=gOne_back _ _ _ h1
 have e2:=hw.1 _ _ _ h2
 have e3:=hw.1 _ _ _ h3
 try simp only at e1 e2 e3
 simp [e1,e2,e3,pField]
theorem gMethod_back:Back gMethod (pMethod w ab):=by
 intro s a r h
 simp only [gMethod,bindG,pureG,failG,Option.bind_eq_some_iff] at h
 obtain ⟨⟨a1,r1⟩,h1,⟨a2,r2⟩,h2,⟨a3,r3⟩,h3,h5⟩:=h
 have e1:=gOne_back _ _ _ h1
 have e2:=hw.1 _ _ _ h2
 have e3:=hw.1 _ _ _ h3
 try simp only at e1 e2 e3 h5
 have hr:=gOne_rng h1
 have hab:=hw.2.2 a1 hr.1 hr.2.1
 split at h5
 ·rename_i ha
  cases h5
  simp [e1,e2,e3,pMethod,hab,ha]
 ·rename_i ha
  simp only [gBody,bindG,pureG,failG,Option.bind_eq_some_iff] at h5
  obtain ⟨⟨b1,s1⟩,k1,⟨b2,s2⟩,k2,⟨b3,s3⟩,k3,⟨b4,s4⟩,k4,⟨b5,s5⟩,k5,⟨b6,s6⟩,k6,k7⟩:=h5
  cases k7
  obtain ⟨k3,m3⟩:=gUp_eq k3
  have n3:=gTwo_rng k3
  have f1:=gOne_back _ _ _ k1
  have f2:=gOne_back _ _ _ k2
  have f3:=hw.1 _ _ _ k3
  obtain ⟨f4,f5⟩:=gText_eq k4
  have f6:=gList_back (gTrap_back hw) _ _ _ k5
  have f7:=gList_back (gFrame_back hw) _ _ _ k6
  try simp only at f1 f2 f3 f4 f5 f6 f7
  have:b3=(b4.length:Int):=by omega
  simp [e1,e2,e3,f1,f2,f3,f4,f6,f7,pMethod,hab,ha,this]
theorem gClass_back:Back gClass (pClass w ab):=by
 intro s a r h
 simp only [gClass,bindG,pureG,failG,Option.bind_eq_some_iff] at h
 obtain ⟨⟨t,r0⟩,h0,h1⟩:=h
 obtain ⟨e0,-⟩:=gText_eq h0
 split at h1
 ·rename_i ht
  simp only [bindG,pureG,Option.bind_eq_some_iff] at h1
  obtain ⟨⟨b1,s1⟩,k1,⟨b2,s2⟩,k2,⟨b3,s3⟩,k3,⟨b4,s4⟩,k4,⟨b5,s5⟩,k5,⟨b6,s6⟩,k6,⟨b7,s7⟩,k7,k8⟩:=h1
  cases k8
  have f1:=gList_back (gConst_back hw) _ _ _ k1
  have f2:=gOne_back _ _ _ k2
  have f3:=hw.1 _ _ _ k3
  have f4:=hw.1 _ _ _ k4
  have f5:=gList_back hw.1 _ _ _ k5
  have f6:=gList_back (gField_back hw) _ _ _ k6
  have f7:=gList_back (gMethod_back hw) _ _ _ k7
  try simp only at ht f1 f2 f3 f4 f5 f6 f7
  simp [e0,ht,f1,f2,f3,f4,f5,f6,f7,pClass]
 ·cases h1
theorem fileGet_back {s:List UInt8} {c:SClass} (h:fileGet s=some c):pClass w ab c=s:=by
 unfold fileGet at h
 split at h
 ·cases h
 ·split at h
  ·rename_i d hd
   cases h
   have:=gClass_back hw _ _ _ hd
   simpa using this.symm
  ·cases h
end
def filePut (c:SClass):List UInt8:=if fileGet (pClass pTwo isAbs c)=some c then pClass pTwo isAbs c else []
theorem filePut_of {w:Int→List UInt8} {ab:Int→Bool} (hw:Back2 w ab) (c:SClass):(if fileGet (pClass w ab c)=some c then pClass w ab c else [])=filePut c:=by
 unfold filePut
 by_cases h:fileGet (pClass w ab c)=some c
 ·have:=fileGet_back back2_pTwo h
  rw [if_pos h,this,if_pos h]
 ·rw [if_neg h]
  by_cases h2:fileGet (pClass pTwo isAbs c)=some c
  ·have:=fileGet_back hw h2
   rw [this] at h
   exact absurd h2 h
  ·rw [if_neg h2]
end Go.Ev
