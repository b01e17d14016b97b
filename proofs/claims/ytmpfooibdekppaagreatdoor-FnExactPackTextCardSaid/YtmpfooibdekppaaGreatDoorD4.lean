import Derived.Test.YtmpfooibdekppaaGreatDoorD3
namespace Go.Ev.YtmpfooibdekppaaGreatDoor
set_option linter.unusedVariables false
set_option linter.unusedSimpArgs false
set_option linter.unusedSectionVars false
set_option linter.defProp false
set_option maxHeartbeats 1000000
open Go.Ev
theorem put2c (n:Int):run E (exec E) false 116 [.int .i64 n]=some (.str (pTwo n)):=c116 n
theorem c117_3 (l:List SKind) (hl:l.length≤140737488351232):∀ i,i≤l.length→∀ (acc:List UInt8) (H:Heap),acc.length + ((l.drop i).flatMap (pKind pTwo)).length≤4611686018427387904→∃ H',J E 117 3 [.str acc,.list (l.map SKind.row),.int .i64 l.length,.int .i64 i] H=some (.str (acc++(l.drop i).flatMap (pKind pTwo)),H'):=by
 apply loop_up
 ·intro acc H hM
  rw [j117_3]
  simp only [bI_lss,Int.lt_irrefl,decide_false,Option.bind_some,asB_bool,cond_false,List.drop_length,ret_one,List.flatMap_nil,List.append_nil]
  exact ⟨H,rfl⟩
 ·intro i hi ih acc H hM
  have hlt:((i:Nat):Int) < (l.length:Int):=by omega
  have hia:=fun H:Heap=>ia_row (row:=SKind.row) (esz:=2) (fun x=>rfl) (H:=H) hi
  rw [List.drop_eq_getElem_cons hi,List.flatMap_cons] at hM ⊢
  rw [j117_3]
  simp only [bI_lss,hlt,decide_true,Option.bind_some,asB_bool,cond_true,hia,ld_el]
  generalize l[i]=x at *
  simp only [List.length_append] at hM
  simp only [show part x.row (0,2,true)=some x.d from rfl,Option.bind_some]
  rw [alloc_eq _ _ _ rfl,put_loc (z:=2) H [.int .i64 0,.int .i64 0] x.row rfl rfl rfl]
  have hb:getBlk (H++[some [x.row]]) H.length=some [x.row]:=getBlk_self _ _ []
  have r0:x.row[0 + 0]? = some (.int .i64 x.Tag):=rfl
  have r1:x.row[0 + 1]? = some (.int .i64 x.Class):=rfl
  simp only [Option.bind_some,fa_ptr,ld_in0 hb,r0]
  rw [int_call (c115 x.Tag)]
  simp only [Option.bind_some]
  have h1:1≤(pKind pTwo x).length:=by unfold pKind; split <;> simp [pOne]
  rw [add1 (by omega)]
  simp only [Option.bind_some,ld_in0 hb,r0,r1,bI_eql,asB_bool]
  have nx:∀ acc':List UInt8,acc'=acc++pKind pTwo x→∃ H',J E 117 8 [.str acc',.list (l.map SKind.row),.int .i64 l.length,.int .i64 i] (H++[some [x.row]])=some (.str (acc++(pKind pTwo x++(l.drop (i + 1)).flatMap (pKind pTwo))),H'):=by
   intro acc' e
   rw [j117_8,bI_add,wrap_i64 (n:=(i:Int) + 1) (by omega) (by omega)]
   simp only [Option.bind_some]
   obtain ⟨H',e2⟩:=ih acc' (H++[some [x.row]]) (by rw [e]; simp only [List.length_append]; omega)
   rw [show ((i:Int) + 1)=((i + 1:Nat):Int) by omega,e2,e]
   exact ⟨H',by simp⟩
  by_cases h3:x.Tag=3
  ·simp only [h3,decide_true,cond_true]
   rw [int_call (put2c x.Class)]
   simp only [Option.bind_some]
   have h2:(pKind pTwo x).length=3:=by simp [pKind,h3,pOne,pTwo]
   rw [add2 (by simp [pOne,pTwo]; omega)]
   simp only [Option.bind_some]
   exact nx _ (by simp [pKind,h3])
  ·simp only [h3,decide_false,cond_false]
   exact nx _ (by simp [pKind,h3])
theorem c117 (l:List SKind) (hl:l.length≤140737488351232) (hM:(pKinds pTwo l).length≤4611686018427387904):run E (exec E) false 117 [.list (l.map SKind.row)]=some (.str (pKinds pTwo l)):=by
 unfold pKinds at *
 rw [run_ent,e117]
 simp only [lnL_list,List.length_map,Option.bind_some]
 rw [int_call (c115 _)]
 simp only [Option.bind_some]
 obtain ⟨H',e⟩:=c117_3 l hl 0 (by omega) [u8 l.length] [] (by simp only [List.drop_zero,List.length_append,pOne_len,List.length_cons,List.length_nil] at hM ⊢; omega)
 rw [show D.int .i64 0=D.int .i64 ((0:Nat):Int) from rfl,e]
 simp [pOne]
section
theorem c67_39 (ml:D) (n i:Nat) (M:SMethod) (w:M.wf) (R:List UInt8) (nx:∀ (acc:List UInt8) (H:Heap),acc.length + R.length≤4611686018427387904→∃ H',J E 67 43 [.str acc,ml,.int .i64 n,.int .i64 i] H=some (.str (acc++R),H')):∀ j,j≤M.Frames.length→∀ (acc:List UInt8) (H:Heap),acc.length + ((M.Frames.drop j).flatMap (pFrame pTwo)).length + R.length≤4611686018427387904→∃ H',J E 67 39 [.str acc,ml,.int .i64 n,.int .i64 i,.list (M.Frames.map SFrame.row),.int .i64 M.Frames.length,.int .i64 j] H=some (.str (acc++(M.Frames.drop j).flatMap (pFrame pTwo)++R),H'):=by
 obtain ⟨-,-,-,-,-,-,-,w1,w2⟩:=w
 apply loop_up
 ·intro acc H hM
  rw [j67_39]
  simp only [List.drop_length,List.flatMap_nil,List.length_nil] at hM
  simp only [bI_lss,Int.lt_irrefl,decide_false,Option.bind_some,asB_bool,cond_false,List.drop_length,List.flatMap_nil,List.append_nil]
  exact nx acc H (by omega)
 ·intro j hj ih acc H hM
  have hlt:((j:Nat):Int) < (M.Frames.length:Int):=by omega
  have wx:=w2 _ (List.getElem_mem hj)
  have hia:=fun H:Heap=>ia_row (row:=SFrame.row) (esz:=3) (fun x=>rfl) (H:=H) hj
  rw [List.drop_eq_getElem_cons hj,List.flatMap_cons] at hM ⊢
  rw [j67_39]
  simp only [bI_lss,hlt,decide_true,Option.bind_some,asB_bool,cond_true,hia,ld_el]
  generalize M.Frames[j]=x at *
  simp only [List.length_append,pFrame,pTwo_len] at hM
  simp only [show part x.row (0,3,true)=some x.d from rfl,Option.bind_some]
  rw [alloc_eq _ _ _ rfl,put_loc (z:=3) H [.int .i64 0,.sl0,.sl0] x.row rfl rfl rfl]
  have hb:getBlk (H++[some [x.row]]) H.length=some [x.row]:=getBlk_self _ _ []
  have r0:x.row[0 + 0]? = some (.int .i64 x.At):=rfl
  have r1:x.row[0 + 1]? = some (.list (x.Locals.map SKind.row)):=rfl
  have r2:x.row[0 + 2]? = some (.list (x.Stack.map SKind.row)):=rfl
  simp only [Option.bind_some,fa_ptr,ld_in0 hb,r0]
  rw [int_call (put2c x.At)]
  simp only [Option.bind_some,ld_in0 hb,r1]
  rw [pure_call (ts:=[.list (x.Locals.map SKind.row)]) (by simp) (c117 _ wx.2.1.1 (by omega))]
  simp only [Option.bind_some]
  rw [add2 (by rw [pTwo_len]; omega)]
  simp only [Option.bind_some,ld_in0 hb,r2]
  rw [pure_call (ts:=[.list (x.Stack.map SKind.row)]) (by simp) (c117 _ wx.2.2.1 (by omega))]
  simp only [Option.bind_some]
  rw [add2 (by simp only [List.length_append,pTwo_len]; omega)]
  simp only [Option.bind_some]
  rw [add2 (by simp only [List.length_append,pTwo_len]; omega)]
  simp only [Option.bind_some,bI_add]
  rw [wrap_i64 (n:=(j:Int) + 1) (by omega) (by omega)]
  obtain ⟨H',e⟩:=ih (acc++(pTwo x.At++pKinds pTwo x.Locals++pKinds pTwo x.Stack)) (H++[some [x.row]]) (by simp only [List.length_append,pTwo_len]; omega)
  rw [show ((j:Int) + 1)=((j + 1:Nat):Int) by omega,e]
  exact ⟨H',by simp [pFrame]⟩
def mTailI (m:SMethod):List UInt8:=pOne m.Frames.length++m.Frames.flatMap (pFrame pTwo)
theorem c67_33 (ml:D) (n i b:Nat) (M:SMethod) (w:M.wf) (R:List UInt8) (nx:∀ (acc:List UInt8) (H:Heap),acc.length + R.length≤4611686018427387904→∃ H',J E 67 43 [.str acc,ml,.int .i64 n,.int .i64 i] H=some (.str (acc++R),H')):∀ j,j≤M.Traps.length→∀ (acc:List UInt8) (H:Heap),getBlk H b=some [M.row]→acc.length + ((M.Traps.drop j).flatMap (pTrap pTwo)).length + (mTailI M).length + R.length≤4611686018427387904→∃ H',J E 67 33 [.str acc,.ptr b 0 0,ml,.int .i64 n,.int .i64 i,.list (M.Traps.map STrap.row),.int .i64 M.Traps.length,.int .i64 j] H=some (.str (acc++(M.Traps.drop j).flatMap (pTrap pTwo)++mTailI M++R),H'):=by
 have m7:M.row[0 + 7]? = some (.list (M.Frames.map SFrame.row)):=rfl
 have w0:=w
 obtain ⟨-,-,-,-,-,-,⟨w1,w2⟩,w3,-⟩:=w
 apply loop_up
 ·intro acc H h hM
  rw [j67_33]
  simp only [List.drop_length,List.flatMap_nil,List.length_nil,mTailI,List.length_append,pOne_len] at hM
  simp only [bI_lss,Int.lt_irrefl,decide_false,Option.bind_some,asB_bool,cond_false,List.drop_length,List.flatMap_nil,List.append_nil,fa_ptr,ld_in0 h,m7,lnL_list,List.length_map]
  rw [int_call (c115 _)]
  simp only [Option.bind_some]
  rw [add1 (by omega)]
  simp only [Option.bind_some,ld_in0 h,m7,lnL_list,List.length_map]
  obtain ⟨H',e⟩:=c67_39 ml n i M w0 R nx 0 (by omega) (acc++pOne M.Frames.length) H (by simp only [List.drop_zero,List.length_append,pOne_len]; omega)
  simp only [List.drop_zero,Int.natCast_zero] at e
  rw [e]
  exact ⟨H',by simp [mTailI]⟩
 ·intro j hj ih acc H h hM
  have hlt:((j:Nat):Int) < (M.Traps.length:Int):=by omega
  have hia:=fun H:Heap=>ia_row (row:=STrap.row) (esz:=4) (fun x=>rfl) (H:=H) hj
  rw [List.drop_eq_getElem_cons hj,List.flatMap_cons] at hM ⊢
  rw [j67_33]
  simp only [bI_lss,hlt,decide_true,Option.bind_some,asB_bool,cond_true,hia,ld_el]
  generalize M.Traps[j]=x at *
  simp only [List.length_append,pTrap,pTwo_len] at hM
  simp only [show part x.row (0,4,true)=some x.d from rfl,Option.bind_some]
  rw [alloc_eq _ _ _ rfl,put_loc (z:=4) H [.int .i64 0,.int .i64 0,.int .i64 0,.int .i64 0] x.row rfl rfl rfl]
  have hb:getBlk (H++[some [x.row]]) H.length=some [x.row]:=getBlk_self _ _ []
  have r0:x.row[0 + 0]? = some (.int .i64 x.From):=rfl
  have r1:x.row[0 + 1]? = some (.int .i64 x.To):=rfl
  have r2:x.row[0 + 2]? = some (.int .i64 x.At):=rfl
  have r3:x.row[0 + 3]? = some (.int .i64 x.Class):=rfl
  simp only [Option.bind_some,fa_ptr,ld_in0 hb,r0]
  rw [int_call (put2c x.From)]
  simp only [Option.bind_some,ld_in0 hb,r1]
  rw [int_call (put2c x.To)]
  simp only [Option.bind_some]
  rw [add2 (by simp only [pTwo_len]; omega)]
  simp only [Option.bind_some,ld_in0 hb,r2]
  rw [int_call (put2c x.At)]
  simp only [Option.bind_some]
  rw [add2 (by simp only [List.length_append,pTwo_len]; omega)]
  simp only [Option.bind_some,ld_in0 hb,r3]
  rw [int_call (put2c x.Class)]
  simp only [Option.bind_some]
  rw [add2 (by simp only [List.length_append,pTwo_len]; omega)]
  simp only [Option.bind_some]
  rw [add2 (by simp only [List.length_append,pTwo_len]; omega)]
  simp only [Option.bind_some,bI_add]
  rw [wrap_i64 (n:=(j:Int) + 1) (by omega) (by omega)]
  obtain ⟨H',e⟩:=ih (acc++(pTwo x.From++pTwo x.To++pTwo x.At++pTwo x.Class)) (H++[some [x.row]]) (getBlk_app h) (by simp only [List.length_append,pTwo_len]; omega)
  rw [show ((j:Int) + 1)=((j + 1:Nat):Int) by omega,e]
  exact ⟨H',by simp [pTrap]⟩
theorem c67_27 (ms:List SMethod) (hl:ms.length≤140737488351232) (w:∀ m ∈ ms,m.wf):∀ i,i≤ms.length→∀ (acc:List UInt8) (H:Heap),acc.length + ((ms.drop i).flatMap (pMethod pTwo isAbs)).length≤4611686018427387904→∃ H',J E 67 27 [.str acc,.list (ms.map SMethod.row),.int .i64 ms.length,.int .i64 i] H=some (.str (acc++(ms.drop i).flatMap (pMethod pTwo isAbs)),H'):=by
 apply loop_up
 ·intro acc H hM
  rw [j67_27]
  simp only [bI_lss,Int.lt_irrefl,decide_false,Option.bind_some,asB_bool,cond_false,List.drop_length,ret_one,List.flatMap_nil,List.append_nil]
  exact ⟨H,rfl⟩
 ·intro i hi ih acc H hM
  have hlt:((i:Nat):Int) < (ms.length:Int):=by omega
  have wx:=w _ (List.getElem_mem hi)
  have hia:=fun H:Heap=>ia_row (row:=SMethod.row) (esz:=8) (fun x=>rfl) (H:=H) hi
  rw [List.drop_eq_getElem_cons hi,List.flatMap_cons] at hM ⊢
  rw [j67_27]
  simp only [bI_lss,hlt,decide_true,Option.bind_some,asB_bool,cond_true,hia,ld_el]
  generalize ms[i]=m at *
  simp only [List.length_append] at hM
  simp only [show part m.row (0,8,true)=some m.d from rfl,Option.bind_some]
  rw [alloc_eq _ _ _ rfl,put_loc (z:=8) H [.int .i64 0,.int .i64 0,.int .i64 0,.int .i64 0,.int .i64 0,.str [],.sl0,.sl0] m.row rfl rfl rfl]
  have hb:getBlk (H++[some [m.row]]) H.length=some [m.row]:=getBlk_self _ _ []
  have m0:m.row[0 + 0]? = some (.int .i64 m.Flags):=rfl
  have m1:m.row[0 + 1]? = some (.int .i64 m.Name):=rfl
  have m2:m.row[0 + 2]? = some (.int .i64 m.Desc):=rfl
  have m3:m.row[0 + 3]? = some (.int .i64 m.Deep):=rfl
  have m4:m.row[0 + 4]? = some (.int .i64 m.Locals):=rfl
  have m5:m.row[0 + 5]? = some (.str m.Code):=rfl
  have m6:m.row[0 + 6]? = some (.list (m.Traps.map STrap.row)):=rfl
  have nx:∀ (acc':List UInt8) (H:Heap),acc'.length + ((ms.drop (i + 1)).flatMap (pMethod pTwo isAbs)).length≤4611686018427387904→∃ H',J E 67 43 [.str acc',.list (ms.map SMethod.row),.int .i64 ms.length,.int .i64 i] H=some (.str (acc'++(ms.drop (i + 1)).flatMap (pMethod pTwo isAbs)),H'):=by
   intro acc' H hb'
   rw [j67_43,bI_add,wrap_i64 (n:=(i:Int) + 1) (by omega) (by omega)]
   simp only [Option.bind_some]
   rw [show ((i:Int) + 1)=((i + 1:Nat):Int) by omega]
   exact ih acc' H hb'
  have hlen:5≤(pMethod pTwo isAbs m).length:=by
   unfold pMethod
   split <;> simp [pOne,pTwo] <;> omega
  simp only [Option.bind_some,fa_ptr,ld_in0 hb,m0]
  rw [int_call (c115 m.Flags)]
  simp only [Option.bind_some,ld_in0 hb,m1]
  rw [int_call (put2c m.Name)]
  simp only [Option.bind_some]
  rw [add2 (by simp [pTwo])]
  simp only [Option.bind_some,ld_in0 hb,m2]
  rw [int_call (put2c m.Desc)]
  simp only [Option.bind_some]
  rw [add2 (by simp [pTwo])]
  simp only [Option.bind_some]
  rw [add2 (by simp only [List.length_append,List.length_cons,List.length_nil,pTwo_len]; omega)]
  simp only [Option.bind_some,ld_in0 hb,m0]
  rw [int_call (c44 m.Flags)]
  simp only [Option.bind_some,asB_bool]
  cases ha:isAbs m.Flags with
  | true=>
   simp only [cond_true]
   have hp:pMethod pTwo isAbs m=[u8 m.Flags]++pTwo m.Name++pTwo m.Desc:=by simp [pMethod,ha,pOne]
   obtain ⟨H',e⟩:=nx (acc++([u8 m.Flags]++pTwo m.Name++pTwo m.Desc)) (H++[some [m.row]]) (by rw [← hp]; simp only [List.length_append]; omega)
   rw [e]
   exact ⟨H',by simp [hp]⟩
  | false=>
   have hp:pMethod pTwo isAbs m=[u8 m.Flags]++pTwo m.Name++pTwo m.Desc++([u8 m.Deep]++pOne m.Locals++pTwo m.Code.length++m.Code++pOne m.Traps.length)++m.Traps.flatMap (pTrap pTwo)++mTailI m:=by
    simp [pMethod,ha,pOne,mTailI]
   have hq:=congrArg List.length hp
   simp only [List.length_append,pTwo_len,pOne_len,List.length_cons,List.length_nil] at hq
   have wc:=wx.2.2.2.2.2.1
   simp only [cond_false,ld_in0 hb,m3,Option.bind_some]
   rw [int_call (c115 m.Deep)]
   simp only [Option.bind_some,ld_in0 hb,m4]
   rw [int_call (c115 m.Locals)]
   simp only [Option.bind_some]
   rw [add1 (by simp)]
   simp only [Option.bind_some,ld_in0 hb,m5,lnS_str]
   rw [int_call (put2c _)]
   simp only [Option.bind_some]
   rw [add2 (by simp [pOne,pTwo])]
   simp only [Option.bind_some,ld_in0 hb,m5]
   rw [add2 (by simp only [List.length_append,List.length_cons,List.length_nil,pTwo_len,pOne_len]; omega)]
   simp only [Option.bind_some,ld_in0 hb,m6,lnL_list,List.length_map]
   rw [int_call (c115 _)]
   simp only [Option.bind_some]
   rw [add1 (by simp only [List.length_append,List.length_cons,List.length_nil,pTwo_len,pOne_len]; omega)]
   simp only [Option.bind_some]
   rw [add2 (by simp only [List.length_append,List.length_cons,List.length_nil,pTwo_len,pOne_len]; omega)]
   simp only [Option.bind_some,ld_in0 hb,m6,lnL_list,List.length_map]
   obtain ⟨H',e⟩:=c67_33 (.list (ms.map SMethod.row)) ms.length i H.length m wx _ nx 0 (by omega) (acc++([u8 m.Flags]++pTwo m.Name++pTwo m.Desc)++([u8 m.Deep]++pOne m.Locals++pTwo m.Code.length++m.Code++pOne m.Traps.length)) (H++[some [m.row]]) hb (by simp only [List.drop_zero,List.length_append,List.length_cons,List.length_nil,pTwo_len,pOne_len]; omega)
   simp only [List.drop_zero,Int.natCast_zero] at e
   rw [e]
   exact ⟨H',by simp [hp]⟩
end
end Go.Ev.YtmpfooibdekppaaGreatDoor
namespace Go.Ev.YtmpfooibdekppaaGreatDoor
set_option linter.unusedVariables false
set_option linter.unusedSimpArgs false
set_option linter.unusedSectionVars false
set_option linter.defProp false
set_option maxHeartbeats 1000000
open Go.Ev
def cI21 (c:SClass):List UInt8:=pOne c.Methods.length++c.Methods.flatMap (pMethod pTwo isAbs)
def cI15 (c:SClass):List UInt8:=pOne c.Fields.length++c.Fields.flatMap (pField pTwo)++cI21 c
def cI3 (c:SClass):List UInt8:=pOne c.Flags++pTwo c.Name++pTwo c.Super++pOne c.Faces.length++c.Faces.flatMap pTwo++cI15 c
theorem pClass_partsI (c:SClass):pClass pTwo isAbs c=stow++pOne c.Pool.length++c.Pool.flatMap (pConst pTwo)++cI3 c:=by
 simp [pClass,cI3,cI15,cI21]
theorem c67_21 (c:SClass) (w:c.wf):∀ i,i≤c.Fields.length→∀ (acc:List UInt8) (H:Heap),getBlk H 0=some [c.row]→acc.length + ((c.Fields.drop i).flatMap (pField pTwo)).length + (cI21 c).length≤4611686018427387904→∃ H',J E 67 21 [.ptr 0 0 0,.str acc,.list (c.Fields.map SField.row),.int .i64 c.Fields.length,.int .i64 i] H=some (.str (acc++(c.Fields.drop i).flatMap (pField pTwo)++cI21 c),H'):=by
 have m6:c.row[0 + 6]? = some (.list (c.Methods.map SMethod.row)):=rfl
 obtain ⟨w1,w2⟩:=w.2.2.2.2.2.1
 obtain ⟨w6,w7⟩:=w.2.2.2.2.2.2
 apply loop_up
 ·intro acc H h hM
  rw [j67_21]
  simp only [fa_ptr,ld_in0 h,m6,lnL_list,List.length_map,bI_lss,Int.lt_irrefl,decide_false,Option.bind_some,asB_bool,cond_false,List.drop_length,List.flatMap_nil,List.append_nil]
  simp only [List.drop_length,List.flatMap_nil,List.length_nil,cI21,List.length_append,pOne_len] at hM
  rw [int_call (c115 _)]
  simp only [Option.bind_some]
  rw [add1 (by omega)]
  simp only [Option.bind_some,ld_in0 h,m6,lnL_list,List.length_map]
  obtain ⟨H',e⟩:=c67_27 c.Methods w6 w7 0 (by omega) (acc++pOne c.Methods.length) H (by simp only [List.drop_zero,List.length_append,pOne_len]; omega)
  simp only [List.drop_zero,Int.natCast_zero] at e
  rw [e]
  exact ⟨H',by simp [cI21]⟩
 ·intro i hi ih acc H h hM
  have hlt:((i:Nat):Int) < (c.Fields.length:Int):=by omega
  have hia:=fun H:Heap=>ia_row (row:=SField.row) (esz:=3) (fun x=>rfl) (H:=H) hi
  rw [List.drop_eq_getElem_cons hi,List.flatMap_cons] at hM ⊢
  rw [j67_21]
  simp only [bI_lss,hlt,decide_true,Option.bind_some,asB_bool,cond_true,hia,ld_el]
  generalize c.Fields[i]=x at *
  simp only [List.length_append,pField,pOne_len,pTwo_len] at hM
  simp only [show part x.row (0,3,true)=some x.d from rfl,Option.bind_some]
  rw [alloc_eq _ _ _ rfl,put_loc (z:=3) H [.int .i64 0,.int .i64 0,.int .i64 0] x.row rfl rfl rfl]
  have hb:getBlk (H++[some [x.row]]) H.length=some [x.row]:=getBlk_self _ _ []
  have r0:x.row[0 + 0]? = some (.int .i64 x.Flags):=rfl
  have r1:x.row[0 + 1]? = some (.int .i64 x.Name):=rfl
  have r2:x.row[0 + 2]? = some (.int .i64 x.Typ):=rfl
  simp only [Option.bind_some,fa_ptr,ld_in0 hb,r0]
  rw [int_call (c115 _)]
  simp only [Option.bind_some,ld_in0 hb,r1]
  rw [int_call (put2c _)]
  simp only [Option.bind_some]
  rw [add2 (by simp [pTwo])]
  simp only [Option.bind_some,ld_in0 hb,r2]
  rw [int_call (put2c _)]
  simp only [Option.bind_some]
  rw [add2 (by simp [pTwo])]
  simp only [Option.bind_some]
  rw [add2 (by simp only [List.length_append,List.length_cons,List.length_nil,pTwo_len]; omega)]
  simp only [Option.bind_some,bI_add]
  rw [wrap_i64 (n:=(i:Int) + 1) (by omega) (by omega)]
  obtain ⟨H',e⟩:=ih (acc++([u8 x.Flags]++pTwo x.Name++pTwo x.Typ)) (H++[some [x.row]]) (getBlk_app h) (by simp only [List.length_append,List.length_cons,List.length_nil,pTwo_len]; omega)
  rw [show ((i:Int) + 1)=((i + 1:Nat):Int) by omega,e]
  exact ⟨H',by simp [pField,pOne]⟩
theorem c67_15 (c:SClass) (w:c.wf):∀ i,i≤c.Faces.length→∀ (acc:List UInt8) (H:Heap),getBlk H 0=some [c.row]→acc.length + ((c.Faces.drop i).flatMap pTwo).length + (cI15 c).length≤4611686018427387904→∃ H',J E 67 15 [.ptr 0 0 0,.str acc,.list (c.Faces.map rInt),.int .i64 c.Faces.length,.int .i64 i] H=some (.str (acc++(c.Faces.drop i).flatMap pTwo++cI15 c),H'):=by
 have m5:c.row[0 + 5]? = some (.list (c.Fields.map SField.row)):=rfl
 obtain ⟨w1,w2⟩:=w.2.2.2.2.1
 have w6:=w.2.2.2.2.2.1.1
 apply loop_up
 ·intro acc H h hM
  rw [j67_15]
  simp only [fa_ptr,ld_in0 h,m5,lnL_list,List.length_map,bI_lss,Int.lt_irrefl,decide_false,Option.bind_some,asB_bool,cond_false,List.drop_length,List.flatMap_nil,List.append_nil]
  simp only [List.drop_length,List.flatMap_nil,List.length_nil,cI15,List.length_append,pOne_len] at hM
  rw [int_call (c115 _)]
  simp only [Option.bind_some]
  rw [add1 (by omega)]
  simp only [Option.bind_some,ld_in0 h,m5,lnL_list,List.length_map]
  obtain ⟨H',e⟩:=c67_21 c w 0 (by omega) (acc++pOne c.Fields.length) H h (by simp only [List.drop_zero,List.length_append,pOne_len]; omega)
  simp only [List.drop_zero,Int.natCast_zero] at e
  rw [e]
  exact ⟨H',by simp [cI15]⟩
 ·intro i hi ih acc H h hM
  have hlt:((i:Nat):Int) < (c.Faces.length:Int):=by omega
  have hia:=fun H:Heap=>ia_row (row:=rInt) (esz:=1) (fun x=>rfl) (H:=H) hi
  rw [List.drop_eq_getElem_cons hi,List.flatMap_cons] at hM ⊢
  rw [j67_15]
  simp only [bI_lss,hlt,decide_true,Option.bind_some,asB_bool,cond_true,hia,ld_el]
  generalize c.Faces[i]=x at *
  simp only [List.length_append,pTwo_len] at hM
  simp only [show part (rInt x) (0,1,false)=some (.int .i64 x) from rfl,Option.bind_some]
  rw [int_call (put2c _)]
  simp only [Option.bind_some]
  rw [add2 (by simp only [pTwo_len]; omega)]
  simp only [Option.bind_some,bI_add]
  rw [wrap_i64 (n:=(i:Int) + 1) (by omega) (by omega)]
  obtain ⟨H',e⟩:=ih (acc++pTwo x) H h (by simp only [List.length_append,pTwo_len]; omega)
  rw [show ((i:Int) + 1)=((i + 1:Nat):Int) by omega,e]
  exact ⟨H',by simp⟩
theorem c67_3 (c:SClass) (w:c.wf):∀ i,i≤c.Pool.length→∀ (acc:List UInt8) (H:Heap),getBlk H 0=some [c.row]→acc.length + ((c.Pool.drop i).flatMap (pConst pTwo)).length + (cI3 c).length≤4611686018427387904→∃ H',J E 67 3 [.ptr 0 0 0,.str acc,.list (c.Pool.map SConst.row),.int .i64 c.Pool.length,.int .i64 i] H=some (.str (acc++(c.Pool.drop i).flatMap (pConst pTwo)++cI3 c),H'):=by
 have m1:c.row[0 + 1]? = some (.int .i64 c.Flags):=rfl
 have m2:c.row[0 + 2]? = some (.int .i64 c.Name):=rfl
 have m3:c.row[0 + 3]? = some (.int .i64 c.Super):=rfl
 have m4:c.row[0 + 4]? = some (.list (c.Faces.map rInt)):=rfl
 obtain ⟨w1,w2⟩:=w.1
 have w6:=w.2.2.2.2.1.1
 apply loop_up
 ·intro acc H h hM
  rw [j67_3]
  simp only [fa_ptr,ld_in0 h,m1,bI_lss,Int.lt_irrefl,decide_false,Option.bind_some,asB_bool,cond_false,List.drop_length,List.flatMap_nil,List.append_nil]
  simp only [List.drop_length,List.flatMap_nil,List.length_nil,cI3,List.length_append,pOne_len,pTwo_len] at hM
  rw [int_call (c115 _)]
  simp only [Option.bind_some,ld_in0 h,m2]
  rw [int_call (put2c _)]
  simp only [Option.bind_some]
  rw [add2 (by simp [pTwo])]
  simp only [Option.bind_some,ld_in0 h,m3]
  rw [int_call (put2c _)]
  simp only [Option.bind_some]
  rw [add2 (by simp [pTwo])]
  simp only [Option.bind_some,ld_in0 h,m4,lnL_list,List.length_map]
  rw [int_call (c115 _)]
  simp only [Option.bind_some]
  rw [add1 (by simp [pTwo])]
  simp only [Option.bind_some]
  rw [add2 (by simp only [List.length_append,List.length_cons,List.length_nil,pOne_len,pTwo_len]; omega)]
  simp only [Option.bind_some,ld_in0 h,m4,lnL_list,List.length_map]
  obtain ⟨H',e⟩:=c67_15 c w 0 (by omega) (acc++([u8 c.Flags]++pTwo c.Name++pTwo c.Super++pOne c.Faces.length)) H h (by simp only [List.drop_zero,List.length_append,List.length_cons,List.length_nil,pOne_len,pTwo_len]; omega)
  simp only [List.drop_zero,Int.natCast_zero] at e
  rw [e]
  exact ⟨H',by simp [cI3,pOne]⟩
 ·intro i hi ih acc H h hM
  have hlt:((i:Nat):Int) < (c.Pool.length:Int):=by omega
  have wx:=w2 _ (List.getElem_mem hi)
  have hia:=fun H:Heap=>ia_row (row:=SConst.row) (esz:=4) (fun x=>rfl) (H:=H) hi
  rw [List.drop_eq_getElem_cons hi,List.flatMap_cons] at hM ⊢
  rw [j67_3]
  simp only [bI_lss,hlt,decide_true,Option.bind_some,asB_bool,cond_true,hia,ld_el]
  generalize c.Pool[i]=x at *
  simp only [List.length_append] at hM
  simp only [show part x.row (0,4,true)=some x.d from rfl,Option.bind_some]
  rw [alloc_eq _ _ _ rfl,put_loc (z:=4) H [.int .i64 0,.str [],.int .i64 0,.int .i64 0] x.row rfl rfl rfl]
  have hb:getBlk (H++[some [x.row]]) H.length=some [x.row]:=getBlk_self _ _ []
  have r0:x.row[0 + 0]? = some (.int .i64 x.Kind):=rfl
  have r1:x.row[0 + 1]? = some (.str x.Text):=rfl
  have r2:x.row[0 + 2]? = some (.int .i64 x.A):=rfl
  have r3:x.row[0 + 3]? = some (.int .i64 x.B):=rfl
  have nx:∀ acc':List UInt8,acc'=acc++pConst pTwo x→∃ H',J E 67 12 [.ptr 0 0 0,.str acc',.list (c.Pool.map SConst.row),.int .i64 c.Pool.length,.int .i64 i] (H++[some [x.row]])=some (.str (acc++(pConst pTwo x++(c.Pool.drop (i + 1)).flatMap (pConst pTwo))++cI3 c),H'):=by
   intro acc' e
   rw [j67_12,bI_add,wrap_i64 (n:=(i:Int) + 1) (by omega) (by omega)]
   simp only [Option.bind_some]
   obtain ⟨H',e2⟩:=ih acc' (H++[some [x.row]]) (getBlk_app h) (by rw [e]; simp only [List.length_append]; omega)
   rw [show ((i:Int) + 1)=((i + 1:Nat):Int) by omega,e2,e]
   exact ⟨H',by simp⟩
  simp only [Option.bind_some,fa_ptr,ld_in0 hb,r0]
  rw [int_call (c115 _)]
  simp only [Option.bind_some]
  have h1:1≤(pConst pTwo x).length:=by unfold pConst; split <;> (try split) <;> simp [pOne] <;> omega
  rw [add1 (by omega)]
  simp only [Option.bind_some,ld_in0 hb,r0,bI_eql,asB_bool]
  by_cases k1:x.Kind=1
  ·have hp:pConst pTwo x=pOne x.Kind++(pOne x.Text.length++x.Text):=by simp [pConst,k1]
   have hq:=congrArg List.length hp
   simp only [List.length_append,pOne_len] at hq
   simp only [k1,decide_true,cond_true,ld_in0 hb,r1,Option.bind_some,lnS_str]
   rw [int_call (c115 _)]
   simp only [Option.bind_some,ld_in0 hb,r1]
   rw [add2 (by simp only [List.length_cons,List.length_nil]; omega)]
   simp only [Option.bind_some]
   rw [add2 (by simp only [List.length_append,List.length_cons,List.length_nil,pOne_len]; omega)]
   simp only [Option.bind_some]
   exact nx _ (by rw [hp,k1]; simp [pOne])
  ·simp only [k1,decide_false,cond_false,bI_eql,Option.bind_some,asB_bool]
   by_cases k2:x.Kind=2
   ·have hp:pConst pTwo x=pOne x.Kind++pTwo x.A:=by simp [pConst,k2]
    have hq:=congrArg List.length hp
    simp only [List.length_append,pOne_len,pTwo_len] at hq
    simp only [k2,decide_true,cond_true,ld_in0 hb,r2,Option.bind_some]
    rw [int_call (put2c _)]
    simp only [Option.bind_some]
    rw [add2 (by simp only [List.length_append,List.length_cons,List.length_nil,pOne_len,pTwo_len]; omega)]
    simp only [Option.bind_some]
    exact nx _ (by rw [hp,k2]; simp [pOne])
   ·have hp:pConst pTwo x=pOne x.Kind++(pTwo x.A++pTwo x.B):=by simp [pConst,k1,k2]
    have hq:=congrArg List.length hp
    simp only [List.length_append,pOne_len,pTwo_len] at hq
    simp only [k2,decide_false,cond_false,ld_in0 hb,r2,Option.bind_some]
    rw [int_call (put2c _)]
    simp only [Option.bind_some,ld_in0 hb,r3]
    rw [int_call (put2c _)]
    simp only [Option.bind_some]
    rw [add2 (by simp [pTwo])]
    simp only [Option.bind_some]
    rw [add2 (by simp only [List.length_append,List.length_cons,List.length_nil,pOne_len,pTwo_len]; omega)]
    simp only [Option.bind_some]
    exact nx _ (by rw [hp]; simp [pOne])
theorem c67 (c:SClass) (w:c.wf) (hM:(pClass pTwo isAbs c).length≤4611686018427387904):run E (exec E) false 67 [c.d]=some (.str (pClass pTwo isAbs c)):=by
 have h:getBlk ([some [c.row]]:Heap) 0=some [c.row]:=rfl
 have m0:c.row[0 + 0]? = some (.list (c.Pool.map SConst.row)):=rfl
 have w1:=w.1.1
 rw [run_ent,e67,alloc_eq _ _ _ rfl]
 rw [show ([]:Heap)++[some [D.cells c.d]]=[some [c.row]] from rfl,show ([]:Heap).length=0 from rfl]
 simp only [fa_ptr,Option.bind_some,ld_in0 h,m0,lnL_list,List.length_map]
 rw [int_call (c115 _)]
 simp only [Option.bind_some]
 rw [add1 (by simp)]
 rw [pClass_partsI] at hM ⊢
 simp only [List.length_append,pOne_len,stow,List.length_cons,List.length_nil] at hM
 obtain ⟨H',e⟩:=c67_3 c w 0 (by omega) ([83,84,79,87]++pOne c.Pool.length) [some [c.row]] h (by simp only [List.drop_zero,List.length_append,pOne_len,List.length_cons,List.length_nil]; omega)
 simp only [List.drop_zero,Int.natCast_zero] at e
 simp only [Option.bind_some,ld_in0 h,m0,lnL_list,List.length_map]
 rw [e]
 simp [stow]
end Go.Ev.YtmpfooibdekppaaGreatDoor
namespace Go.Ev.YtmpfooibdekppaaGreatDoor
set_option linter.unusedVariables false
set_option linter.unusedSimpArgs false
set_option linter.unusedSectionVars false
set_option linter.defProp false
set_option maxHeartbeats 1000000
open Go.Ev
def smF (f:SFrame):Bool:=decide (f.Locals.length≤8) && decide (f.Stack.length≤8)
def smM (m:SMethod):Bool:=decide (m.Code.length≤120) && (decide (m.Traps.length≤3) && (decide (m.Frames.length≤8) && m.Frames.all smF))
def smC (c:SClass):Bool:=decide (c.Pool.length≤60) && (decide (c.Faces.length≤3) && (decide (c.Fields.length≤5) && (decide (c.Methods.length≤6) && (c.Pool.all (fun x=>decide (x.Text.length≤255)) && c.Methods.all smM))))
theorem smC_of {c:SClass} (h:smallC c):smC c=true:=by
 obtain ⟨h1,h2,h3,h4,h5,h6⟩:=h
 simp only [smC,h1,h2,h3,h4,decide_true,Bool.true_and,Bool.and_eq_true,List.all_eq_true,decide_eq_true_eq]
 refine ⟨h5,fun m hm=>?_⟩
 obtain ⟨m1,m2,m3,m4⟩:=h6 m hm
 simp only [smM,m1,m2,m3,decide_true,Bool.true_and,List.all_eq_true]
 intro f hf
 simp [smF,m4 f hf]
theorem gtr_not {n:Nat} {m:Nat}:decide ((m:Int) < (n:Int)) = !decide (n≤m):=by
 rw [Bool.eq_iff_iff]; simp <;> omega
theorem c66_15 (ml:D) (n i:Nat) (M:SMethod) (w:M.Frames.length≤140737488351232) (R:Bool) (nx:∀ H:Heap,∃ H',J E 66 10 [ml,.int .i64 n,.int .i64 (i + 1:Nat)] H=some (.bool R,H')) (hi:i + 1 < 140737488351236):∀ j,j≤M.Frames.length→∀ H:Heap,∃ H',J E 66 15 [ml,.int .i64 n,.int .i64 i,.list (M.Frames.map SFrame.row),.int .i64 M.Frames.length,.int .i64 j] H=some (.bool ((M.Frames.drop j).all smF && R),H'):=by
 apply loop_up
 ·intro H
  rw [j66_15]
  simp only [bI_lss,Int.lt_irrefl,decide_false,Option.bind_some,asB_bool,cond_false,List.drop_length,List.all_nil,Bool.true_and,bI_add]
  rw [wrap_i64 (n:=(i:Int) + 1) (by omega) (by omega)]
  exact nx H
 ·intro j hj ih H
  have hlt:((j:Nat):Int) < (M.Frames.length:Int):=by omega
  have hia:=fun H:Heap=>ia_row (row:=SFrame.row) (esz:=3) (fun x=>rfl) (H:=H) hj
  rw [List.drop_eq_getElem_cons hj,List.all_cons]
  rw [j66_15]
  simp only [bI_lss,hlt,decide_true,Option.bind_some,asB_bool,cond_true,hia,ld_el]
  generalize M.Frames[j]=x at *
  simp only [show part x.row (0,3,true)=some x.d from rfl,Option.bind_some]
  rw [alloc_eq _ _ _ rfl,put_loc (z:=3) H [.int .i64 0,.sl0,.sl0] x.row rfl rfl rfl]
  have hb:getBlk (H++[some [x.row]]) H.length=some [x.row]:=getBlk_self _ _ []
  have r1:x.row[0 + 1]? = some (.list (x.Locals.map SKind.row)):=rfl
  have r2:x.row[0 + 2]? = some (.list (x.Stack.map SKind.row)):=rfl
  simp only [Option.bind_some,fa_ptr,ld_in0 hb,r1,r2,lnL_list,List.length_map,bI_gtr,asB_bool,bI_add]
  rw [show (8:Int)=((8:Nat):Int) from rfl,gtr_not,gtr_not]
  by_cases h1:x.Locals.length≤8
  ·by_cases h2:x.Stack.length≤8
   ·simp only [smF,h1,h2,decide_true,Bool.not_true,cond_false,Bool.true_and]
    rw [wrap_i64 (n:=(j:Int) + 1) (by omega) (by omega),show ((j:Int) + 1)=((j + 1:Nat):Int) by omega]
    exact ih _
   ·simp only [smF,h1,h2,decide_true,decide_false,Bool.not_true,Bool.not_false,cond_false,cond_true,Bool.true_and,Bool.false_and,Bool.and_false]
    exact ⟨_,rfl⟩
  ·simp only [smF,h1,decide_false,Bool.not_false,cond_true,Bool.false_and]
   exact ⟨_,rfl⟩
theorem c66_10 (ms:List SMethod) (hl:ms.length≤140737488351232) (w:∀ m ∈ ms,m.wf):∀ i,i≤ms.length→∀ H:Heap,∃ H',J E 66 10 [.list (ms.map SMethod.row),.int .i64 ms.length,.int .i64 i] H=some (.bool ((ms.drop i).all smM),H'):=by
 apply loop_up
 ·intro H
  rw [j66_10]
  simp only [bI_lss,Int.lt_irrefl,decide_false,Option.bind_some,asB_bool,cond_false,List.drop_length,List.all_nil]
  exact ⟨H,rfl⟩
 ·intro i hi ih H
  have hlt:((i:Nat):Int) < (ms.length:Int):=by omega
  have wx:=w _ (List.getElem_mem hi)
  have hia:=fun H:Heap=>ia_row (row:=SMethod.row) (esz:=8) (fun x=>rfl) (H:=H) hi
  rw [List.drop_eq_getElem_cons hi,List.all_cons]
  rw [j66_10]
  simp only [bI_lss,hlt,decide_true,Option.bind_some,asB_bool,cond_true,hia,ld_el]
  generalize ms[i]=m at *
  simp only [show part m.row (0,8,true)=some m.d from rfl,Option.bind_some]
  rw [alloc_eq _ _ _ rfl,put_loc (z:=8) H [.int .i64 0,.int .i64 0,.int .i64 0,.int .i64 0,.int .i64 0,.str [],.sl0,.sl0] m.row rfl rfl rfl]
  have hb:getBlk (H++[some [m.row]]) H.length=some [m.row]:=getBlk_self _ _ []
  have m5:m.row[0 + 5]? = some (.str m.Code):=rfl
  have m6:m.row[0 + 6]? = some (.list (m.Traps.map STrap.row)):=rfl
  have m7:m.row[0 + 7]? = some (.list (m.Frames.map SFrame.row)):=rfl
  simp only [Option.bind_some,fa_ptr,ld_in0 hb,m5,m6,m7,lnS_str,lnL_list,List.length_map,bI_gtr,asB_bool]
  rw [show (120:Int)=((120:Nat):Int) from rfl,gtr_not,show (3:Int)=((3:Nat):Int) from rfl,gtr_not,show (8:Int)=((8:Nat):Int) from rfl,gtr_not]
  obtain ⟨H',e⟩:=c66_15 (.list (ms.map SMethod.row)) ms.length i m wx.2.2.2.2.2.2.2.1 ((ms.drop (i + 1)).all smM) (fun H=>ih H) (by omega) 0 (by omega) (H++[some [m.row]])
  simp only [List.drop_zero,Int.natCast_zero] at e
  unfold smM at e ⊢
  by_cases h1:m.Code.length≤120
  ·by_cases h2:m.Traps.length≤3
   ·by_cases h3:m.Frames.length≤8
    ·simp only [h1,h2,h3,decide_true,Bool.not_true,cond_false,Bool.true_and,e]
     exact ⟨_,rfl⟩
    ·simp only [h1,h2,h3,decide_true,decide_false,Bool.not_true,Bool.not_false,cond_false,cond_true,Bool.true_and,Bool.false_and,Bool.and_false]
     exact ⟨_,rfl⟩
   ·simp only [h1,h2,decide_true,decide_false,Bool.not_true,Bool.not_false,cond_false,cond_true,Bool.true_and,Bool.false_and,Bool.and_false]
    exact ⟨_,rfl⟩
  ·simp only [h1,decide_false,Bool.not_false,cond_true,Bool.false_and]
   exact ⟨_,rfl⟩
theorem c66_4 (c:SClass) (w:c.wf):∀ i,i≤c.Pool.length→∀ H:Heap,getBlk H 0=some [c.row]→∃ H',J E 66 4 [.ptr 0 0 0,.list (c.Pool.map SConst.row),.int .i64 c.Pool.length,.int .i64 i] H=some (.bool ((c.Pool.drop i).all (fun x=>decide (x.Text.length≤255)) && c.Methods.all smM),H'):=by
 have m6:c.row[0 + 6]? = some (.list (c.Methods.map SMethod.row)):=rfl
 obtain ⟨w6,w7⟩:=w.2.2.2.2.2.2
 have w1:=w.1.1
 apply loop_up
 ·intro H h
  rw [j66_4]
  simp only [fa_ptr,ld_in0 h,m6,lnL_list,List.length_map,bI_lss,Int.lt_irrefl,decide_false,Option.bind_some,asB_bool,cond_false,List.drop_length,List.all_nil,Bool.true_and]
  exact c66_10 c.Methods w6 w7 0 (by omega) H
 ·intro i hi ih H h
  have hlt:((i:Nat):Int) < (c.Pool.length:Int):=by omega
  have hia:=fun H:Heap=>ia_row (row:=SConst.row) (esz:=4) (fun x=>rfl) (H:=H) hi
  rw [List.drop_eq_getElem_cons hi,List.all_cons]
  rw [j66_4]
  simp only [bI_lss,hlt,decide_true,Option.bind_some,asB_bool,cond_true,hia,ld_el]
  generalize c.Pool[i]=x at *
  simp only [show part x.row (0,4,true)=some x.d from rfl,Option.bind_some]
  rw [alloc_eq _ _ _ rfl,put_loc (z:=4) H [.int .i64 0,.str [],.int .i64 0,.int .i64 0] x.row rfl rfl rfl]
  have hb:getBlk (H++[some [x.row]]) H.length=some [x.row]:=getBlk_self _ _ []
  have r1:x.row[0 + 1]? = some (.str x.Text):=rfl
  simp only [Option.bind_some,fa_ptr,ld_in0 hb,r1,lnS_str,bI_gtr,asB_bool,bI_add]
  rw [show (255:Int)=((255:Nat):Int) from rfl,gtr_not]
  by_cases h1:x.Text.length≤255
  ·simp only [h1,decide_true,Bool.not_true,cond_false,Bool.true_and]
   rw [wrap_i64 (n:=(i:Int) + 1) (by omega) (by omega),show ((i:Int) + 1)=((i + 1:Nat):Int) by omega]
   exact ih _ (getBlk_app h)
  ·simp only [h1,decide_false,Bool.not_false,cond_true,Bool.false_and]
   exact ⟨_,rfl⟩
theorem c66 (c:SClass) (w:c.wf):run E (exec E) false 66 [c.d]=some (.bool (smC c)):=by
 have h:getBlk ([some [c.row]]:Heap) 0=some [c.row]:=rfl
 have m0:c.row[0 + 0]? = some (.list (c.Pool.map SConst.row)):=rfl
 have m4:c.row[0 + 4]? = some (.list (c.Faces.map rInt)):=rfl
 have m5:c.row[0 + 5]? = some (.list (c.Fields.map SField.row)):=rfl
 have m6:c.row[0 + 6]? = some (.list (c.Methods.map SMethod.row)):=rfl
 rw [run_ent,e66,alloc_eq _ _ _ rfl]
 rw [show ([]:Heap)++[some [D.cells c.d]]=[some [c.row]] from rfl,show ([]:Heap).length=0 from rfl]
 simp only [fa_ptr,Option.bind_some,ld_in0 h,m0,m4,m5,m6,lnL_list,List.length_map,bI_gtr,asB_bool]
 rw [show (60:Int)=((60:Nat):Int) from rfl,gtr_not,show (3:Int)=((3:Nat):Int) from rfl,gtr_not,show (5:Int)=((5:Nat):Int) from rfl,gtr_not,show (6:Int)=((6:Nat):Int) from rfl,gtr_not]
 obtain ⟨H',e⟩:=c66_4 c w 0 (by omega) _ h
 simp only [List.drop_zero,Int.natCast_zero] at e
 unfold smC
 by_cases h1:c.Pool.length≤60
 ·by_cases h2:c.Faces.length≤3
  ·by_cases h3:c.Fields.length≤5
   ·by_cases h4:c.Methods.length≤6
    ·simp only [readA_int,readA_bool,readA_str,readA_list,readA_sl0,readA_sl,readA_agg,readA_tup,h1,h2,h3,h4,decide_true,Bool.not_true,cond_false,Bool.true_and,e,Option.bind_some,readT_bool]
    ·simp [h1,h2,h3,h4]
   ·simp [h1,h2,h3]
  ·simp [h1,h2]
 ·simp [h1]
theorem feq (a b:SFrame):decide (a=b)=(decide (a.At=b.At) && (decide (a.Locals=b.Locals) && decide (a.Stack=b.Stack))):=by
 rw [Bool.eq_iff_iff]; cases a; cases b; simp
theorem c167 (a b:SFrame) (w:a.wf):run E (exec E) false 167 [a.d,b.d]=some (.bool (decide (a=b))):=by
 have h0:getBlk ([some [a.row],some [b.row]]:Heap) 0=some [a.row]:=rfl
 have h1:getBlk ([some [a.row],some [b.row]]:Heap) 1=some [b.row]:=rfl
 have r0:∀ x:SFrame,x.row[0 + 0]? = some (.int .i64 x.At):=fun x=>rfl
 have r1:∀ x:SFrame,x.row[0 + 1]? = some (.list (x.Locals.map SKind.row)):=fun x=>rfl
 have r2:∀ x:SFrame,x.row[0 + 2]? = some (.list (x.Stack.map SKind.row)):=fun x=>rfl
 rw [run_ent,e167,alloc_eq _ _ _ rfl,alloc_eq _ _ _ rfl]
 rw [show ([]++[some [D.cells a.d]]++[some [D.cells b.d]]:Heap)=[some [a.row],some [b.row]] from rfl,show ([]:Heap).length=0 from rfl,show ([]++[some [D.cells a.d]]:Heap).length=1 from rfl,feq]
 simp only [fa_ptr,ld_in0 h0,ld_in0 h1,r0,r1,r2,Option.bind_some,bI_eql,asB_bool]
 rw [pure_call (ts:=[.list (a.Locals.map SKind.row),.list (b.Locals.map SKind.row)]) (by simp) (c168 _ _ w.2.1.1)]
 by_cases e0:a.At=b.At
 ·by_cases e1:a.Locals=b.Locals
  ·simp only [e0,e1,decide_true,cond_true,Option.bind_some,asB_bool,Bool.true_and,ld_in0 h0,ld_in0 h1,r2]
   rw [pure_call (ts:=[.list (a.Stack.map SKind.row),.list (b.Stack.map SKind.row)]) (by simp) (c168 _ _ w.2.2.1)]
   simp
  ·simp [e0,e1]
 ·simp [e0]
theorem c128 (a b:SMethod) (w:a.wf):run E (exec E) false 128 [a.d,b.d]=some (.bool (decide (a=b))):=by
 have h0:getBlk ([some [a.row],some [b.row]]:Heap) 0=some [a.row]:=rfl
 have h1:getBlk ([some [a.row],some [b.row]]:Heap) 1=some [b.row]:=rfl
 have r0:∀ x:SMethod,x.row[0 + 0]? = some (.int .i64 x.Flags):=fun x=>rfl
 have r1:∀ x:SMethod,x.row[0 + 1]? = some (.int .i64 x.Name):=fun x=>rfl
 have r2:∀ x:SMethod,x.row[0 + 2]? = some (.int .i64 x.Desc):=fun x=>rfl
 have r3:∀ x:SMethod,x.row[0 + 3]? = some (.int .i64 x.Deep):=fun x=>rfl
 have r4:∀ x:SMethod,x.row[0 + 4]? = some (.int .i64 x.Locals):=fun x=>rfl
 have r5:∀ x:SMethod,x.row[0 + 5]? = some (.str x.Code):=fun x=>rfl
 have r6:∀ x:SMethod,x.row[0 + 6]? = some (.list (x.Traps.map STrap.row)):=fun x=>rfl
 have r7:∀ x:SMethod,x.row[0 + 7]? = some (.list (x.Frames.map SFrame.row)):=fun x=>rfl
 obtain ⟨-,-,-,-,-,-,w1,w2,w3⟩:=w
 rw [run_ent,e128,alloc_eq _ _ _ rfl,alloc_eq _ _ _ rfl]
 rw [show ([]++[some [D.cells a.d]]++[some [D.cells b.d]]:Heap)=[some [a.row],some [b.row]] from rfl,show ([]:Heap).length=0 from rfl,show ([]++[some [D.cells a.d]]:Heap).length=1 from rfl,meq,j128_1]
 simp only [fa_ptr,ld_in0 h0,ld_in0 h1,r0,r1,r2,r3,r4,r5,r6,Option.bind_some,bI_eql,bS_eql,asB_bool]
 rw [pure_call (ts:=[.list (a.Traps.map STrap.row),.list (b.Traps.map STrap.row)]) (by simp) (c165 _ _ w1.1)]
 by_cases e0:¬ a.Flags=b.Flags
 ·simp [e0]
 have e0:=Decidable.not_not.mp e0
 by_cases e1:¬ a.Name=b.Name
 ·simp [e0,e1]
 have e1:=Decidable.not_not.mp e1
 by_cases e2:¬ a.Desc=b.Desc
 ·simp [e0,e1,e2]
 have e2:=Decidable.not_not.mp e2
 by_cases e3:¬ a.Deep=b.Deep
 ·simp [e0,e1,e2,e3]
 have e3:=Decidable.not_not.mp e3
 by_cases e4:¬ a.Locals=b.Locals
 ·simp [e0,e1,e2,e3,e4]
 have e4:=Decidable.not_not.mp e4
 by_cases e5:¬ a.Code=b.Code
 ·simp [e0,e1,e2,e3,e4,e5]
 have e5:=Decidable.not_not.mp e5
 by_cases e6:¬ a.Traps=b.Traps
 ·simp [e0,e1,e2,e3,e4,e5,e6]
 have e6:=Decidable.not_not.mp e6
 simp only [e0,e1,e2,e3,e4,e5,e6,decide_true,cond_true,Option.bind_some,asB_bool,Bool.true_and,ld_in0 h0,ld_in0 h1,r7,call_raw]
 obtain ⟨K',e⟩:=c166 a.Frames b.Frames w2 167 [] [some [a.row],some [b.row]] (fun x hx y hy K=>⟨K,pure_call (ts:=[x.d,y.d]) (by simp [SFrame.readD]) (c167 x y (w3 x hx))⟩)
 rw [e]
 simp
theorem c69 (a b:SClass) (w:a.wf):run E (exec E) false 69 [a.d,b.d]=some (.bool (decide (a=b))):=by
 have h0:getBlk ([some [a.row],some [b.row]]:Heap) 0=some [a.row]:=rfl
 have h1:getBlk ([some [a.row],some [b.row]]:Heap) 1=some [b.row]:=rfl
 have m0:∀ a:SClass,a.row[0 + 0]? = some (.list (a.Pool.map SConst.row)):=fun a=>rfl
 have m1:∀ a:SClass,a.row[0 + 1]? = some (.int .i64 a.Flags):=fun a=>rfl
 have m2:∀ a:SClass,a.row[0 + 2]? = some (.int .i64 a.Name):=fun a=>rfl
 have m3:∀ a:SClass,a.row[0 + 3]? = some (.int .i64 a.Super):=fun a=>rfl
 have m4:∀ a:SClass,a.row[0 + 4]? = some (.list (a.Faces.map rInt)):=fun a=>rfl
 have m5:∀ a:SClass,a.row[0 + 5]? = some (.list (a.Fields.map SField.row)):=fun a=>rfl
 have m6:∀ a:SClass,a.row[0 + 6]? = some (.list (a.Methods.map SMethod.row)):=fun a=>rfl
 obtain ⟨w0,-,-,-,w4,w5,w6,w7⟩:=w
 rw [run_ent,e69,alloc_eq _ _ _ rfl,alloc_eq _ _ _ rfl]
 rw [show ([]++[some [D.cells a.d]]++[some [D.cells b.d]]:Heap)=[some [a.row],some [b.row]] from rfl,show ([]:Heap).length=0 from rfl,show ([]++[some [D.cells a.d]]:Heap).length=1 from rfl,ceq,j69_1]
 simp only [fa_ptr,ld_in0 h0,ld_in0 h1,m0,Option.bind_some]
 rw [pure_call (ts:=[.list (a.Pool.map SConst.row),.list (b.Pool.map SConst.row)]) (by simp) (c124 _ _ w0.1)]
 simp only [Option.bind_some,asB_bool,ld_in0 h0,ld_in0 h1,m1,m2,m3,m4,bI_eql]
 rw [pure_call (ts:=[.list (a.Faces.map rInt),.list (b.Faces.map rInt)]) (by simp) (c125 _ _ w4.1)]
 by_cases e0:¬ a.Pool=b.Pool
 ·simp [e0]
 have e0:=Decidable.not_not.mp e0
 by_cases e1:¬ a.Flags=b.Flags
 ·simp [e0,e1]
 have e1:=Decidable.not_not.mp e1
 by_cases e2:¬ a.Name=b.Name
 ·simp [e0,e1,e2]
 have e2:=Decidable.not_not.mp e2
 by_cases e3:¬ a.Super=b.Super
 ·simp [e0,e1,e2,e3]
 have e3:=Decidable.not_not.mp e3
 by_cases e4:¬ a.Faces=b.Faces
 ·simp [e0,e1,e2,e3,e4]
 have e4:=Decidable.not_not.mp e4
 simp only [e0,e1,e2,e3,e4,decide_true,cond_true,Option.bind_some,asB_bool,Bool.true_and,ld_in0 h0,ld_in0 h1,m5]
 rw [pure_call (ts:=[.list (a.Fields.map SField.row),.list (b.Fields.map SField.row)]) (by simp) (c126 _ _ w5.1)]
 by_cases e5:¬ a.Fields=b.Fields
 ·simp [e5]
 have e5:=Decidable.not_not.mp e5
 simp only [e5,decide_true,cond_true,Option.bind_some,asB_bool,Bool.true_and,ld_in0 h0,ld_in0 h1,m6,call_raw]
 obtain ⟨K',e⟩:=c127 a.Methods b.Methods w6 128 [] [some [a.row],some [b.row]] (fun x hx y hy K=>⟨K,pure_call (ts:=[x.d,y.d]) (by simp [SMethod.readD]) (c128 x y (w7 x hx))⟩)
 rw [e]
 simp
end Go.Ev.YtmpfooibdekppaaGreatDoor
namespace Go.Ev.YtmpfooibdekppaaGreatDoor
set_option linter.unusedVariables false
set_option linter.unusedSimpArgs false
set_option linter.unusedSectionVars false
set_option linter.defProp false
set_option maxHeartbeats 1000000
open Go.Ev
theorem call_viewS {E:Env} {g:FuncId} {s:List UInt8} {H:Heap} {t:D} (h:run E (exec E) true g [.str s]=some t):callFn E (exec E) .view g [.str s] H=some (t,H):=by
 rw [call_view]
 simp only [readA_int,readA_bool,readA_str,readA_list,readA_sl0,readA_sl,readA_agg,readA_tup,optAll_cons,optAll_nil,readT_str,Option.bind_some,h,List.foldl_cons,List.foldl_nil]
 rfl
theorem filePut_none {c:SClass} (h:fileGet (pClass pTwo isAbs c) ≠ some c):filePut c=[]:=if_neg h
theorem c39 (c:SClass) (w:c.wf) (hM:(pClass pTwo isAbs c).length≤4611686018427387904):run E (exec E) false 39 [c.d]=some (.str (filePut c)):=by
 have l0:∀ K:Heap,ld true 7 (some [c.row] :: K) (.ptr 0 0 0)=some c.d:=fun K=>rfl
 rw [run_ent,e39,alloc_eq _ _ _ rfl]
 rw [show ([]:Heap)++[some [D.cells c.d]]=[some [c.row]] from rfl,show ([]:Heap).length=0 from rfl]
 simp only [l0,Option.bind_some]
 rw [pure_call (ts:=[c.d]) (by simp [SClass.readD]) (c66 c w)]
 simp only [Option.bind_some,unOp_not,asB_bool]
 cases hs:smC c with
 | false=>
  have:filePut c=[]:=filePut_none fun h=>by rw [smC_of (fileGet_wf h).2] at hs; cases hs
  simp [this]
 | true=>
  simp only [Bool.not_true,cond_false,l0,Option.bind_some]
  rw [pure_call (ts:=[c.d]) (by simp [SClass.readD]) (c67 c w hM)]
  simp only [Option.bind_some]
  rw [pure_call (ts:=[.str (pClass pTwo isAbs c)]) (by simp) (p68 _)]
  simp only [fileRes,Option.bind_some,extract_tup,List.getElem?_cons_zero,List.getElem?_cons_succ]
  rw [alloc_eq _ _ _ rfl]
  cases hg:fileGet (pClass pTwo isAbs c) with
  | none=>
   have:filePut c=[]:=filePut_none (by rw [hg]; intro h; cases h)
   rw [put_loc (z:=7) _ [.sl0,.int .i64 0,.int .i64 0,.int .i64 0,.sl0,.sl0,.sl0] _ rfl rfl rfl]
   simp [this]
  | some b=>
   simp only [Option.getD_some,Option.isSome_some,Bool.not_true]
   rw [put_loc (z:=7) _ [.sl0,.int .i64 0,.int .i64 0,.int .i64 0,.sl0,.sl0,.sl0] b.row rfl rfl rfl]
   simp only [Option.bind_some,unOp_not,Bool.not_true,asB_bool,cond_false]
   have l1:ld true 7 ([some [c.row]]++[some [b.row]]) (.ptr 0 0 0)=some c.d:=rfl
   have l2:ld true 7 ([some [c.row]]++[some [b.row]]) (.ptr ([some [c.row]]:Heap).length 0 0)=some b.d:=rfl
   simp only [l1,l2,Option.bind_some]
   rw [pure_call (ts:=[c.d,b.d]) (by simp [SClass.readD]) (c69 c b w)]
   simp only [Option.bind_some,unOp_not,asB_bool]
   by_cases e:c=b
   ·subst e
    simp [filePut,hg]
   ·have:filePut c=[]:=filePut_none (by rw [hg]; intro h; cases h; exact e rfl)
    simp [e,this]
theorem c29 (c:SClass) (w:c.wf) (hM:(pClass pTwo' isAbs' c).length≤4611686018427387904):run E (exec E) false 29 [c.d]=some (.str (filePut c)):=by
 have l0:∀ K:Heap,ld true 7 (some [c.row] :: K) (.ptr 0 0 0)=some c.d:=fun K=>rfl
 have hn:fileGet (pClass pTwo' isAbs' c) ≠ some c→filePut c=[]:=fun h=>by rw [← filePut_of back2_pTwo',if_neg h]
 rw [run_ent,e29,alloc_eq _ _ _ rfl]
 rw [show ([]:Heap)++[some [D.cells c.d]]=[some [c.row]] from rfl,show ([]:Heap).length=0 from rfl]
 simp only [l0,Option.bind_some]
 rw [pure_call (ts:=[c.d]) (by simp [SClass.readD]) (c54 c)]
 simp only [Option.bind_some,unOp_not,asB_bool]
 cases hs:(decide (c.Pool.length≤60) && (decide (c.Faces.length≤3) && (decide (c.Fields.length≤5) && decide (c.Methods.length≤6)))) with
 | false=>
  have:filePut c=[]:=filePut_none fun h=>by
   obtain ⟨h1,h2,h3,h4,-⟩:=(fileGet_wf h).2
   simp [h1,h2,h3,h4] at hs
  simp [this]
 | true=>
  simp only [Bool.not_true,cond_false,l0,Option.bind_some]
  rw [pure_call (ts:=[c.d]) (by simp [SClass.readD]) (c55 c w hM)]
  simp only [Option.bind_some]
  rw [call_viewS (c56 _ true)]
  simp only [fileRes,Option.bind_some,extract_tup,List.getElem?_cons_zero,List.getElem?_cons_succ]
  rw [alloc_eq _ _ _ rfl]
  cases hg:fileGet (pClass pTwo' isAbs' c) with
  | none=>
   have:=hn (by rw [hg]; intro h; cases h)
   rw [put_loc (z:=7) _ [.sl0,.int .i64 0,.int .i64 0,.int .i64 0,.sl0,.sl0,.sl0] _ rfl rfl rfl]
   simp [this]
  | some b=>
   simp only [Option.getD_some,Option.isSome_some,Bool.not_true]
   rw [put_loc (z:=7) _ [.sl0,.int .i64 0,.int .i64 0,.int .i64 0,.sl0,.sl0,.sl0] b.row rfl rfl rfl]
   simp only [Option.bind_some,unOp_not,Bool.not_true,asB_bool,cond_false]
   have l1:ld true 7 ([some [c.row]]++[some [b.row]]) (.ptr 0 0 0)=some c.d:=rfl
   have l2:ld true 7 ([some [c.row]]++[some [b.row]]) (.ptr ([some [c.row]]:Heap).length 0 0)=some b.d:=rfl
   simp only [l1,l2,Option.bind_some]
   rw [pure_call (ts:=[b.d,c.d]) (by simp [SClass.readD]) (c57 b c (fileGet_wf hg).1)]
   simp only [Option.bind_some,unOp_not,asB_bool]
   by_cases e:c=b
   ·subst e
    have:filePut c=pClass pTwo' isAbs' c:=by rw [← filePut_of back2_pTwo',if_pos hg]
    simp [this]
   ·have:=hn (by rw [hg]; intro h; cases h; exact e rfl)
    simp [show ¬ b=c from fun h=>e h.symm,this]
theorem flat_le {α:Type} {p:α→List UInt8} {f:α→Nat} (h:∀ x,(p x).length≤64 * (1 + f x)):∀ l:List α,(l.flatMap p).length≤64 * szL f l
 | []=>by simp
 | x :: l=>by
  have h1:=h x
  have h2:=flat_le h l
  rw [List.flatMap_cons,List.length_append]
  simp only [szL,List.map_cons,List.sum_cons,List.length_cons] at h2 ⊢
  omega
section
variable {w:Int→List UInt8} {ab:Int→Bool} (hw:∀ n,(w n).length=2)
include hw
theorem pKind_le (x:SKind):(pKind w x).length≤64 * (1 + 0):=by unfold pKind; split <;> simp [pOne,hw]
theorem pKinds_le (l:List SKind):(pKinds w l).length≤1 + 64 * szL (fun _=>0) l:=by
 have:=flat_le (pKind_le hw) l
 simp only [pKinds,List.length_append,pOne_len]; omega
theorem pConst_le (x:SConst):(pConst w x).length≤64 * (1 + x.sz):=by
 unfold pConst SConst.sz; split
 ·simp [pOne]; omega
 ·split <;> simp [pOne,hw] <;> omega
theorem pTrap_le (x:STrap):(pTrap w x).length≤64 * (1 + 0):=by simp [pTrap,hw]
theorem pField_le (x:SField):(pField w x).length≤64 * (1 + 0):=by simp [pField,hw,pOne]
theorem pFrame_le (x:SFrame):(pFrame w x).length≤64 * (1 + x.sz):=by
 have h1:=pKinds_le hw x.Locals
 have h2:=pKinds_le hw x.Stack
 simp only [pFrame,SFrame.sz,List.length_append,hw]; omega
theorem pMethod_le (x:SMethod):(pMethod w ab x).length≤64 * (1 + x.sz):=by
 have h1:=flat_le (pTrap_le hw) x.Traps
 have h2:=flat_le (pFrame_le hw) x.Frames
 unfold pMethod; split
 ·simp [pOne,hw]; omega
 ·simp only [SMethod.sz,List.length_append,hw,pOne_len]; omega
theorem pClass_le (c:SClass):(pClass w ab c).length≤64 * (1 + c.sz):=by
 have h1:=flat_le (pConst_le hw) c.Pool
 have h2:=flat_le (p:=w) (f:=fun _=>0) (fun n=>by rw [hw]; omega) c.Faces
 have h3:=flat_le (pField_le hw) c.Fields
 have h4:=flat_le (pMethod_le (ab:=ab) hw) c.Methods
 simp only [pClass,SClass.sz,List.length_append,hw,pOne_len,stow,List.length_cons,List.length_nil]; omega
end
end Go.Ev.YtmpfooibdekppaaGreatDoor
namespace Go.Ev.YtmpfooibdekppaaGreatDoor
set_option linter.unusedVariables false
set_option linter.unusedSimpArgs false
set_option linter.unusedSectionVars false
set_option linter.defProp false
set_option maxHeartbeats 1000000
open Go.Ev
end Go.Ev.YtmpfooibdekppaaGreatDoor
namespace Go.Ev.YtmpfooibdekppaaGreatDoor
set_option linter.unusedVariables false
set_option linter.unusedSimpArgs false
set_option linter.unusedSectionVars false
set_option linter.defProp false
set_option maxHeartbeats 1000000
open Go.Ev
def nmM (p:List SConst) (i:Int):List UInt8:=if (cAt p i).Kind=2 then (cAt p (cAt p i).A).Text else (cAt p i).Text
def bit (n:Int) (i:Nat):Bool:=decide (n / (2 ^ i:Nat) % 2=1)
def facesGo (p:List SConst):List Int→List Int→Bool
 | _,[]=>true
 | pre,f :: l=>classAtM p f && (!pre.any (fun g=>decide (classM p g=classM p f)) && facesGo p (pre++[f]) l)
def objS:List UInt8:=[79,98,106]
def beginS:List UInt8:=[98,101,103,105,110]
def voidS:List UInt8:=[40,41,86]
def flagsM (c:SClass):Bool:=inR c.Flags 0 7 && (!(bit c.Flags 1 && bit c.Flags 2) && (!bit c.Flags 0 || (bit c.Flags 2 && decide (classM c.Pool c.Super=objS))))
def headM (c:SClass):Bool:=
 classAtM c.Pool c.Name && (classAtM c.Pool c.Super && (!decide (classM c.Pool c.Super=classM c.Pool c.Name) && (facesGo c.Pool [] c.Faces && flagsM c)))
def fieldM (c:SClass) (f:SField):Bool:=
 nameOk (textM c.Pool f.Name) && (typeOk (textM c.Pool f.Typ) && (inR f.Flags 0 3 && !(bit c.Flags 0 && !decide (f.Flags=1))))
def fieldsGo (c:SClass):List SField→List SField→Bool
 | _,[]=>true
 | pre,f :: l=>fieldM c f && (!pre.any (fun g=>decide (textM c.Pool g.Name=textM c.Pool f.Name)) && fieldsGo c (pre++[f]) l)
def mflagsM (c:SClass) (m:SMethod):Bool:=
 inR m.Flags 0 15 && (!(decide (textM c.Pool m.Name=beginS) && !(decide (m.Flags=1) && decide (textM c.Pool m.Desc=voidS))) &&
  (if bit m.Flags 3=true then decide (m.Flags=8) && bit c.Flags 2 else !bit c.Flags 0 || decide (m.Flags=1)))
def methodM (c:SClass) (m:SMethod):Bool:=
 nameOk (textM c.Pool m.Name) && (isDescM (textM c.Pool m.Desc) && mflagsM c m)
def methodsGo (c:SClass):List SMethod→List SMethod→Bool
 | _,[]=>true
 | pre,m :: l=>methodM c m && (!pre.any (fun n=>decide (textM c.Pool n.Name=textM c.Pool m.Name) && decide (textM c.Pool n.Desc=textM c.Pool m.Desc)) && methodsGo c (pre++[m]) l)
def opIdx (ops:List SIns) (at_:Int):Int:=idxM (fun x:SIns=>decide (x.At=at_)) ops
def opHas (ops:List SIns) (at_:Int):Bool:=ops.any fun x=>decide (x.At=at_)
def wantsM (op:Int):Int:=if op=19∨op=28∨op=29 then 2 else if inR op 20 23 then 4 else if inR op 24 26 then 5 else if op=27 then 6 else 0
def insM (c:SClass) (m:SMethod) (ops:List SIns) (x:SIns):Bool:=
 !(inR x.Op 3 6 && decide (m.Locals≤x.Num)) && (!(inR x.Op 14 18 && !opHas ops x.Num) && (decide (wantsM x.Op=0) || decide ((cAt c.Pool x.Num).Kind=wantsM x.Op)))
def trapM (c:SClass) (m:SMethod) (ops:List SIns) (t:STrap):Bool:=
 decide (t.From < t.To) && (opHas ops t.From && (opHas ops t.At && ((opHas ops t.To || decide (t.To=m.Code.length)) && (decide (t.Class=0) || classAtM c.Pool t.Class))))
def kindM (c:SClass) (k:SKind):Bool:=if k.Tag=3 then classAtM c.Pool k.Class else decide (k.Class=0)
def framesGo (c:SClass) (m:SMethod) (ops:List SIns):Int→List SFrame→Bool
 | _,[]=>true
 | b,f :: l=>opHas ops f.At && (decide (b < f.At) && (decide ((f.Locals.length:Int)=m.Locals) && (decide ((f.Stack.length:Int)≤m.Deep) && (f.Locals.all (kindM c) && (f.Stack.all (kindM c) && framesGo c m ops f.At l)))))
def needM (c:SClass) (m:SMethod):Int:=(dTakes (textM c.Pool m.Desc)).length + (if bit m.Flags 0=true then 0 else 1)
def codeM (c:SClass) (m:SMethod):Bool:=match opsGet m.Code with
 | none=>false
 | some ops=>decide (m.Deep≤8) && (inR m.Locals (needM c m) 8 && (ops.all (insM c m ops) && (m.Traps.all (trapM c m ops) && framesGo c m ops (-1) m.Frames)))
def bodyM (c:SClass) (m:SMethod):Bool:=bit m.Flags 3 || codeM c m
def checkM (c:SClass):Int:=
 if poolCheck c.Pool ≠ 0 then 2 else if headM c=false then 3 else if fieldsGo c [] c.Fields=false then 4 else if methodsGo c [] c.Methods=false then 5 else if c.Methods.all (bodyM c)=false then 6 else 0
def classCheck (c:SClass):Int:=if filePut c=[] then 1 else checkM c
def kindR (k:SKind):Prop:=0≤k.Tag∧k.Tag≤3
structure FileR (c:SClass):Prop where
 wf:c.wf
 small:smallC c
 flags:0≤c.Flags∧c.Flags≤255
 fields:∀ f ∈ c.Fields,0≤f.Flags∧f.Flags≤255
 methods:∀ m ∈ c.Methods,(0≤m.Flags∧m.Flags≤255)∧∀ f ∈ m.Frames,(∀ k ∈ f.Locals,kindR k)∧∀ k ∈ f.Stack,kindR k
theorem gKind_rng (s:List UInt8) (a:SKind) (r:List UInt8) (h:gKind s=some (a,r)):kindR a:=by
 simp only [gKind,bindG,pureG,Option.bind_eq_some_iff] at h
 obtain ⟨⟨n,r1⟩,h1,h2⟩:=h
 obtain ⟨h1,h3⟩:=gUp_eq h1
 have h4:=gOne_rng h1
 simp only at h2
 split at h2
 ·simp only [bindG,pureG,Option.bind_eq_some_iff] at h2
  obtain ⟨⟨b,r2⟩,-,h5⟩:=h2
  cases h5
  exact ⟨by simp only; omega,by simp only; omega⟩
 ·cases h2
  exact ⟨by simp only; omega,by simp only; omega⟩
theorem gFrame_rng (s:List UInt8) (a:SFrame) (r:List UInt8) (h:gFrame s=some (a,r)):(∀ k ∈ a.Locals,kindR k)∧∀ k ∈ a.Stack,kindR k:=by
 simp only [gFrame,bindG,pureG,Option.bind_eq_some_iff] at h
 obtain ⟨⟨a1,r1⟩,h1,⟨a2,r2⟩,h2,⟨a3,r3⟩,h3,h5⟩:=h
 cases h5
 exact ⟨(gList_all gKind_rng h2).2,(gList_all gKind_rng h3).2⟩
theorem gField_rng (s:List UInt8) (a:SField) (r:List UInt8) (h:gField s=some (a,r)):0≤a.Flags∧a.Flags≤255:=by
 simp only [gField,bindG,pureG,Option.bind_eq_some_iff] at h
 obtain ⟨⟨a1,r1⟩,h1,⟨a2,r2⟩,h2,⟨a3,r3⟩,h3,h5⟩:=h
 cases h5
 have:=gOne_rng h1
 exact ⟨by simp only; omega,by simp only; omega⟩
theorem gMethod_rng (s:List UInt8) (a:SMethod) (r:List UInt8) (h:gMethod s=some (a,r)):(0≤a.Flags∧a.Flags≤255)∧∀ f ∈ a.Frames,(∀ k ∈ f.Locals,kindR k)∧∀ k ∈ f.Stack,kindR k:=by
 simp only [gMethod,bindG,pureG,Option.bind_eq_some_iff] at h
 obtain ⟨⟨a1,r1⟩,h1,⟨a2,r2⟩,h2,⟨a3,r3⟩,h3,h5⟩:=h
 have hr:=gOne_rng h1
 simp only at h5
 split at h5
 ·cases h5
  exact ⟨⟨by simp only; omega,by simp only; omega⟩,by simp⟩
 ·simp only [gBody,bindG,pureG,Option.bind_eq_some_iff] at h5
  obtain ⟨⟨b1,s1⟩,k1,⟨b2,s2⟩,k2,⟨b3,s3⟩,k3,⟨b4,s4⟩,k4,⟨b5,s5⟩,k5,⟨b6,s6⟩,k6,k7⟩:=h5
  cases k7
  exact ⟨⟨by simp only; omega,by simp only; omega⟩,(gList_all gFrame_rng k6).2⟩
theorem fileR {s:List UInt8} {c:SClass} (h:fileGet s=some c):FileR c:=by
 have hw:=fileGet_wf h
 unfold fileGet at h
 split at h
 ·cases h
 ·split at h
  ·rename_i d hd
   cases h
   simp only [gClass,bindG,pureG,failG,Option.bind_eq_some_iff] at hd
   obtain ⟨⟨t,r0⟩,h0,h1⟩:=hd
   simp only at h1
   split at h1
   ·simp only [bindG,pureG,failG,Option.bind_eq_some_iff] at h1
    obtain ⟨⟨b1,s1⟩,k1,⟨b2,s2⟩,k2,⟨b3,s3⟩,k3,⟨b4,s4⟩,k4,⟨b5,s5⟩,k5,⟨b6,s6⟩,k6,⟨b7,s7⟩,k7,k8⟩:=h1
    cases k8
    have hr:=gOne_rng k2
    exact ⟨hw.1,hw.2,⟨by simp only; omega,by simp only; omega⟩,(gList_all gField_rng k6).2,(gList_all gMethod_rng k7).2⟩
   ·cases h1
  ·cases h
theorem filePut_fileR {c:SClass} (h:filePut c ≠ []):FileR c:=by
 unfold filePut at h
 split at h
 ·rename_i e; exact fileR e
 ·exact absurd rfl h
theorem poolGo_fine {pool:List SConst}:∀ {l:List SConst} {i:Nat},poolGo pool i l=0→∀ x ∈ l,entryM pool x=true
 | [],i,_,x,hx=>by cases hx
 | y :: l,i,h,x,hx=>by
  unfold poolGo at h
  split at h
  ·omega
  ·split at h
   ·rename_i h1 h2
    rcases List.mem_cons.mp hx with rfl | hx
    ·exact h2
    ·exact poolGo_fine h x hx
   ·omega
structure Fine (p:List SConst):Prop where
 ok:PoolOk p
 fine:∀ x ∈ p,entryM p x=true
theorem cAt_mem (p:List SConst) (i:Int):cAt p i ∈ p∨cAt p i={}:=by
 unfold cAt
 split
 ·rename_i h
  have hl:(i - 1).toNat < p.length:=by omega
  rw [List.getElem?_eq_getElem hl]
  exact .inl (List.getElem_mem hl)
 ·exact .inr rfl
theorem Fine.class {p:List SConst} (h:Fine p) {i:Int} (hk:(cAt p i).Kind=2):classAtM p i=true:=by
 rcases cAt_mem p i with hm | he
 ·have:=h.fine _ hm
  simp only [entryM,hk,show ¬ (2:Int)=1 by decide,if_false,if_true,Bool.and_eq_true] at this
  simp [classAtM,hk,this.2.2]
 ·rw [he] at hk; cases hk
theorem classAt_kind {p:List SConst} {i:Int} (h:classAtM p i=true):(cAt p i).Kind=2:=by
 simp only [classAtM,Bool.and_eq_true,decide_eq_true_eq] at h; exact h.1
theorem Fine.isClass {p:List SConst} (h:Fine p) (i:Int):decide ((cAt p i).Kind=2)=classAtM p i:=by
 by_cases hk:(cAt p i).Kind=2
 ·rw [h.class hk]; simp [hk]
 ·cases hc:classAtM p i with
  | false=>simp [hk]
  | true=>exact absurd (classAt_kind hc) hk
theorem nm_class {p:List SConst} {i:Int} (h:classAtM p i=true):nmM p i=classM p i:=by
 simp [nmM,classM,h,classAt_kind h]
theorem nm_name {p:List SConst} {i:Int} (h:(cAt p i).Kind=1):nmM p i=textM p i:=by
 simp [nmM,textM,h]
theorem name_kind {p:List SConst} {i:Int} {q:List UInt8→Bool} (hq:q []=false) (h:q (textM p i)=true):(cAt p i).Kind=1:=by
 unfold textM at h
 split at h
 ·assumption
 ·rw [hq] at h; cases h
theorem nm_text {p:List SConst} {i:Int} {q:List UInt8→Bool} (hq:q []=false) (h:q (textM p i)=true):nmM p i=textM p i:=nm_name (name_kind hq h)
theorem bit_abs {n:Int}:bit n 3=isAbs n:=by
 unfold bit isAbs
 simp only [show ((2 ^ 3:Nat):Int)=8 from rfl]
 congr 1
 simp only [eq_iff_iff]
 omega
theorem idxFrom_has {α:Type} (p:α→Bool):∀ (l:List α) (i:Nat),decide (idxFrom p i l < 0) = !l.any p
 | [],i=>by simp [idxFrom]
 | x :: l,i=>by
  unfold idxFrom
  cases h:p x with
  | true=>simp [h]
  | false=>simp [h,idxFrom_has p l (i + 1)]
theorem opIdx_has (ops:List SIns) (at_:Int):decide (opIdx ops at_ < 0) = !opHas ops at_:=idxFrom_has _ ops 0
end Go.Ev.YtmpfooibdekppaaGreatDoor
namespace Go.Ev.YtmpfooibdekppaaGreatDoor
set_option linter.unusedVariables false
set_option linter.unusedSimpArgs false
set_option linter.unusedSectionVars false
set_option linter.defProp false
set_option maxHeartbeats 1000000
open Go.Ev
theorem ld_whole {H:Heap} {b z:Nat} {row:List D} (h:getBlk H b=some [row]) (hz:row.length=z):ld true z H (.ptr b 0 0)=some (.agg row):=by
 rw [ld_ptr h rfl,part_agg,if_pos (by omega)]
 simp [← hz]
theorem ld_cls {H:Heap} {b:Nat} {c:SClass} (h:getBlk H b=some [c.row]):ld true 7 H (.ptr b 0 0)=some c.d:=ld_whole h rfl
theorem ld_0 {H:Heap} {b:Nat} {row:List D} (h:getBlk H b=some [row]):ld false 1 H (.ptr b 0 0)=row[0]?:=by rw [ld_ptr h rfl]; rfl
theorem put_sc (H:Heap) (a v:D) (hv:v.cells=[v]) (hc:v.isCell=true):st 1 (H++[some [[a]]]) (.ptr H.length 0 0) v=some (H++[some [[v]]]):=by
 rw [st_loc (z:=1) H [a] [] 0 v (by rw [hv]; rfl) (by rw [hv]; simp [hc]) (by simp),hv]; rfl
theorem cls_call {g:FuncId} {c:SClass} {i:Int} {H:Heap} {t:D} (h:run E (exec E) false g [c.d,.int .i64 i]=some t):callFn E (exec E) .pure g [c.d,.int .i64 i] H=some (t,H):=pure_call (by simp [SClass.readD]) h
theorem cls1_call {g:FuncId} {c:SClass} {H:Heap} {t:D} (h:run E (exec E) false g [c.d]=some t):callFn E (exec E) .pure g [c.d] H=some (t,H):=pure_call (by simp [SClass.readD]) h
theorem any_congr' {α:Type} {p q:α→Bool}:∀ {l:List α},(∀ x ∈ l,p x=q x)→l.any p=l.any q
 | [],_=>rfl
 | x :: l,h=>by simp only [List.any_cons]; rw [h x (by simp),any_congr' fun y hy=>h y (by simp [hy])]
theorem take_next {α:Type} {l:List α} {i:Nat} (hi:i < l.length):l.take (i + 1)=l.take i++[l[i]]:=by rw [List.take_add_one,List.getElem?_eq_getElem hi]; rfl
theorem bI_and1 (n:Int):bI .and (.int .i64 n) (.int .i64 1)=some (.int .i64 (if n / (2 ^ 0:Nat) % 2=1 then ((2 ^ 0:Nat):Int) else 0)):=bI_and n 0 (by decide)
theorem bI_and2 (n:Int):bI .and (.int .i64 n) (.int .i64 2)=some (.int .i64 (if n / (2 ^ 1:Nat) % 2=1 then ((2 ^ 1:Nat):Int) else 0)):=bI_and n 1 (by decide)
theorem bI_and4 (n:Int):bI .and (.int .i64 n) (.int .i64 4)=some (.int .i64 (if n / (2 ^ 2:Nat) % 2=1 then ((2 ^ 2:Nat):Int) else 0)):=bI_and n 2 (by decide)
theorem bit_eq (n:Int) (i:Nat):decide ((if n / (2 ^ i:Nat) % 2=1 then ((2 ^ i:Nat):Int) else 0)=0) = !bit n i:=by
 unfold bit
 by_cases h:n / (2 ^ i:Nat) % 2=1
 ·have hp:¬ ((2 ^ i:Nat):Int)=0:=fun e=>absurd (Int.ofNat.inj e) (Nat.ne_of_gt (Nat.two_pow_pos i))
  rw [if_pos h,decide_eq_false hp,decide_eq_true h]; rfl
 ·rw [if_neg h,decide_eq_false h]; rfl
theorem c71 (c:SClass) (hf:Fine c.Pool) (i:Int) (wi:i64 i):run E (exec E) false 71 [c.d,.int .i64 i]=some (.bool (classAtM c.Pool i)):=by
 have h:getBlk ([some [c.row]]:Heap) 0=some [c.row]:=rfl
 have m0:c.row[0 + 0]? = some (.list (c.Pool.map SConst.row)):=rfl
 rw [run_ent,e71,alloc_eq _ _ _ rfl]
 rw [show ([]:Heap)++[some [D.cells c.d]]=[some [c.row]] from rfl,show ([]:Heap).length=0 from rfl]
 simp only [fa_ptr,Option.bind_some,ld_in0 h,m0]
 rw [pool_call (c88 _ hf.ok i wi)]
 simp only [readA_int,readA_bool,readA_str,readA_list,readA_sl0,readA_sl,readA_agg,readA_tup,Option.bind_some,fd_agg,show part (cAt c.Pool i).row (0,1,false)=some (.int .i64 (cAt c.Pool i).Kind) from rfl,bI_eql,ret_one,readT_bool,hf.isClass]
theorem c46 (c:SClass) (w:PoolOk c.Pool) (i:Int) (wi:i64 i):run E (exec E) false 46 [c.d,.int .i64 i]=some (.str (nmM c.Pool i)):=by
 have h:getBlk ([some [c.row]]:Heap) 0=some [c.row]:=rfl
 have m0:c.row[0 + 0]? = some (.list (c.Pool.map SConst.row)):=rfl
 have hw:=cAt_wf w i
 rw [run_ent,e46,alloc_eq _ _ _ rfl]
 rw [show ([]:Heap)++[some [D.cells c.d]]=[some [c.row]] from rfl,show ([]:Heap).length=0 from rfl]
 simp only [fa_ptr,Option.bind_some,ld_in0 h,m0]
 rw [pool_call (c88 _ w i wi)]
 simp only [Option.bind_some]
 rw [alloc_eq _ _ _ rfl,put_const _ _ _ rfl]
 unfold nmM
 generalize cAt c.Pool i=x at *
 have h0:getBlk ([some [c.row]]++[some [x.row]]:Heap) 0=some [c.row]:=getBlk_app h
 have h5:getBlk ([some [c.row]]++[some [x.row]]:Heap) ([some [c.row]]:Heap).length=some [x.row]:=getBlk_self _ _ []
 have r0:x.row[0 + 0]? = some (.int .i64 x.Kind):=rfl
 have r1:x.row[0 + 1]? = some (.str x.Text):=rfl
 have r2:x.row[0 + 2]? = some (.int .i64 x.A):=rfl
 simp only [Option.bind_some,fa_ptr,ld_in0 h5,r0,bI_eql,asB_bool]
 by_cases hk:x.Kind=2
 ·simp only [hk,decide_true,cond_true,ld_in0 h0,ld_in0 h5,m0,r2,Option.bind_some]
  rw [pool_call (c88 _ w x.A hw.2.2.1)]
  simp only [Option.bind_some]
  rw [put_const _ _ _ rfl]
  simp only [Option.bind_some]
  rw [j46_4]
  have h6:getBlk ([some [c.row]]++[some [(cAt c.Pool x.A).row]]:Heap) ([some [c.row]]:Heap).length=some [(cAt c.Pool x.A).row]:=getBlk_self _ _ []
  simp only [readA_int,readA_bool,readA_str,readA_list,readA_sl0,readA_sl,readA_agg,readA_tup,fa_ptr,Option.bind_some,ld_in0 h6,show (cAt c.Pool x.A).row[0 + 1]? = some (.str (cAt c.Pool x.A).Text) from rfl,ret_one,readT_str,if_true]
 ·simp only [hk,decide_false,cond_false]
  rw [j46_4]
  simp only [readA_int,readA_bool,readA_str,readA_list,readA_sl0,readA_sl,readA_agg,readA_tup,fa_ptr,Option.bind_some,ld_in0 h5,r1,ret_one,readT_str,if_false]
theorem c74 (c:SClass):run E (exec E) false 74 [c.d]=some (.bool (bit c.Flags 0)):=by
 have h:getBlk ([some [c.row]]:Heap) 0=some [c.row]:=rfl
 have m1:c.row[0 + 1]? = some (.int .i64 c.Flags):=rfl
 rw [run_ent,e74,alloc_eq _ _ _ rfl]
 rw [show ([]:Heap)++[some [D.cells c.d]]=[some [c.row]] from rfl,show ([]:Heap).length=0 from rfl]
 simp only [readA_int,readA_bool,readA_str,readA_list,readA_sl0,readA_sl,readA_agg,readA_tup,fa_ptr,Option.bind_some,ld_in0 h,m1,bI_and1,bI_neq,bit_eq,Bool.not_not,ret_one,readT_bool]
theorem c73 (c:SClass) (w:PoolOk c.Pool) (g f:Int) (wg:i64 g) (wf:i64 f) (H:Heap) (b q:Nat) (hb:getBlk H b=some [c.row]) (hq:getBlk H q=some [[.int .i64 f]]):ent E 73 [.int .i64 g,.ptr b 0 0,.ptr q 0 0] H=some (.bool (decide (nmM c.Pool g=nmM c.Pool f)),H):=by
 rw [e73]
 simp only [ld_cls hb,Option.bind_some]
 rw [cls_call (c46 c w g wg)]
 simp only [Option.bind_some,ld_cls hb,ld_0 hq,show [D.int .i64 f][0]? = some (.int .i64 f) from rfl]
 rw [cls_call (c46 c w f wf)]
 simp only [Option.bind_some,bS_eql,ret_one]
theorem within_call (n lo hi:Int) (H:Heap):callFn E (exec E) .pure 21 [.int .i64 n,.int .i64 lo,.int .i64 hi] H=some (.bool (inR n lo hi),H):=pure_call (by simp) (c21 n lo hi)
theorem c41_10 (c:SClass) (w:PoolOk c.Pool) (ws:i64 c.Super) (hs:classAtM c.Pool c.Super=true) (H:Heap) (h:getBlk H 0=some [c.row]):J E 41 10 [.ptr 0 0 0,.bool (bit c.Flags 1),.bool (bit c.Flags 2)] H=some (.bool (flagsM c),H):=by
 have m1:c.row[0 + 1]? = some (.int .i64 c.Flags):=rfl
 have m3:c.row[0 + 3]? = some (.int .i64 c.Super):=rfl
 have hF:∀ H,callFn E (exec E) .pure 74 [c.d] H=some (.bool (bit c.Flags 0),H):=fun H=>cls1_call (c74 c)
 have hN:∀ H,callFn E (exec E) .pure 46 [c.d,.int .i64 c.Super] H=some (.str (nmM c.Pool c.Super),H):=fun H=>cls_call (c46 c w c.Super ws)
 rw [j41_10]
 unfold flagsM
 cases k1:inR c.Flags 0 7 <;> cases k2:bit c.Flags 1 <;> cases k3:bit c.Flags 2 <;> cases k4:bit c.Flags 0 <;>
  simp only [fa_ptr,ld_in0 h,ld_cls h,m1,m3,Option.bind_some,within_call,k1,k2,k3,k4,asB_bool,unOp_not,hF,hN,nm_class hs,bS_eql,ret_one,cond_true,cond_false,Bool.not_true,Bool.not_false,Bool.and_true,Bool.and_false,Bool.true_and,Bool.false_and,Bool.or_true,Bool.or_false,Bool.true_or,Bool.false_or,objS]
 all_goals congr 4
theorem c41_4 (c:SClass) (hf:Fine c.Pool) (w:c.wf) (hs:classAtM c.Pool c.Super=true):∀ i,i≤c.Faces.length→∀ H:Heap,getBlk H 0=some [c.row]→(∀ g ∈ c.Faces.take i,classAtM c.Pool g=true)→∃ H',J E 41 4 [.ptr 0 0 0,.list (c.Faces.map rInt),.int .i64 c.Faces.length,.int .i64 i] H=some (.bool (facesGo c.Pool (c.Faces.take i) (c.Faces.drop i) && flagsM c),H'):=by
 have m1:c.row[0 + 1]? = some (.int .i64 c.Flags):=rfl
 have m4:c.row[0 + 4]? = some (.list (c.Faces.map rInt)):=rfl
 obtain ⟨w1,w2⟩:=w.2.2.2.2.1
 apply loop_up
 ·intro H h hp
  rw [j41_4]
  simp only [bI_lss,Int.lt_irrefl,decide_false,Option.bind_some,asB_bool,cond_false,fa_ptr,ld_in0 h,m1,bI_and2,bI_and4,bI_neq,bit_eq,Bool.not_not,List.drop_length]
  rw [c41_10 c hf.ok w.2.2.2.1 hs H h]
  exact ⟨H,by simp [facesGo]⟩
 ·intro i hi ih H h hp
  have hlt:((i:Nat):Int) < (c.Faces.length:Int):=by omega
  have wx:=w2 _ (List.getElem_mem hi)
  have hia:=fun H:Heap=>ia_row (row:=rInt) (esz:=1) (fun x=>rfl) (H:=H) hi
  have hnx:=take_next hi
  rw [List.drop_eq_getElem_cons hi]
  rw [j41_4]
  simp only [bI_lss,hlt,decide_true,Option.bind_some,asB_bool,cond_true,hia,ld_el]
  generalize c.Faces[i]=f at *
  simp only [show part (rInt f) (0,1,false)=some (.int .i64 f) from rfl,Option.bind_some]
  rw [alloc_eq _ _ _ rfl,put_sc _ _ _ rfl rfl]
  have hb:getBlk (H++[some [[.int .i64 f]]]) 0=some [c.row]:=getBlk_app h
  have hq:getBlk (H++[some [[.int .i64 f]]]) H.length=some [[.int .i64 f]]:=getBlk_self _ _ []
  simp only [Option.bind_some,ld_cls hb,ld_0 hq,show [D.int .i64 f][0]? = some (.int .i64 f) from rfl]
  rw [cls_call (c71 c hf f wx)]
  simp only [Option.bind_some,unOp_not,asB_bool,facesGo]
  cases hc:classAtM c.Pool f with
  | false=>
   simp only [Bool.not_false,cond_true,Bool.false_and]
   exact ⟨_,rfl⟩
  | true=>
   simp only [Bool.not_true,cond_false,fa_ptr,ld_in0 hb,m4,Option.bind_some,Bool.true_and]
   rw [slL_to (n:=(i:Int)) (by omega) (by simp; omega) (by cases hq:c.Faces <;> simp [rowsFit,rInt])]
   simp only [Option.bind_some,call_raw,Int.toNat_natCast,← List.map_take]
   obtain ⟨K',e⟩:=c72 (c.Faces.take i) (by simp; omega) 73 [.ptr 0 0 0,.ptr H.length 0 0] (fun g=>decide (nmM c.Pool g=nmM c.Pool f)) (H++[some [[.int .i64 f]]]) (fun g hg K=>⟨K,c73 c hf.ok g f (w2 g (List.mem_of_mem_take hg)) wx _ 0 H.length (getBlk_app hb) (getBlk_app hq)⟩)
   rw [e]
   simp only [Option.bind_some,asB_bool]
   rw [any_congr' (q:=fun g=>decide (classM c.Pool g=classM c.Pool f)) (fun g hg=>by rw [nm_class (hp g hg),nm_class hc])]
   cases ha:(c.Faces.take i).any (fun g=>decide (classM c.Pool g=classM c.Pool f)) with
   | true=>
    simp only [cond_true,Bool.not_true,Bool.false_and]
    exact ⟨_,rfl⟩
   | false=>
    simp only [cond_false,bI_add,Bool.not_false,Bool.true_and]
    rw [wrap_i64 (n:=(i:Int) + 1) (by omega) (by omega)]
    simp only [Option.bind_some]
    obtain ⟨H',e2⟩:=ih _ (getBlk_app (K:=K') hb) (by
     rw [hnx]
     intro g hg
     rcases List.mem_append.mp hg with hg | hg
     ·exact hp g hg
     ·rw [List.mem_singleton.mp hg]; exact hc)
    rw [show (i:Int) + 1=((i + 1:Nat):Int) by omega,e2,hnx]
    exact ⟨H',rfl⟩
theorem c41 (c:SClass) (hf:Fine c.Pool) (w:c.wf):run E (exec E) false 41 [c.d]=some (.bool (headM c)):=by
 have h:getBlk ([some [c.row]]:Heap) 0=some [c.row]:=rfl
 have m2:c.row[0 + 2]? = some (.int .i64 c.Name):=rfl
 have m3:c.row[0 + 3]? = some (.int .i64 c.Super):=rfl
 have m4:c.row[0 + 4]? = some (.list (c.Faces.map rInt)):=rfl
 have w2:=w.2.2.1
 have w3:=w.2.2.2.1
 rw [run_ent,e41,alloc_eq _ _ _ rfl]
 rw [show ([]:Heap)++[some [D.cells c.d]]=[some [c.row]] from rfl,show ([]:Heap).length=0 from rfl]
 simp only [fa_ptr,Option.bind_some,ld_in0 h,ld_cls h,m2,m3,m4]
 rw [cls_call (c71 c hf _ w2)]
 simp only [Option.bind_some,unOp_not,asB_bool]
 unfold headM
 cases h1:classAtM c.Pool c.Name with
 | false=>simp
 | true=>
  simp only [Bool.not_true,cond_false,fa_ptr,ld_in0 h,ld_cls h,m3,Option.bind_some,Bool.true_and]
  rw [cls_call (c71 c hf _ w3)]
  simp only [Option.bind_some,unOp_not,asB_bool]
  cases h2:classAtM c.Pool c.Super with
  | false=>simp
  | true=>
   simp only [Bool.not_true,cond_false,fa_ptr,ld_in0 h,ld_cls h,m3,Option.bind_some,Bool.true_and]
   rw [cls_call (c46 c hf.ok _ w3)]
   simp only [Option.bind_some,fa_ptr,ld_in0 h,ld_cls h,m2]
   rw [cls_call (c46 c hf.ok _ w2)]
   simp only [Option.bind_some,bS_eql,asB_bool,nm_class h1,nm_class h2]
   by_cases e:classM c.Pool c.Super=classM c.Pool c.Name
   ·simp [e]
   ·simp only [e,decide_false,cond_false,Bool.not_false,Bool.true_and,fa_ptr,ld_in0 h,m4,Option.bind_some,lnL_list,List.length_map]
    obtain ⟨H',e2⟩:=c41_4 c hf w h2 0 (by omega) _ h (by simp)
    simp only [List.drop_zero,List.take_zero,Int.natCast_zero] at e2
    rw [e2]
    simp
theorem c79 (c:SClass) (w:PoolOk c.Pool) (g f:SField) (wg:g.wf) (wf:f.wf) (H:Heap) (b q:Nat) (hb:getBlk H b=some [c.row]) (hq:getBlk H q=some [f.row]):ent E 79 [g.d,.ptr b 0 0,.ptr q 0 0] H=some (.bool (decide (nmM c.Pool g.Name=nmM c.Pool f.Name)),H++[some [g.row]]):=by
 rw [e79,alloc_eq _ _ _ rfl]
 have hb':getBlk (H++[some [g.row]]) b=some [c.row]:=getBlk_app hb
 have hq':getBlk (H++[some [g.row]]) q=some [f.row]:=getBlk_app hq
 have hg:getBlk (H++[some [g.row]]) H.length=some [g.row]:=getBlk_self _ _ []
 have r1:∀ x:SField,x.row[0 + 1]? = some (.int .i64 x.Name):=fun x=>rfl
 rw [show D.cells g.d=g.row from rfl]
 simp only [ld_cls hb',Option.bind_some,fa_ptr,ld_in0 hg,r1]
 rw [cls_call (c46 c w g.Name wg.2.1)]
 simp only [Option.bind_some,ld_cls hb',fa_ptr,ld_in0 hq',r1]
 rw [cls_call (c46 c w f.Name wf.2.1)]
 simp only [Option.bind_some,bS_eql,ret_one]
theorem c42 (c:SClass) (hf:Fine c.Pool) (w:c.wf) (i:Nat) (hi:i < c.Fields.length) (hp:∀ g ∈ c.Fields.take i,nameOk (textM c.Pool g.Name)=true):run E (exec E) false 42 [c.d,.int .i64 i]=some (.bool (fieldM c c.Fields[i] && !(c.Fields.take i).any (fun g=>decide (textM c.Pool g.Name=textM c.Pool (c.Fields[i]).Name)))):=by
 have h:getBlk ([some [c.row]]:Heap) 0=some [c.row]:=rfl
 have m5:c.row[0 + 5]? = some (.list (c.Fields.map SField.row)):=rfl
 have m0:c.row[0 + 0]? = some (.list (c.Pool.map SConst.row)):=rfl
 obtain ⟨w1,w2⟩:=w.2.2.2.2.2.1
 have wx:=w2 _ (List.getElem_mem hi)
 have hia:=fun H:Heap=>ia_row (row:=SField.row) (esz:=3) (fun x=>rfl) (H:=H) hi
 rw [run_ent,e42,alloc_eq _ _ _ rfl]
 rw [show ([]:Heap)++[some [D.cells c.d]]=[some [c.row]] from rfl,show ([]:Heap).length=0 from rfl]
 simp only [fa_ptr,Option.bind_some,ld_in0 h,m5,hia,ld_el]
 generalize c.Fields[i]=f at *
 simp only [show part f.row (0,3,true)=some f.d from rfl,Option.bind_some]
 rw [alloc_eq _ _ _ rfl,put_loc (z:=3) _ [.int .i64 0,.int .i64 0,.int .i64 0] f.row rfl rfl rfl]
 simp only [Option.bind_some]
 rw [j42_2]
 have hF:∀ H,callFn E (exec E) .pure 74 [c.d] H=some (.bool (bit c.Flags 0),H):=fun H=>cls1_call (c74 c)
 have hb:∀ K:Heap,getBlk ([some [c.row]]++[some [f.row]]++K:Heap) 0=some [c.row]:=fun K=>getBlk_app (getBlk_app h)
 have hq:∀ K:Heap,getBlk ([some [c.row]]++[some [f.row]]++K:Heap) ([some [c.row]]:Heap).length=some [f.row]:=fun K=>getBlk_app (getBlk_self _ _ [])
 generalize ([some [c.row]]++[some [f.row]]:Heap)=H at *
 generalize ([some [c.row]]:Heap).length=q at *
 have hb0:getBlk H 0=some [c.row]:=by simpa using hb []
 have hq0:getBlk H q=some [f.row]:=by simpa using hq []
 have r0:f.row[0 + 0]? = some (.int .i64 f.Flags):=rfl
 have r1:f.row[0 + 1]? = some (.int .i64 f.Name):=rfl
 have r2:f.row[0 + 2]? = some (.int .i64 f.Typ):=rfl
 simp only [fa_ptr,ld_in0 hb0,ld_in0 hq0,m0,r1,Option.bind_some,call_raw]
 rw [c75 c.Pool hf.ok f.Name wx.2.1 76 [] nameOk (fun s H hs=>str_call (c76 s hs)) H]
 simp only [Option.bind_some,unOp_not,asB_bool,nameAt_text nameOk_nil,fieldM]
 cases k1:nameOk (textM c.Pool f.Name) with
 | false=>simp
 | true=>
  simp only [Bool.not_true,cond_false,fa_ptr,ld_in0 (hb _),ld_in0 (hq _),m0,r2,Option.bind_some,call_raw,Bool.true_and]
  rw [c75 c.Pool hf.ok f.Typ wx.2.2 77 [] typeOk (fun s H hs=>str_call (c77 s hs)) _]
  simp only [Option.bind_some,unOp_not,asB_bool,nameAt_text typeOk_nil]
  cases k2:typeOk (textM c.Pool f.Typ) with
  | false=>simp
  | true=>
   rw [List.append_assoc]
   simp only [Bool.not_true,cond_false,fa_ptr,ld_in0 (hb _),ld_in0 (hq _),ld_cls (hb _),r0,m5,Option.bind_some,within_call,unOp_not,asB_bool,Bool.true_and]
   cases k3:inR f.Flags 0 3 with
   | false=>simp
   | true=>
    simp only [Bool.not_true,cond_false,hF,Option.bind_some,asB_bool,Bool.true_and,fa_ptr,ld_in0 (hb _),ld_in0 (hq _),r0,m5,bI_neq]
    rw [slL_to (n:=(i:Int)) (by omega) (by simp; omega) (by cases hq:c.Fields <;> simp [rowsFit])]
    simp only [Option.bind_some,call_raw,Int.toNat_natCast,← List.map_take]
    obtain ⟨K',e⟩:=c78 (c.Fields.take i) (by simp; omega) 79 [.ptr 0 0 0,.ptr q 0 0] (fun g=>decide (nmM c.Pool g.Name=nmM c.Pool f.Name)) (H++([some [(cAt c.Pool f.Name).row]]++[some [(cAt c.Pool f.Typ).row]])) (fun g hg K=>⟨K++[some [g.row]],by
     have:=c79 c hf.ok g f (w2 g (List.mem_of_mem_take hg)) wx (H++([some [(cAt c.Pool f.Name).row]]++[some [(cAt c.Pool f.Typ).row]])++K) 0 q (getBlk_app (hb _)) (getBlk_app (hq _))
     rw [List.append_assoc (H++_) K] at this
     exact this⟩)
    rw [e]
    rw [any_congr' (q:=fun g=>decide (textM c.Pool g.Name=textM c.Pool f.Name)) (fun g hg=>by rw [nm_text nameOk_nil (hp g hg),nm_text nameOk_nil k1])]
    cases k4:bit c.Flags 0 <;> by_cases k5:f.Flags=1 <;> simp [k5]
end Go.Ev.YtmpfooibdekppaaGreatDoor
namespace Go.Ev.YtmpfooibdekppaaGreatDoor
set_option linter.unusedVariables false
set_option linter.unusedSimpArgs false
set_option linter.unusedSectionVars false
set_option linter.defProp false
set_option maxHeartbeats 1000000
open Go.Ev
theorem two_vars (G:Heap) (a b v w:D) (ha:a.isCell=true) (hb:b.isCell=true) (hv:v.cells=[v]) (hw:w.cells=[w]) (hvc:v.isCell=true) (hwc:w.isCell=true) (k:D→D→Heap→R) :
  (alloc_ G [a] fun p1 H1=>alloc_ H1 [b] fun p2 H2=>(st 1 H2 p1 v).bind fun H3=>(st 1 H3 p2 w).bind fun H4=>k p1 p2 H4)=k (.ptr G.length 0 0) (.ptr (G.length + 1) 0 0) (G++[some [[v]],some [[w]]]):=by
 rw [alloc_eq _ _ _ (by simp [ha]),alloc_eq _ _ _ (by simp [hb])]
 rw [show G++[some [[a]]]++[some [[b]]]=G++some [[a]] :: [some [[b]]] by simp,st_loc (z:=1) G [a] [some [[b]]] 0 v (by rw [hv]; rfl) (by rw [hv]; simp [hvc]) (by simp)]
 simp only [Option.bind_some,hv]
 rw [show G++some [[a].take 0++[v]++[a].drop (0 + 1)] :: [some [[b]]]=G++[some [[v]]]++[some [[b]]] by simp,show (G++[some [[a]]]).length=(G++[some [[v]]]).length by simp,put_sc _ _ _ hw hwc]
 simp
theorem c82 (c:SClass) (w:PoolOk c.Pool) (n:SMethod) (wn:n.wf) (s t:List UInt8) (H:Heap) (b p q:Nat) (hb:getBlk H b=some [c.row]) (hp:getBlk H p=some [[.str s]]) (hq:getBlk H q=some [[.str t]]):ent E 82 [n.d,.ptr b 0 0,.ptr p 0 0,.ptr q 0 0] H=some (.bool (decide (nmM c.Pool n.Name=s) && decide (nmM c.Pool n.Desc=t)),H++[some [n.row]]):=by
 rw [e82,alloc_eq _ _ _ rfl]
 have hb':getBlk (H++[some [n.row]]) b=some [c.row]:=getBlk_app hb
 have hp':getBlk (H++[some [n.row]]) p=some [[.str s]]:=getBlk_app hp
 have hq':getBlk (H++[some [n.row]]) q=some [[.str t]]:=getBlk_app hq
 have hg:getBlk (H++[some [n.row]]) H.length=some [n.row]:=getBlk_self _ _ []
 have r1:n.row[0 + 1]? = some (.int .i64 n.Name):=rfl
 have r2:n.row[0 + 2]? = some (.int .i64 n.Desc):=rfl
 rw [show D.cells n.d=n.row from rfl]
 simp only [ld_cls hb',Option.bind_some,fa_ptr,ld_in0 hg,r1]
 rw [cls_call (c46 c w n.Name wn.2.1)]
 simp only [Option.bind_some,ld_0 hp',show [D.str s][0]? = some (.str s) from rfl,bS_eql,asB_bool]
 by_cases e:nmM c.Pool n.Name=s
 ·simp only [e,decide_true,cond_true,ld_cls hb',Option.bind_some,fa_ptr,ld_in0 hg,r2,Bool.true_and]
  rw [cls_call (c46 c w n.Desc wn.2.2.1)]
  simp only [Option.bind_some,ld_0 hq',show [D.str t][0]? = some (.str t) from rfl,bS_eql,ret_one]
 ·simp only [e,decide_false,cond_false,ret_one,Bool.false_and]
theorem c43 (c:SClass) (hf:Fine c.Pool) (w:c.wf) (i:Nat) (hi:i < c.Methods.length) (hp:∀ g ∈ c.Methods.take i,nameOk (textM c.Pool g.Name)=true∧isDescM (textM c.Pool g.Desc)=true):run E (exec E) false 43 [c.d,.int .i64 i]=some (.bool (methodM c c.Methods[i] && !(c.Methods.take i).any (fun n=>decide (textM c.Pool n.Name=textM c.Pool (c.Methods[i]).Name) && decide (textM c.Pool n.Desc=textM c.Pool (c.Methods[i]).Desc)))):=by
 have h:getBlk ([some [c.row]]:Heap) 0=some [c.row]:=rfl
 have m6:c.row[0 + 6]? = some (.list (c.Methods.map SMethod.row)):=rfl
 have m0:c.row[0 + 0]? = some (.list (c.Pool.map SConst.row)):=rfl
 have mf:c.row[0 + 1]? = some (.int .i64 c.Flags):=rfl
 obtain ⟨w1,w2⟩:=w.2.2.2.2.2.2
 have wx:=w2 _ (List.getElem_mem hi)
 have hia:=fun H:Heap=>ia_row (row:=SMethod.row) (esz:=8) (fun x=>rfl) (H:=H) hi
 rw [run_ent,e43,alloc_eq _ _ _ rfl]
 rw [show ([]:Heap)++[some [D.cells c.d]]=[some [c.row]] from rfl,show ([]:Heap).length=0 from rfl]
 simp only [fa_ptr,Option.bind_some,ld_in0 h,m6,hia,ld_el]
 generalize c.Methods[i]=m at *
 simp only [show part m.row (0,8,true)=some m.d from rfl,Option.bind_some]
 rw [alloc_eq _ _ _ rfl,put_loc (z:=8) _ [.int .i64 0,.int .i64 0,.int .i64 0,.int .i64 0,.int .i64 0,.str [],.sl0,.sl0] m.row rfl rfl rfl]
 have hF:∀ H,callFn E (exec E) .pure 74 [c.d] H=some (.bool (bit c.Flags 0),H):=fun H=>cls1_call (c74 c)
 have hA:∀ H,callFn E (exec E) .pure 44 [.int .i64 m.Flags] H=some (.bool (isAbs m.Flags),H):=fun H=>int_call (c44 m.Flags)
 have hN1:∀ H,callFn E (exec E) .pure 46 [c.d,.int .i64 m.Name] H=some (.str (nmM c.Pool m.Name),H):=fun H=>cls_call (c46 c hf.ok m.Name wx.2.1)
 have hN2:∀ H,callFn E (exec E) .pure 46 [c.d,.int .i64 m.Desc] H=some (.str (nmM c.Pool m.Desc),H):=fun H=>cls_call (c46 c hf.ok m.Desc wx.2.2.1)
 have hb:∀ K:Heap,getBlk ([some [c.row]]++[some [m.row]]++K:Heap) 0=some [c.row]:=fun K=>getBlk_app (getBlk_app h)
 have hq:∀ K:Heap,getBlk ([some [c.row]]++[some [m.row]]++K:Heap) ([some [c.row]]:Heap).length=some [m.row]:=fun K=>getBlk_app (getBlk_self _ _ [])
 generalize ([some [c.row]]++[some [m.row]]:Heap)=H at *
 generalize ([some [c.row]]:Heap).length=q at *
 have hb0:getBlk H 0=some [c.row]:=by simpa using hb []
 have hq0:getBlk H q=some [m.row]:=by simpa using hq []
 have r0:m.row[0 + 0]? = some (.int .i64 m.Flags):=rfl
 have r1:m.row[0 + 1]? = some (.int .i64 m.Name):=rfl
 have r2:m.row[0 + 2]? = some (.int .i64 m.Desc):=rfl
 simp only [Option.bind_some,fa_ptr,ld_in0 hb0,ld_in0 hq0,m0,r1,call_raw]
 rw [c75 c.Pool hf.ok m.Name wx.2.1 76 [] nameOk (fun s H hs=>str_call (c76 s hs)) H]
 simp only [Option.bind_some,unOp_not,asB_bool,nameAt_text nameOk_nil,methodM]
 cases k1:nameOk (textM c.Pool m.Name) with
 | false=>simp
 | true=>
  simp only [Bool.not_true,cond_false,fa_ptr,ld_in0 (hb _),ld_in0 (hq _),m0,r2,Option.bind_some,call_raw,Bool.true_and]
  rw [c75 c.Pool hf.ok m.Desc wx.2.2.1 80 [] isDescM (fun s H hs=>str_call (c80 s hs)) _]
  simp only [Option.bind_some,unOp_not,asB_bool,nameAt_text isDescM_nil]
  cases k2:isDescM (textM c.Pool m.Desc) with
  | false=>simp
  | true=>
   rw [List.append_assoc]
   simp only [Bool.not_true,cond_false,fa_ptr,ld_in0 (hb _),ld_in0 (hq _),ld_cls (hb _),r0,Option.bind_some,within_call,unOp_not,asB_bool,Bool.true_and,mflagsM]
   cases k3:inR m.Flags 0 15 with
   | false=>simp
   | true=>
    simp only [Bool.not_true,cond_false,Bool.true_and,fa_ptr,ld_in0 (hb _),ld_in0 (hq _),ld_cls (hb _),r1,r2,Option.bind_some,hN1,hN2]
    rw [two_vars _ _ _ _ _ rfl rfl rfl rfl rfl rfl]
    rw [nm_text nameOk_nil k1,nm_text isDescM_nil k2]
    have gb:∀ K:Heap,getBlk (H++([some [(cAt c.Pool m.Name).row]]++[some [(cAt c.Pool m.Desc).row]])++[some [[D.str (textM c.Pool m.Name)]],some [[D.str (textM c.Pool m.Desc)]]]++K) 0=some [c.row]:=fun K=>getBlk_app (getBlk_app (hb _))
    have gq:∀ K:Heap,getBlk (H++([some [(cAt c.Pool m.Name).row]]++[some [(cAt c.Pool m.Desc).row]])++[some [[D.str (textM c.Pool m.Name)]],some [[D.str (textM c.Pool m.Desc)]]]++K) q=some [m.row]:=fun K=>getBlk_app (getBlk_app (hq _))
    have g1:∀ K:Heap,getBlk (H++([some [(cAt c.Pool m.Name).row]]++[some [(cAt c.Pool m.Desc).row]])++[some [[D.str (textM c.Pool m.Name)]],some [[D.str (textM c.Pool m.Desc)]]]++K) (H++([some [(cAt c.Pool m.Name).row]]++[some [(cAt c.Pool m.Desc).row]])).length=some [[D.str (textM c.Pool m.Name)]]:=fun K=>getBlk_app (getBlk_self _ _ _)
    have g2:∀ K:Heap,getBlk (H++([some [(cAt c.Pool m.Name).row]]++[some [(cAt c.Pool m.Desc).row]])++[some [[D.str (textM c.Pool m.Name)]],some [[D.str (textM c.Pool m.Desc)]]]++K) ((H++([some [(cAt c.Pool m.Name).row]]++[some [(cAt c.Pool m.Desc).row]])).length + 1)=some [[D.str (textM c.Pool m.Desc)]]:=fun K=>getBlk_app (by
     have:=getBlk_self (H++([some [(cAt c.Pool m.Name).row]]++[some [(cAt c.Pool m.Desc).row]])++[some [[D.str (textM c.Pool m.Name)]]]) [[D.str (textM c.Pool m.Desc)]] []
     simpa using this)
    generalize H++([some [(cAt c.Pool m.Name).row]]++[some [(cAt c.Pool m.Desc).row]])++[some [[D.str (textM c.Pool m.Name)]],some [[D.str (textM c.Pool m.Desc)]]]=G at *
    generalize (H++([some [(cAt c.Pool m.Name).row]]++[some [(cAt c.Pool m.Desc).row]])).length=p at *
    have gb0:getBlk G 0=some [c.row]:=by simpa using gb []
    have gq0:getBlk G q=some [m.row]:=by simpa using gq []
    have g10:getBlk G p=some [[D.str (textM c.Pool m.Name)]]:=by simpa using g1 []
    have g20:getBlk G (p + 1)=some [[D.str (textM c.Pool m.Desc)]]:=by simpa using g2 []
    have hsl:∀ H:Heap,slL 8 H (.list (c.Methods.map SMethod.row)) none (some (.int .i64 i)) none=some (.list ((c.Methods.take i).map SMethod.row)):=by
     intro H
     rw [slL_to (n:=(i:Int)) (by omega) (by simp; omega) (by cases hq:c.Methods <;> simp [rowsFit])]
     simp only [Int.toNat_natCast,← List.map_take]
    obtain ⟨K',e⟩:=c81 (c.Methods.take i) (by simp; omega) 82 [.ptr 0 0 0,.ptr p 0 0,.ptr (p + 1) 0 0] (fun n=>decide (nmM c.Pool n.Name=textM c.Pool m.Name) && decide (nmM c.Pool n.Desc=textM c.Pool m.Desc)) G (fun n hn K=>⟨K++[some [n.row]],by
     have:=c82 c hf.ok n (w2 n (List.mem_of_mem_take hn)) _ _ (G++K) 0 p (p + 1) (gb _) (g1 _) (g2 _)
     rw [List.append_assoc G K] at this
     exact this⟩)
    rw [any_congr' (q:=fun n=>decide (textM c.Pool n.Name=textM c.Pool m.Name) && decide (textM c.Pool n.Desc=textM c.Pool m.Desc)) (fun n hn=>by rw [nm_text nameOk_nil (hp n hn).1,nm_text isDescM_nil (hp n hn).2])] at e
    simp only [readA_int,readA_bool,readA_str,readA_list,readA_sl0,readA_sl,readA_agg,readA_tup,fa_ptr,ld_in0 gb0,ld_in0 gq0,ld_cls gb0,ld_0 g10,ld_0 g20,r0,mf,m6,hsl,hA,hF,Option.bind_some,asB_bool,unOp_not,bI_neq,bI_eql,bI_and4,bit_eq,bS_eql,bS_neq,call_raw,e,List.getElem?_cons_zero,bit_abs,ret_one,readT_bool]
    rw [show ([98,101,103,105,110]:List UInt8)=beginS from rfl,show ([40,41,86]:List UInt8)=voidS from rfl]
    generalize (c.Methods.take i).any (fun n=>decide (textM c.Pool n.Name=textM c.Pool m.Name) && decide (textM c.Pool n.Desc=textM c.Pool m.Desc))=q1
    generalize decide (textM c.Pool m.Name=beginS)=q2
    generalize decide (textM c.Pool m.Desc=voidS)=q3
    generalize decide (m.Flags=8)=q4
    generalize decide (m.Flags=1)=q5
    generalize bit c.Flags 2=q6
    generalize bit c.Flags 0=q7
    generalize isAbs m.Flags=q8
    cases q8 <;> cases q7 <;> cases q6 <;> cases q5 <;> cases q4 <;> cases q3 <;> cases q2 <;> simp only [readA_int,readA_bool,readA_str,readA_list,readA_sl0,readA_sl,readA_agg,readA_tup,Bool.not_true,Bool.not_false,cond_true,cond_false,Option.bind_some,readT_bool,Bool.and_true,Bool.and_false,Bool.true_and,Bool.false_and,Bool.or_true,Bool.or_false,Bool.true_or,Bool.false_or,if_true,if_false,Bool.false_eq_true]
theorem c141 (x:SIns) (n:Int) (H:Heap) (b:Nat) (hb:getBlk H b=some [[.int .i64 n]]):ent E 141 [x.d,.ptr b 0 0] H=some (.bool (decide (x.At=n)),H++[some [x.row]]):=by
 rw [e141,alloc_eq _ _ _ rfl,show D.cells x.d=x.row from rfl]
 have hb':getBlk (H++[some [x.row]]) b=some [[.int .i64 n]]:=getBlk_app hb
 have hg:getBlk (H++[some [x.row]]) H.length=some [x.row]:=getBlk_self _ _ []
 simp only [fa_ptr,Option.bind_some,ld_in0 hg,show x.row[0 + 0]? = some (.int .i64 x.At) from rfl,ld_0 hb',List.getElem?_cons_zero,bI_eql,ret_one]
theorem c87 (ops:List SIns) (hl:ops.length≤140737488351232) (n:Int):run E (exec E) false 87 [.list (ops.map SIns.row),.int .i64 n]=some (.int .i64 (opIdx ops n)):=by
 rw [run_ent,e87,alloc_eq _ _ _ rfl,show D.cells (.int .i64 n)=[.int .i64 n] from rfl]
 have hb:∀ K:Heap,getBlk (([]:Heap)++[some [[.int .i64 n]]]++K) ([]:Heap).length=some [[.int .i64 n]]:=fun K=>getBlk_app rfl
 obtain ⟨K',e⟩:=c140 ops hl 141 [.ptr ([]:Heap).length 0 0] (fun x=>decide (x.At=n)) (([]:Heap)++[some [[.int .i64 n]]]) (fun x hx K=>⟨K++[some [x.row]],by
  have:=c141 x n (([]:Heap)++[some [[.int .i64 n]]]++K) _ (hb _)
  rw [List.append_assoc _ K] at this
  exact this⟩)
 simp only [readA_int,readA_bool,readA_str,readA_list,readA_sl0,readA_sl,readA_agg,readA_tup,call_raw,e,Option.bind_some,ret_one,readT_int,opIdx]
theorem opAt_call (ops:List SIns) (hl:ops.length≤140737488351232) (n:Int) (H:Heap):callFn E (exec E) .pure 87 [.list (ops.map SIns.row),.int .i64 n] H=some (.int .i64 (opIdx ops n),H):=pure_call (by simp) (c87 ops hl n)
theorem c86 (op:Int):run E (exec E) false 86 [.int .i64 op]=some (.bool (inR op 14 18)):=by
 rw [run_ent,e86,within_call]
 simp
theorem c85 (op:Int):run E (exec E) false 85 [.int .i64 op]=some (.int .i64 (wantsM op)):=by
 rw [run_ent,e85]
 simp only [bI_eql,Option.bind_some,asB_bool,within_call,wantsM]
 by_cases h1:op=19
 ·simp [h1]
 by_cases h2:op=28
 ·simp [h2]
 by_cases h3:op=29
 ·simp [h3]
 simp only [h1,h2,h3,decide_false,cond_false,or_self,if_false]
 cases k1:inR op 20 23 with
 | true=>simp
 | false=>
  simp only [cond_false,Bool.false_eq_true,if_false]
  cases k2:inR op 24 26 with
  | true=>simp
  | false=>
   by_cases h4:op=27
   ·simp [h4]
   ·simp [h4]
theorem c143 (c:SClass) (hf:Fine c.Pool) (k:SKind) (wk:k.wf) (H:Heap) (b:Nat) (hb:getBlk H b=some [c.row]):ent E 143 [k.d,.ptr b 0 0] H=some (.bool (!kindM c k),H++[some [k.row]]):=by
 rw [e143,alloc_eq _ _ _ rfl,show D.cells k.d=k.row from rfl]
 have hb':getBlk (H++[some [k.row]]) b=some [c.row]:=getBlk_app hb
 have hg:getBlk (H++[some [k.row]]) H.length=some [k.row]:=getBlk_self _ _ []
 have r0:k.row[0 + 0]? = some (.int .i64 k.Tag):=rfl
 have r1:k.row[0 + 1]? = some (.int .i64 k.Class):=rfl
 have hC:∀ H,callFn E (exec E) .pure 71 [c.d,.int .i64 k.Class] H=some (.bool (classAtM c.Pool k.Class),H):=fun H=>cls_call (c71 c hf k.Class wk.2)
 simp only [fa_ptr,Option.bind_some,ld_in0 hg,ld_cls hb',r0,r1,bI_eql,bI_neq,asB_bool,hC,unOp_not,kindM]
 by_cases h:k.Tag=3
 ·cases hc:classAtM c.Pool k.Class <;> simp [h]
 ·simp [h]
theorem not_any_not {α:Type} (p:α→Bool):∀ l:List α,(!l.any fun x=>!p x)=l.all p
 | []=>rfl
 | x :: l=>by simp only [List.any_cons,List.all_cons,Bool.not_or,Bool.not_not,not_any_not p l]
theorem c89 (c:SClass) (hf:Fine c.Pool) (l:List SKind) (hl:l.length≤140737488351232) (wl:∀ k ∈ l,k.wf):run E (exec E) false 89 [c.d,.list (l.map SKind.row)]=some (.bool (l.all (kindM c))):=by
 have h:getBlk ([some [c.row]]:Heap) 0=some [c.row]:=rfl
 rw [run_ent,e89,alloc_eq _ _ _ rfl]
 rw [show ([]:Heap)++[some [D.cells c.d]]=[some [c.row]] from rfl,show ([]:Heap).length=0 from rfl]
 obtain ⟨K',e⟩:=c142 l hl 143 [.ptr 0 0 0] (fun k=>!kindM c k) [some [c.row]] (fun k hk K=>⟨K++[some [k.row]],by
  have:=c143 c hf k (wl k hk) ([some [c.row]]++K) 0 (getBlk_app h)
  rw [List.append_assoc _ K] at this
  exact this⟩)
 simp only [readA_int,readA_bool,readA_str,readA_list,readA_sl0,readA_sl,readA_agg,readA_tup,call_raw,e,Option.bind_some,unOp_not,ret_one,readT_bool,not_any_not]
theorem kinds_call (c:SClass) (hf:Fine c.Pool) (l:List SKind) (hl:l.length≤140737488351232) (wl:∀ k ∈ l,k.wf) (H:Heap):callFn E (exec E) .pure 89 [c.d,.list (l.map SKind.row)] H=some (.bool (l.all (kindM c)),H):=pure_call (by simp [SClass.readD]) (c89 c hf l hl wl)
end Go.Ev.YtmpfooibdekppaaGreatDoor
namespace Go.Ev.YtmpfooibdekppaaGreatDoor
set_option linter.unusedVariables false
set_option linter.unusedSimpArgs false
set_option linter.unusedSectionVars false
set_option linter.defProp false
set_option maxHeartbeats 1000000
open Go.Ev
section
variable (c:SClass) (hf:Fine c.Pool) (m:SMethod) (wm:m.wf) (ops:List SIns) (ho:ops.length≤140737488351232)
include hf wm ho
theorem c45_25:∀ i,i≤m.Frames.length→∀ (b:Int) (H:Heap),getBlk H 0=some [c.row]→getBlk H 1=some [m.row]→∃ H',J E 45 25 [.ptr 0 0 0,.ptr 1 0 0,.list (ops.map SIns.row),.int .i64 b,.list (m.Frames.map SFrame.row),.int .i64 m.Frames.length,.int .i64 i] H=some (.bool (framesGo c m ops b (m.Frames.drop i)),H'):=by
 obtain ⟨-,-,-,-,-,-,-,w1,w2⟩:=wm
 have m3:m.row[0 + 3]? = some (.int .i64 m.Deep):=rfl
 have m4:m.row[0 + 4]? = some (.int .i64 m.Locals):=rfl
 apply loop_up
 ·intro b H h0 h1
  rw [j45_25]
  simp only [bI_lss,Int.lt_irrefl,decide_false,Option.bind_some,asB_bool,cond_false,List.drop_length,ret_one,framesGo]
  exact ⟨H,rfl⟩
 ·intro i hi ih b H h0 h1
  have hlt:((i:Nat):Int) < (m.Frames.length:Int):=by omega
  have wx:=w2 _ (List.getElem_mem hi)
  have hia:=fun H:Heap=>ia_row (row:=SFrame.row) (esz:=3) (fun x=>rfl) (H:=H) hi
  rw [List.drop_eq_getElem_cons hi]
  rw [j45_25]
  simp only [bI_lss,hlt,decide_true,Option.bind_some,asB_bool,cond_true,hia,ld_el]
  generalize m.Frames[i]=f at *
  simp only [show part f.row (0,3,true)=some f.d from rfl,Option.bind_some]
  rw [alloc_eq _ _ _ rfl,put_loc (z:=3) H [.int .i64 0,.sl0,.sl0] f.row rfl rfl rfl]
  simp only [Option.bind_some]
  rw [j45_27]
  have g0:getBlk (H++[some [f.row]]) 0=some [c.row]:=getBlk_app h0
  have g1:getBlk (H++[some [f.row]]) 1=some [m.row]:=getBlk_app h1
  have gf:getBlk (H++[some [f.row]]) H.length=some [f.row]:=getBlk_self _ _ []
  have r0:f.row[0 + 0]? = some (.int .i64 f.At):=rfl
  have r1:f.row[0 + 1]? = some (.list (f.Locals.map SKind.row)):=rfl
  have r2:f.row[0 + 2]? = some (.list (f.Stack.map SKind.row)):=rfl
  simp only [fa_ptr,ld_in0 gf,ld_in0 g1,ld_cls g0,r0,r1,r2,m3,m4,Option.bind_some,opAt_call ops ho,bI_lss,opIdx_has,asB_bool,bI_leq,bI_neq,bI_gtr,lnL_list,List.length_map,kinds_call c hf f.Locals wx.2.1.1 wx.2.1.2,kinds_call c hf f.Stack wx.2.2.1 wx.2.2.2,unOp_not,framesGo]
  cases k1:opHas ops f.At with
  | false=>exact ⟨_,by simp only [Bool.not_false,cond_true,Bool.false_and]; rfl⟩
  | true=>
  by_cases k2:b < f.At
  ·by_cases k3:(f.Locals.length:Int)=m.Locals
   ·by_cases k4:(f.Stack.length:Int)≤m.Deep
    ·cases k5:f.Locals.all (kindM c) with
     | false=>exact ⟨_,by simp only [show ¬ f.At≤b by omega,k2,k3,k4,show ¬ m.Deep < (f.Stack.length:Int) by omega,decide_true,decide_false,Bool.not_true,Bool.not_false,cond_true,cond_false,Bool.true_and,Bool.false_and]; rfl⟩
     | true=>
      cases k6:f.Stack.all (kindM c) with
      | false=>exact ⟨_,by simp only [show ¬ f.At≤b by omega,k2,k3,k4,show ¬ m.Deep < (f.Stack.length:Int) by omega,decide_true,decide_false,Bool.not_true,Bool.not_false,cond_true,cond_false,Bool.true_and,Bool.false_and]; rfl⟩
      | true=>
       simp only [show ¬ f.At≤b by omega,k2,k3,k4,show ¬ m.Deep < (f.Stack.length:Int) by omega,decide_true,decide_false,Bool.not_true,Bool.not_false,cond_true,cond_false,Bool.true_and,bI_add]
       rw [wrap_i64 (n:=(i:Int) + 1) (by omega) (by omega)]
       simp only [Option.bind_some]
       rw [show (i:Int) + 1=((i + 1:Nat):Int) by omega]
       exact ih f.At _ g0 g1
    ·exact ⟨_,by simp only [show ¬ f.At≤b by omega,k2,k3,k4,show m.Deep < (f.Stack.length:Int) by omega,decide_true,decide_false,Bool.not_true,Bool.not_false,cond_true,cond_false,Bool.true_and,Bool.false_and]; rfl⟩
   ·exact ⟨_,by simp only [show ¬ f.At≤b by omega,k2,k3,decide_true,decide_false,Bool.not_true,Bool.not_false,cond_true,cond_false,Bool.true_and,Bool.false_and]; rfl⟩
  ·exact ⟨_,by simp only [show f.At≤b by omega,k2,decide_true,decide_false,Bool.not_true,Bool.not_false,cond_true,cond_false,Bool.true_and,Bool.false_and]; rfl⟩
theorem c45_18:∀ i,i≤m.Traps.length→∀ H:Heap,getBlk H 0=some [c.row]→getBlk H 1=some [m.row]→∃ H',J E 45 18 [.ptr 0 0 0,.ptr 1 0 0,.list (ops.map SIns.row),.list (m.Traps.map STrap.row),.int .i64 m.Traps.length,.int .i64 i] H=some (.bool ((m.Traps.drop i).all (trapM c m ops) && framesGo c m ops (-1) m.Frames),H'):=by
 have wm':=wm
 obtain ⟨-,-,-,-,-,-,⟨w1,w2⟩,-,-⟩:=wm
 have m5:m.row[0 + 5]? = some (.str m.Code):=rfl
 have m7:m.row[0 + 7]? = some (.list (m.Frames.map SFrame.row)):=rfl
 apply loop_up
 ·intro H h0 h1
  rw [j45_18]
  simp only [bI_lss,Int.lt_irrefl,decide_false,Option.bind_some,asB_bool,cond_false,List.drop_length,fa_ptr,ld_in0 h1,m7,lnL_list,List.length_map,List.all_nil,Bool.true_and]
  have:=c45_25 c hf m wm' ops ho 0 (by omega) (-1) H h0 h1
  simpa using this
 ·intro i hi ih H h0 h1
  have hlt:((i:Nat):Int) < (m.Traps.length:Int):=by omega
  have wx:=w2 _ (List.getElem_mem hi)
  have hia:=fun H:Heap=>ia_row (row:=STrap.row) (esz:=4) (fun x=>rfl) (H:=H) hi
  rw [List.drop_eq_getElem_cons hi,List.all_cons]
  rw [j45_18]
  simp only [bI_lss,hlt,decide_true,Option.bind_some,asB_bool,cond_true,hia,ld_el]
  generalize m.Traps[i]=t at *
  simp only [show part t.row (0,4,true)=some t.d from rfl,Option.bind_some]
  rw [alloc_eq _ _ _ rfl,put_loc (z:=4) H [.int .i64 0,.int .i64 0,.int .i64 0,.int .i64 0] t.row rfl rfl rfl]
  simp only [Option.bind_some]
  rw [j45_20]
  have g0:getBlk (H++[some [t.row]]) 0=some [c.row]:=getBlk_app h0
  have g1:getBlk (H++[some [t.row]]) 1=some [m.row]:=getBlk_app h1
  have gt:getBlk (H++[some [t.row]]) H.length=some [t.row]:=getBlk_self _ _ []
  have r0:t.row[0 + 0]? = some (.int .i64 t.From):=rfl
  have r1:t.row[0 + 1]? = some (.int .i64 t.To):=rfl
  have r2:t.row[0 + 2]? = some (.int .i64 t.At):=rfl
  have r3:t.row[0 + 3]? = some (.int .i64 t.Class):=rfl
  have hC:∀ H,callFn E (exec E) .pure 71 [c.d,.int .i64 t.Class] H=some (.bool (classAtM c.Pool t.Class),H):=fun H=>cls_call (c71 c hf t.Class wx.2.2.2)
  have hw:(IntKind.wrap .i64 ((i:Int) + 1))=((i + 1:Nat):Int):=by rw [wrap_i64 (by omega) (by omega)]; omega
  simp only [fa_ptr,ld_in0 gt,ld_in0 g1,ld_cls g0,r0,r1,r2,r3,m5,lnS_str,Option.bind_some,opAt_call ops ho,bI_lss,bI_geq,opIdx_has,asB_bool,bI_neq,hC,unOp_not,bI_add,hw,trapM]
  have nx:=ih _ g0 g1
  by_cases k1:t.From < t.To
  ·cases k2:opHas ops t.From with
   | false=>exact ⟨_,by simp only [show ¬ t.To≤t.From by omega,k1,decide_true,decide_false,Bool.not_true,Bool.not_false,cond_true,cond_false,Bool.true_and,Bool.false_and]; rfl⟩
   | true=>
   cases k3:opHas ops t.At with
   | false=>exact ⟨_,by simp only [show ¬ t.To≤t.From by omega,k1,decide_true,decide_false,Bool.not_true,Bool.not_false,cond_true,cond_false,Bool.true_and,Bool.false_and]; rfl⟩
   | true=>
   simp only [show ¬ t.To≤t.From by omega,k1,decide_true,decide_false,Bool.not_true,cond_false,Bool.true_and]
   cases k4:opHas ops t.To <;> by_cases k5:t.To=(m.Code.length:Int) <;> by_cases k6:t.Class=0 <;> cases k7:classAtM c.Pool t.Class <;>
    simp only [k5,k6,decide_true,decide_false,Bool.not_true,Bool.not_false,cond_true,cond_false,Bool.true_and,Bool.false_and,Bool.true_or,Bool.false_or,Bool.or_true,Bool.or_false] <;>
    first | exact nx | exact ⟨_,rfl⟩
  ·exact ⟨_,by simp only [show t.To≤t.From by omega,k1,decide_true,decide_false,cond_true,Bool.false_and]; rfl⟩
theorem c45_9 (hn:∀ x ∈ ops,i64 x.Num):∀ i,i≤ops.length→∀ H:Heap,getBlk H 0=some [c.row]→getBlk H 1=some [m.row]→∃ H',J E 45 9 [.ptr 0 0 0,.ptr 1 0 0,.list (ops.map SIns.row),.list (ops.map SIns.row),.int .i64 ops.length,.int .i64 i] H=some (.bool ((ops.drop i).all (insM c m ops) && (m.Traps.all (trapM c m ops) && framesGo c m ops (-1) m.Frames)),H'):=by
 have m0:c.row[0 + 0]? = some (.list (c.Pool.map SConst.row)):=rfl
 have m4:m.row[0 + 4]? = some (.int .i64 m.Locals):=rfl
 have m6:m.row[0 + 6]? = some (.list (m.Traps.map STrap.row)):=rfl
 apply loop_up
 ·intro H h0 h1
  rw [j45_9]
  simp only [bI_lss,Int.lt_irrefl,decide_false,Option.bind_some,asB_bool,cond_false,List.drop_length,fa_ptr,ld_in0 h1,m6,lnL_list,List.length_map,List.all_nil,Bool.true_and]
  have:=c45_18 c hf m wm ops ho 0 (by omega) H h0 h1
  simpa using this
 ·intro i hi ih H h0 h1
  have hlt:((i:Nat):Int) < (ops.length:Int):=by omega
  have wx:=hn _ (List.getElem_mem hi)
  have hia:=fun H:Heap=>ia_row (row:=SIns.row) (esz:=3) (fun x=>rfl) (H:=H) hi
  rw [List.drop_eq_getElem_cons hi,List.all_cons]
  rw [j45_9]
  simp only [bI_lss,hlt,decide_true,Option.bind_some,asB_bool,cond_true,hia,ld_el]
  generalize ops[i]=x at *
  simp only [show part x.row (0,3,true)=some x.d from rfl,Option.bind_some]
  rw [alloc_eq _ _ _ rfl,put_loc (z:=3) H [.int .i64 0,.int .i64 0,.int .i64 0] x.row rfl rfl rfl]
  have g0:getBlk (H++[some [x.row]]) 0=some [c.row]:=getBlk_app h0
  have g1:getBlk (H++[some [x.row]]) 1=some [m.row]:=getBlk_app h1
  have gx:getBlk (H++[some [x.row]]) H.length=some [x.row]:=getBlk_self _ _ []
  have r1:x.row[0 + 1]? = some (.int .i64 x.Op):=rfl
  have r2:x.row[0 + 2]? = some (.int .i64 x.Num):=rfl
  have hW:∀ H,callFn E (exec E) .pure 85 [.int .i64 x.Op] H=some (.int .i64 (wantsM x.Op),H):=fun H=>int_call (c85 x.Op)
  have hJ:∀ H,callFn E (exec E) .pure 86 [.int .i64 x.Op] H=some (.bool (inR x.Op 14 18),H):=fun H=>int_call (c86 x.Op)
  have hE:∀ H,callFn E (exec E) .pure 88 [.list (c.Pool.map SConst.row),.int .i64 x.Num] H=some ((cAt c.Pool x.Num).d,H):=fun H=>pool_call (c88 _ hf.ok x.Num wx)
  have hw:(IntKind.wrap .i64 ((i:Int) + 1))=((i + 1:Nat):Int):=by rw [wrap_i64 (by omega) (by omega)]; omega
  simp only [Option.bind_some,fa_ptr,ld_in0 gx,ld_in0 g1,ld_in0 g0,r1,r2,m0,m4,hW,hJ,hE,within_call,asB_bool,bI_geq,opAt_call ops ho,bI_lss,opIdx_has,bI_neq,fd_agg,show part (cAt c.Pool x.Num).row (0,1,false)=some (.int .i64 (cAt c.Pool x.Num).Kind) from rfl,j45_15,j45_16,bI_add,hw,ret_one,insM]
  have nx:=ih _ g0 g1
  have e1:decide (m.Locals≤x.Num)=decide (m.Locals≤x.Num):=rfl
  cases a1:inR x.Op 3 6 with
  | true=>
   have a2:inR x.Op 14 18=false:=by
    simp only [inR,Bool.and_eq_true,decide_eq_true_eq] at a1
    simp only [inR,Bool.and_eq_false_iff,decide_eq_false_iff_not]; omega
   have a3:wantsM x.Op=0:=by
    simp only [inR,Bool.and_eq_true,decide_eq_true_eq] at a1
    unfold wantsM inR
    have q1:¬ (20≤x.Op):=by omega
    have q2:¬ (24≤x.Op):=by omega
    simp [q1,q2]; omega
   cases a4:decide (m.Locals≤x.Num) with
   | true=>exact ⟨_,by simp only [cond_true,Bool.and_true,Bool.not_true,Bool.false_and]; rfl⟩
   | false=>
    simp only [a2,a3,cond_true,cond_false,decide_true,Bool.not_true,Bool.not_false,Bool.and_false,Bool.false_and,Bool.true_and,Bool.true_or,Bool.and_true]
    exact nx
  | false=>
   cases b1:inR x.Op 14 18 with
   | true=>
    have a3:wantsM x.Op=0:=by
     simp only [inR,Bool.and_eq_true,decide_eq_true_eq] at b1
     unfold wantsM inR
     have q1:¬ (20≤x.Op):=by omega
     have q2:¬ (24≤x.Op):=by omega
     simp [q1,q2]; omega
    cases b2:opHas ops x.Num with
    | false=>exact ⟨_,by simp only [cond_true,cond_false,Bool.not_true,Bool.not_false,Bool.false_and,Bool.true_and,Bool.and_true]; rfl⟩
    | true=>
     simp only [a3,cond_true,cond_false,decide_true,Bool.not_true,Bool.not_false,Bool.and_false,Bool.false_and,Bool.true_and,Bool.true_or,Bool.and_true]
     exact nx
   | false=>
    simp only [cond_true,cond_false,Bool.not_true,Bool.not_false,Bool.and_false,Bool.false_and,Bool.true_and,Bool.and_true]
    by_cases d1:wantsM x.Op=0
    ·simp only [d1,decide_true,Bool.not_true,cond_false,Bool.true_or,Bool.true_and]
     exact nx
    ·by_cases d2:(cAt c.Pool x.Num).Kind=wantsM x.Op
     ·simp only [d1,d2,decide_true,decide_false,Bool.not_true,Bool.not_false,cond_true,cond_false,Bool.or_true,Bool.true_and]
      exact nx
     ·exact ⟨_,by simp only [d1,d2,decide_false,Bool.not_false,cond_true,Bool.or_false,Bool.false_and]; rfl⟩
end
theorem opsGet_num {s:List UInt8} {ops:List SIns} (h:opsGet s=some ops):(∀ x ∈ ops,i64 x.Num)∧ops.length≤120:=by
 refine ⟨fun x hx=>?_,?_⟩
 ·have:=opsGet_fair h x hx
  exact ⟨by have:=this.2.1; omega,by have:=this.2.2; omega⟩
 ·unfold opsGet at h
  split at h
  ·rename_i e
   exact Nat.le_trans (opsGo_len h) e.2
  ·cases h
theorem c45 (c:SClass) (hf:Fine c.Pool) (m:SMethod) (wm:m.wf) (hd:isDescM (textM c.Pool m.Desc)=true):run E (exec E) false 45 [c.d,m.d]=some (.bool (codeM c m)):=by
 have h0:getBlk ([some [c.row],some [m.row]]:Heap) 0=some [c.row]:=rfl
 have h1:getBlk ([some [c.row],some [m.row]]:Heap) 1=some [m.row]:=rfl
 have r0:m.row[0 + 0]? = some (.int .i64 m.Flags):=rfl
 have r2:m.row[0 + 2]? = some (.int .i64 m.Desc):=rfl
 have r3:m.row[0 + 3]? = some (.int .i64 m.Deep):=rfl
 have r4:m.row[0 + 4]? = some (.int .i64 m.Locals):=rfl
 have r5:m.row[0 + 5]? = some (.str m.Code):=rfl
 have hN:∀ H,callFn E (exec E) .pure 46 [c.d,.int .i64 m.Desc] H=some (.str (nmM c.Pool m.Desc),H):=fun H=>cls_call (c46 c hf.ok m.Desc wm.2.2.1)
 have hO:∀ H,callFn E (exec E) .pure 83 [.str m.Code] H=some (resIns (opsGet m.Code),H):=fun H=>str_call (p83 m.Code)
 have hD:∀ H,callFn E (exec E) .pure 84 [.str (nmM c.Pool m.Desc)] H=some (.tup [.list ((dTakes (textM c.Pool m.Desc)).map rStr),.str (dBack (textM c.Pool m.Desc)),.bool (dOk (textM c.Pool m.Desc))],H):=fun H=>by
  rw [nm_text isDescM_nil hd,← descRes_eq]
  exact str_call ((c84 _ (textM_len hf.ok _)).run (by decide) false)
 have hl:=dTakes_len (textM c.Pool m.Desc)
 rw [run_ent,e45,alloc_eq _ _ _ rfl,alloc_eq _ _ _ rfl]
 rw [show ([]++[some [D.cells c.d]]++[some [D.cells m.d]]:Heap)=[some [c.row],some [m.row]] from rfl,show ([]:Heap).length=0 from rfl,show ([]++[some [D.cells c.d]]:Heap).length=1 from rfl]
 have key:∀ v:D×Bool,resIns (opsGet m.Code) = .tup [v.1,.bool v.2]→∃ H',J E 45 6 [.ptr 0 0 0,.ptr 1 0 0,v.1,.bool v.2,.int .i64 (needM c m)] [some [c.row],some [m.row]]=some (.bool (codeM c m),H'):=by
  intro v hv
  rw [j45_6]
  unfold codeM
  cases hg:opsGet m.Code with
  | none=>
   rw [hg] at hv
   simp only [resIns,D.tup.injEq,List.cons.injEq,D.bool.injEq,and_true] at hv
   exact ⟨_,by simp only [← hv.2,unOp_not,Bool.not_false,Option.bind_some,asB_bool,cond_true]; rfl⟩
  | some ops=>
   rw [hg] at hv
   simp only [resIns,D.tup.injEq,List.cons.injEq,D.bool.injEq,and_true] at hv
   obtain ⟨hn,ho⟩:=opsGet_num hg
   simp only [← hv.1,← hv.2,unOp_not,Bool.not_true,Option.bind_some,asB_bool,cond_false,fa_ptr,ld_in0 h1,r3,r4,bI_gtr,within_call]
   by_cases k1:m.Deep≤8
   ·cases k2:inR m.Locals (needM c m) 8 with
    | false=>exact ⟨_,by simp only [show ¬ 8 < m.Deep by omega,k1,decide_true,decide_false,cond_true,cond_false,Bool.not_false,Bool.true_and,Bool.false_and]; rfl⟩
    | true=>
     simp only [show ¬ 8 < m.Deep by omega,k1,decide_true,decide_false,cond_false,Bool.not_true,Bool.true_and,lnL_list,List.length_map,Option.bind_some]
     obtain ⟨H',e⟩:=c45_9 c hf m wm ops (by omega) hn 0 (by omega) _ h0 h1
     simp only [List.drop_zero,Int.natCast_zero] at e
     exact ⟨H',e⟩
   ·exact ⟨_,by simp only [show 8 < m.Deep by omega,k1,decide_true,decide_false,cond_true,Bool.false_and]; rfl⟩
 obtain ⟨v1,v2,hv⟩:∃ (a:D) (b:Bool),resIns (opsGet m.Code) = .tup [a,.bool b]:=by
  cases opsGet m.Code with
  | none=>exact ⟨_,_,rfl⟩
  | some l=>exact ⟨_,_,rfl⟩
 obtain ⟨H',e⟩:=key (v1,v2) hv
 simp only [fa_ptr,Option.bind_some,ld_in0 h1,ld_cls h0,r0,r2,r5,hO,hv,hN,hD,extract_tup,List.getElem?_cons_zero,List.getElem?_cons_succ,lnL_list,List.length_map,bI_and1,bI_eql,bit_eq,asB_bool,bI_add]
 cases hb:bit m.Flags 0 with
 | true=>
  simp only [Bool.not_true,cond_false]
  rw [show ((dTakes (textM c.Pool m.Desc)).length:Int)=needM c m by simp [needM,hb],e]
  simp
 | false=>
  simp only [Bool.not_false,cond_true]
  rw [wrap_i64 (by omega) (by omega)]
  try simp only [Option.bind_some]
  rw [show ((dTakes (textM c.Pool m.Desc)).length:Int) + 1=needM c m by simp [needM,hb],e]
  simp
section
variable (c:SClass) (hf:Fine c.Pool) (w:c.wf)
include hf w
theorem c20_20 (hd:∀ m ∈ c.Methods,isDescM (textM c.Pool m.Desc)=true):∀ i,i≤c.Methods.length→∀ H:Heap,getBlk H 0=some [c.row]→∃ H',J E 20 20 [.ptr 0 0 0,.list (c.Methods.map SMethod.row),.int .i64 c.Methods.length,.int .i64 i] H=some (.int .i64 (if (c.Methods.drop i).all (bodyM c)=false then 6 else 0),H'):=by
 obtain ⟨w1,w2⟩:=w.2.2.2.2.2.2
 apply loop_up
 ·intro H h0
  rw [j20_20]
  simp only [bI_lss,Int.lt_irrefl,decide_false,Option.bind_some,asB_bool,cond_false,List.drop_length,ret_one,List.all_nil]
  exact ⟨H,rfl⟩
 ·intro i hi ih H h0
  have hlt:((i:Nat):Int) < (c.Methods.length:Int):=by omega
  have wx:=w2 _ (List.getElem_mem hi)
  have dx:=hd _ (List.getElem_mem hi)
  have hia:=fun H:Heap=>ia_row (row:=SMethod.row) (esz:=8) (fun x=>rfl) (H:=H) hi
  rw [List.drop_eq_getElem_cons hi,List.all_cons]
  rw [j20_20]
  simp only [bI_lss,hlt,decide_true,Option.bind_some,asB_bool,cond_true,hia,ld_el]
  generalize c.Methods[i]=m at *
  simp only [show part m.row (0,8,true)=some m.d from rfl,Option.bind_some]
  rw [alloc_eq _ _ _ rfl,put_loc (z:=8) H [.int .i64 0,.int .i64 0,.int .i64 0,.int .i64 0,.int .i64 0,.str [],.sl0,.sl0] m.row rfl rfl rfl]
  have g0:getBlk (H++[some [m.row]]) 0=some [c.row]:=getBlk_app h0
  have gm:getBlk (H++[some [m.row]]) H.length=some [m.row]:=getBlk_self _ _ []
  have r0:m.row[0 + 0]? = some (.int .i64 m.Flags):=rfl
  have lm:ld true 8 (H++[some [m.row]]) (.ptr H.length 0 0)=some m.d:=ld_whole gm rfl
  have hA:∀ H,callFn E (exec E) .pure 44 [.int .i64 m.Flags] H=some (.bool (isAbs m.Flags),H):=fun H=>int_call (c44 m.Flags)
  have hC:∀ H,callFn E (exec E) .pure 45 [c.d,m.d] H=some (.bool (codeM c m),H):=fun H=>pure_call (by simp [SClass.readD,SMethod.readD]) (c45 c hf m wx dx)
  have hw:(IntKind.wrap .i64 ((i:Int) + 1))=((i + 1:Nat):Int):=by rw [wrap_i64 (by omega) (by omega)]; omega
  simp only [Option.bind_some,fa_ptr,ld_in0 gm,r0,hA,unOp_not,asB_bool,ld_cls g0,lm,hC,bI_add,hw,bodyM,bit_abs]
  have nx:=ih _ g0
  cases k1:isAbs m.Flags with
  | true=>
   simp only [Bool.not_true,cond_false,Bool.true_or,Bool.true_and]
   exact nx
  | false=>
   cases k2:codeM c m with
   | true=>
    simp only [Bool.not_true,Bool.not_false,cond_true,cond_false,Bool.false_or,Bool.true_and]
    exact nx
   | false=>exact ⟨_,by simp only [Bool.not_false,cond_true,Bool.false_or,Bool.false_and,if_true]; rfl⟩
theorem c20_14:∀ i,i≤c.Methods.length→∀ H:Heap,getBlk H 0=some [c.row]→(∀ g ∈ c.Methods.take i,nameOk (textM c.Pool g.Name)=true∧isDescM (textM c.Pool g.Desc)=true)→∃ H',J E 20 14 [.ptr 0 0 0,.int .i64 c.Methods.length,.int .i64 i] H=some (.int .i64 (if methodsGo c (c.Methods.take i) (c.Methods.drop i)=false then 5 else if c.Methods.all (bodyM c)=false then 6 else 0),H'):=by
 have m6:c.row[0 + 6]? = some (.list (c.Methods.map SMethod.row)):=rfl
 have w1:=w.2.2.2.2.2.2.1
 apply loop_up
 ·intro H h0 hp
  rw [j20_14]
  simp only [bI_lss,Int.lt_irrefl,decide_false,Option.bind_some,asB_bool,cond_false,List.drop_length,fa_ptr,ld_in0 h0,m6,lnL_list,List.length_map,methodsGo]
  rw [List.take_length] at hp
  have:=c20_20 c hf w (fun m hm=>(hp m hm).2) 0 (by omega) H h0
  simpa using this
 ·intro i hi ih H h0 hp
  have hlt:((i:Nat):Int) < (c.Methods.length:Int):=by omega
  have hnx:=take_next hi
  have hM:∀ H,callFn E (exec E) .pure 43 [c.d,.int .i64 i] H=some (.bool _,H):=fun H=>cls_call (c43 c hf w i hi hp)
  have hw:(IntKind.wrap .i64 ((i:Int) + 1))=((i + 1:Nat):Int):=by rw [wrap_i64 (by omega) (by omega)]; omega
  rw [List.drop_eq_getElem_cons hi]
  rw [j20_14]
  simp only [bI_lss,hlt,decide_true,Option.bind_some,asB_bool,cond_true,ld_cls h0,hM,unOp_not,bI_add,hw,methodsGo]
  obtain ⟨m,hm⟩:∃ m,c.Methods[i]=m:=⟨_,rfl⟩
  simp only [hm] at hnx ⊢
  cases k1:methodM c m with
  | false=>exact ⟨_,by simp only [Bool.false_and,Bool.not_false,cond_true,if_true]; rfl⟩
  | true=>
   cases k2:(c.Methods.take i).any (fun n=>decide (textM c.Pool n.Name=textM c.Pool m.Name) && decide (textM c.Pool n.Desc=textM c.Pool m.Desc)) with
   | true=>exact ⟨_,by simp only [Bool.not_true,Bool.and_false,Bool.false_and,Bool.not_false,cond_true,Bool.true_and,if_true]; rfl⟩
   | false=>
    simp only [Bool.not_false,Bool.and_true,Bool.not_true,cond_false,Bool.true_and]
    have k3:=k1
    simp only [methodM,Bool.and_eq_true] at k3
    have:=ih H h0 (by
     rw [hnx]
     intro g hg
     rcases List.mem_append.mp hg with hg | hg
     ·exact hp g hg
     ·rw [List.mem_singleton.mp hg]; exact ⟨k3.1,k3.2.1⟩)
    rw [hnx] at this
    exact this
theorem c20_8:∀ i,i≤c.Fields.length→∀ H:Heap,getBlk H 0=some [c.row]→(∀ g ∈ c.Fields.take i,nameOk (textM c.Pool g.Name)=true)→∃ H',J E 20 8 [.ptr 0 0 0,.int .i64 c.Fields.length,.int .i64 i] H=some (.int .i64 (if fieldsGo c (c.Fields.take i) (c.Fields.drop i)=false then 4 else if methodsGo c [] c.Methods=false then 5 else if c.Methods.all (bodyM c)=false then 6 else 0),H'):=by
 have m6:c.row[0 + 6]? = some (.list (c.Methods.map SMethod.row)):=rfl
 have w1:=w.2.2.2.2.2.1.1
 apply loop_up
 ·intro H h0 hp
  rw [j20_8]
  simp only [bI_lss,Int.lt_irrefl,decide_false,Option.bind_some,asB_bool,cond_false,List.drop_length,fa_ptr,ld_in0 h0,m6,lnL_list,List.length_map,fieldsGo]
  have:=c20_14 c hf w 0 (by omega) H h0 (by simp)
  simpa using this
 ·intro i hi ih H h0 hp
  have hlt:((i:Nat):Int) < (c.Fields.length:Int):=by omega
  have hnx:=take_next hi
  have hM:∀ H,callFn E (exec E) .pure 42 [c.d,.int .i64 i] H=some (.bool _,H):=fun H=>cls_call (c42 c hf w i hi hp)
  have hw:(IntKind.wrap .i64 ((i:Int) + 1))=((i + 1:Nat):Int):=by rw [wrap_i64 (by omega) (by omega)]; omega
  rw [List.drop_eq_getElem_cons hi]
  rw [j20_8]
  simp only [bI_lss,hlt,decide_true,Option.bind_some,asB_bool,cond_true,ld_cls h0,hM,unOp_not,bI_add,hw,fieldsGo]
  obtain ⟨f,hm⟩:∃ f,c.Fields[i]=f:=⟨_,rfl⟩
  simp only [hm] at hnx ⊢
  cases k1:fieldM c f with
  | false=>exact ⟨_,by simp only [Bool.false_and,Bool.not_false,cond_true,if_true]; rfl⟩
  | true=>
   cases k2:(c.Fields.take i).any (fun g=>decide (textM c.Pool g.Name=textM c.Pool f.Name)) with
   | true=>exact ⟨_,by simp only [Bool.not_true,Bool.and_false,Bool.false_and,Bool.not_false,cond_true,Bool.true_and,if_true]; rfl⟩
   | false=>
    simp only [Bool.not_false,Bool.and_true,Bool.not_true,cond_false,Bool.true_and]
    have k3:=k1
    simp only [fieldM,Bool.and_eq_true] at k3
    have:=ih H h0 (by
     rw [hnx]
     intro g hg
     rcases List.mem_append.mp hg with hg | hg
     ·exact hp g hg
     ·rw [List.mem_singleton.mp hg]; exact k3.1)
    rw [hnx] at this
    exact this
end
theorem fine_of {c:SClass} (w:c.wf) (h:poolCheck c.Pool=0):Fine c.Pool:=⟨w.1,poolGo_fine h⟩
theorem c20 (c:SClass) (w:c.wf) (hM:(pClass pTwo isAbs c).length≤4611686018427387904):run E (exec E) false 20 [c.d]=some (.int .i64 (classCheck c)):=by
 have h:getBlk ([some [c.row]]:Heap) 0=some [c.row]:=rfl
 have m0:c.row[0 + 0]? = some (.list (c.Pool.map SConst.row)):=rfl
 have m5:c.row[0 + 5]? = some (.list (c.Fields.map SField.row)):=rfl
 rw [run_ent,e20,alloc_eq _ _ _ rfl]
 rw [show ([]:Heap)++[some [D.cells c.d]]=[some [c.row]] from rfl,show ([]:Heap).length=0 from rfl]
 simp only [ld_cls h,Option.bind_some]
 rw [cls1_call (c39 c w hM)]
 simp only [Option.bind_some,bS_eql,asB_bool,classCheck]
 by_cases k1:filePut c=[]
 ·simp [k1]
 simp only [k1,decide_false,cond_false,if_false,fa_ptr,ld_in0 h,m0,Option.bind_some,checkM]
 rw [pure_call (ts:=[.list (c.Pool.map SConst.row)]) (by simp) (c40 _ w.1)]
 simp only [Option.bind_some,bI_neq,asB_bool]
 by_cases k2:poolCheck c.Pool=0
 ·have hf:=fine_of w k2
  simp only [k2,decide_true,Bool.not_true,cond_false,ne_eq,not_true_eq_false,if_false,ld_cls h,Option.bind_some]
  rw [cls1_call (c41 c hf w)]
  simp only [Option.bind_some,unOp_not,asB_bool]
  cases k3:headM c with
  | false=>simp
  | true=>
   simp only [Bool.not_true,cond_false,Bool.true_eq_false,if_false,fa_ptr,ld_in0 h,m5,Option.bind_some,lnL_list,List.length_map]
   obtain ⟨H',e⟩:=c20_8 c hf w 0 (by omega) _ h (by simp)
   simp only [List.drop_zero,List.take_zero,Int.natCast_zero] at e
   rw [e]
   simp
 ·simp [k2]
end Go.Ev.YtmpfooibdekppaaGreatDoor
namespace Go.Ev.YtmpfooibdekppaaGreatDoor
set_option linter.unusedVariables false
set_option linter.unusedSimpArgs false
set_option linter.unusedSectionVars false
set_option linter.defProp false
set_option maxHeartbeats 1000000
open Go.Ev
theorem has_of (n:Int) (i:Nat) (k:Int) (hk:k=((2 ^ i:Nat):Int)) (h:0≤n∧n≤255) (hi:i≤7):run E (exec E) false 103 [.int .i64 n,.int .i64 k]=some (.bool (bit n i)):=by
 have hp:(1:Int)≤((2 ^ i:Nat):Int):=by have:=Nat.two_pow_pos i; omega
 subst hk
 have hd:0≤n / ((2 ^ i:Nat):Int)∧n / ((2 ^ i:Nat):Int)≤255:=⟨Int.ediv_nonneg h.1 (by omega),Int.le_trans (Int.ediv_le_self _ h.1) h.2⟩
 rw [run_ent,e103,bI_quo _ _ _ (by omega),Int.tdiv_eq_ediv_of_nonneg h.1,wrap_i64 (by omega) (by omega)]
 simp only [Option.bind_some]
 rw [bI_rem _ _ _ (by decide),Int.tmod_eq_emod_of_nonneg hd.1]
 simp only [readA_int,readA_bool,readA_str,readA_list,readA_sl0,readA_sl,readA_agg,readA_tup,Option.bind_some,bI_eql,ret_one,readT_bool,bit]
theorem has1 (n:Int) (h:0≤n∧n≤255):run E (exec E) false 103 [.int .i64 n,.int .i64 1]=some (.bool (bit n 0)):=has_of n 0 1 rfl h (by decide)
theorem has2 (n:Int) (h:0≤n∧n≤255):run E (exec E) false 103 [.int .i64 n,.int .i64 2]=some (.bool (bit n 1)):=has_of n 1 2 rfl h (by decide)
theorem has4 (n:Int) (h:0≤n∧n≤255):run E (exec E) false 103 [.int .i64 n,.int .i64 4]=some (.bool (bit n 2)):=has_of n 2 4 rfl h (by decide)
theorem has8 (n:Int) (h:0≤n∧n≤255):run E (exec E) false 103 [.int .i64 n,.int .i64 8]=some (.bool (bit n 3)):=has_of n 3 8 rfl h (by decide)
theorem rInt_len (x:Int):(rInt x).length=1:=rfl
theorem drop_cons {α:Type} {l:List α} {i:Nat} (hi:i < l.length):l.drop i=l[i] :: l.drop (i + 1):=List.drop_eq_getElem_cons hi
theorem take_drop_cons {α:Type} {l:List α} {i k:Nat} (hk:k < i) (hi:i < l.length):(l.take i).drop k=l[k] :: (l.take i).drop (k + 1):=by
 rw [List.drop_eq_getElem_cons (by simp; omega)]; simp
theorem take_drop_nil {α:Type} {l:List α} {i:Nat}:(l.take i).drop i=[]:=List.drop_of_length_le (by simp; omega)
section
variable (c:SClass) (w:c.wf) (hF:0≤c.Flags∧c.Flags≤255)
include w
theorem c59_10 (s:D) (H:Heap) (i:Nat) (hi:i < c.Faces.length):∀ k,k≤i→fst_ (J E 59 10 [.ptr 0 0 0,s,.int .i64 i,.int .i64 k] (some [c.row] :: H))=bif ((c.Faces.take i).drop k).any (fun g=>decide (classM c.Pool g=classM c.Pool c.Faces[i])) then some (.bool false) else fst_ (J E 59 5 [.ptr 0 0 0,s,.int .i64 (i + 1:Nat)] (some [c.row] :: H)):=by
 obtain ⟨w1,w2⟩:=w.2.2.2.2.1
 have hc:=c32 c.Pool w.1
 have wx:=w2 _ (List.getElem_mem hi)
 have hia:=fun H=>ia_nat (row:=rInt) rInt_len (H:=H) hi
 apply loop_up
 ·rw [j59_10]
  simp only [SIMP,nlt64,nat_succ64 hi w1,take_drop_nil,List.any_nil]
 ·intro k hk ih
  have hk':k < c.Faces.length:=by omega
  have wk:=w2 _ (List.getElem_mem hk')
  have hka:=fun H=>ia_nat (row:=rInt) rInt_len (H:=H) hk'
  rw [j59_10,take_drop_cons hk hi]
  simp only [SIMP,SClass.simps,lt64 hk,hia,hka,hc _ wx,hc _ wk,nat_succ64 hk' w1,List.any_cons,ih]
  cases decide (classM c.Pool c.Faces[k]=classM c.Pool c.Faces[i]) <;> rfl
include hF
theorem c59_5 (hr:inR c.Flags 0 7=true) (H:Heap):∀ i,i≤c.Faces.length→fst_ (J E 59 5 [.ptr 0 0 0,.str (classM c.Pool c.Super),.int .i64 i] (some [c.row] :: H))=some (.bool (facesGo c.Pool (c.Faces.take i) (c.Faces.drop i) && flagsM c)):=by
 obtain ⟨w1,w2⟩:=w.2.2.2.2.1
 have hc:=c32 c.Pool w.1
 apply loop_up
 ·rw [j59_5]
  simp only [SIMP,SClass.simps,nlt64,has1 _ hF,has2 _ hF,has4 _ hF,has8 _ hF,List.drop_length,facesGo,flagsM,hr,objS]
  cases bit c.Flags 0 <;> cases bit c.Flags 1 <;> cases bit c.Flags 2 <;> rfl
 ·intro i hi ih
  have wx:=w2 _ (List.getElem_mem hi)
  have hia:=fun H=>ia_nat (row:=rInt) rInt_len (H:=H) hi
  rw [j59_5,drop_cons hi,facesGo]
  simp only [SIMP,SClass.simps,lt64 hi,hia,hc _ wx,classM_nil]
  have:=c59_10 c w (.str (classM c.Pool c.Super)) H i hi 0 (by omega)
  simp only [List.drop_zero,Int.natCast_zero] at this
  rw [this,ih,take_next hi]
  cases classAtM c.Pool c.Faces[i] <;> cases (c.Faces.take i).any (fun g=>decide (classM c.Pool g=classM c.Pool c.Faces[i])) <;> rfl
theorem c59:run E (exec E) false 59 [c.d]=some (.bool (headM c)):=by
 have hc:=c32 c.Pool w.1
 apply run_bool
 rw [e59]
 simp only [SIMP,SClass.simps,hc _ w.2.2.2.1]
 rw [j59_2]
 have h5:=fun hr=>c59_5 c w hF hr [] 0 (by omega)
 simp only [List.drop_zero,List.take_zero,Int.natCast_zero] at h5
 simp only [SIMP,SClass.simps,hc _ w.2.2.1,hc _ w.2.2.2.1,classM_nil,c14,headM]
 cases hr:inR c.Flags 0 7 with
 | false=>
  have:flagsM c=false:=by simp [flagsM,hr]
  simp only [this]
  cases classAtM c.Pool c.Name <;> cases classAtM c.Pool c.Super <;> cases decide (classM c.Pool c.Super=classM c.Pool c.Name) <;> simp
 | true=>
  simp only [SIMP,h5 hr]
  cases classAtM c.Pool c.Name <;> cases classAtM c.Pool c.Super <;> cases decide (classM c.Pool c.Super=classM c.Pool c.Name) <;> simp
end
end Go.Ev.YtmpfooibdekppaaGreatDoor
namespace Go.Ev.YtmpfooibdekppaaGreatDoor
set_option linter.unusedVariables false
set_option linter.unusedSimpArgs false
set_option linter.unusedSectionVars false
set_option linter.defProp false
set_option maxHeartbeats 1000000
open Go.Ev
section
variable (c:SClass) (w:c.wf) (hF:0≤c.Flags∧c.Flags≤255)
include w
theorem tx:∀ i,i64 i→run E (exec E) false 33 [.list (c.Pool.map SConst.row),.int .i64 i]=some (.str (textM c.Pool i)):=c33 c.Pool w.1
theorem txName (i:Int):run E (exec E) false 63 [.str (textM c.Pool i)]=some (.bool (nameOk (textM c.Pool i))):=c63 _ (textM_len w.1 i)
theorem txType (i:Int):run E (exec E) false 104 [.str (textM c.Pool i)]=some (.bool (typeOk (textM c.Pool i))):=c104 _ (textM_len w.1 i)
theorem txDesc (i:Int):run E (exec E) false 105 [.str (textM c.Pool i)]=some (.bool (isDescM (textM c.Pool i))):=c105 _ (textM_len w.1 i)
theorem c60_10 (H:Heap) (i:Nat) (hi:i < c.Fields.length):∀ k,k≤i→fst_ (J E 60 10 [.ptr 0 0 0,.int .i64 i,.ptr (H.length + 1) 0 0,.int .i64 k] (some [c.row] :: (H++[some [(c.Fields[i]).row]])))=bif ((c.Fields.take i).drop k).any (fun g=>decide (textM c.Pool g.Name=textM c.Pool (c.Fields[i]).Name)) then some (.bool false) else fst_ (J E 60 2 [.ptr 0 0 0,.int .i64 (i + 1:Nat)] (some [c.row] :: (H++[some [(c.Fields[i]).row]]))):=by
 obtain ⟨w1,w2⟩:=w.2.2.2.2.2.1
 have wx:=w2 _ (List.getElem_mem hi)
 apply loop_up
 ·rw [j60_10]
  simp only [SIMP,nlt64,nat_succ64 hi w1,take_drop_nil,List.any_nil]
 ·intro k hk ih
  have hk':k < c.Fields.length:=by omega
  have wk:=w2 _ (List.getElem_mem hk')
  have hka:=fun H=>ia_nat (row:=SField.row) SField.len (H:=H) hk'
  rw [j60_10,take_drop_cons hk hi]
  simp only [SIMP,SClass.simps,SField.simps,lt64 hk,hka,tx c w _ wx.2.1,tx c w _ wk.2.1,nat_succ64 hk' w1,List.any_cons,ih]
  cases decide (textM c.Pool (c.Fields[k]).Name=textM c.Pool (c.Fields[i]).Name) <;> rfl
include hF
theorem c60_2:∀ i,i≤c.Fields.length→∀ H,fst_ (J E 60 2 [.ptr 0 0 0,.int .i64 i] (some [c.row] :: H))=some (.bool (fieldsGo c (c.Fields.take i) (c.Fields.drop i))):=by
 obtain ⟨w1,w2⟩:=w.2.2.2.2.2.1
 apply loop_up
 ·intro H
  rw [j60_2]
  simp only [SIMP,SClass.simps,nlt64,List.drop_length,fieldsGo]
 ·intro i hi ih H
  have wx:=w2 _ (List.getElem_mem hi)
  have hia:=fun H=>ia_nat (row:=SField.row) SField.len (H:=H) hi
  rw [j60_2,drop_cons hi,fieldsGo]
  have h10:=c60_10 c w H i hi 0 (by omega)
  simp only [List.drop_zero,Int.natCast_zero] at h10
  simp only [SIMP,SClass.simps,SField.simps,lt64 hi,hia,tx c w _ wx.2.1,tx c w _ wx.2.2,txName c w,txType c w,c14,has1 _ hF,h10,ih,take_next hi,fieldM]
  cases nameOk (textM c.Pool (c.Fields[i]).Name) <;> cases typeOk (textM c.Pool (c.Fields[i]).Typ) <;> cases inR (c.Fields[i]).Flags 0 3 <;> cases bit c.Flags 0 <;> cases decide ((c.Fields[i]).Flags=1) <;> cases (c.Fields.take i).any (fun g=>decide (textM c.Pool g.Name=textM c.Pool (c.Fields[i]).Name)) <;> rfl
theorem c60:run E (exec E) false 60 [c.d]=some (.bool (fieldsGo c [] c.Fields)):=by
 apply run_bool
 rw [e60]
 have:=c60_2 c w hF 0 (by omega) []
 simp only [List.drop_zero,List.take_zero,Int.natCast_zero] at this
 simp only [SIMP,SClass.simps,this]
theorem c106 (m:SMethod) (wm:m.wf):run E (exec E) false 106 [c.d,m.d]=some (.bool (mflagsM c m)):=by
 apply run_bool
 rw [e106]
 unfold mflagsM
 simp only [SIMP,SClass.simps,SMethod.simps,c14,tx c w _ wm.2.1,tx c w _ wm.2.2.1,beginS,voidS]
 cases hr:inR m.Flags 0 15 with
 | false=>simp only [SIMP]
 | true=>
  have hm:0≤m.Flags∧m.Flags≤255:=by simp [inR] at hr; omega
  simp only [SIMP,SClass.simps,SMethod.simps,c14,tx c w _ wm.2.1,tx c w _ wm.2.2.1,has8 _ hm,has4 _ hF,has1 _ hF]
  by_cases k1:textM c.Pool m.Name=[98,101,103,105,110] <;> by_cases k2:textM c.Pool m.Desc=[40,41,86] <;> simp only [k1,k2,decide_true,decide_false] <;> cases decide (m.Flags=1) <;> cases decide (m.Flags=8) <;> cases bit m.Flags 3 <;> cases bit c.Flags 2 <;> cases bit c.Flags 0 <;> rfl
omit hF
theorem c61_8 (H:Heap) (i:Nat) (hi:i < c.Methods.length):∀ k,k≤i→fst_ (J E 61 8 [.ptr 0 0 0,.int .i64 i,.ptr (H.length + 1) 0 0,.int .i64 k] (some [c.row] :: (H++[some [(c.Methods[i]).row]])))=bif ((c.Methods.take i).drop k).any (fun n=>decide (textM c.Pool n.Name=textM c.Pool (c.Methods[i]).Name) && decide (textM c.Pool n.Desc=textM c.Pool (c.Methods[i]).Desc)) then some (.bool false) else fst_ (J E 61 2 [.ptr 0 0 0,.int .i64 (i + 1:Nat)] (some [c.row] :: (H++[some [(c.Methods[i]).row]]))):=by
 obtain ⟨w1,w2⟩:=w.2.2.2.2.2.2
 have wx:=w2 _ (List.getElem_mem hi)
 apply loop_up
 ·rw [j61_8]
  simp only [SIMP,nlt64,nat_succ64 hi w1,take_drop_nil,List.any_nil]
 ·intro k hk ih
  have hk':k < c.Methods.length:=by omega
  have wk:=w2 _ (List.getElem_mem hk')
  have hka:=fun H=>ia_nat (row:=SMethod.row) SMethod.len (H:=H) hk'
  rw [j61_8,take_drop_cons hk hi]
  simp only [SIMP,lt64 hk]
  rw [j61_10]
  simp only [SIMP,SClass.simps,SMethod.simps,hka,tx c w _ wx.2.1,tx c w _ wk.2.1,tx c w _ wx.2.2.1,tx c w _ wk.2.2.1,nat_succ64 hk' w1,List.any_cons,ih]
  cases decide (textM c.Pool (c.Methods[k]).Name=textM c.Pool (c.Methods[i]).Name) <;> cases decide (textM c.Pool (c.Methods[k]).Desc=textM c.Pool (c.Methods[i]).Desc) <;> rfl
include hF
theorem c61_2:∀ i,i≤c.Methods.length→∀ H,fst_ (J E 61 2 [.ptr 0 0 0,.int .i64 i] (some [c.row] :: H))=some (.bool (methodsGo c (c.Methods.take i) (c.Methods.drop i))):=by
 obtain ⟨w1,w2⟩:=w.2.2.2.2.2.2
 apply loop_up
 ·intro H
  rw [j61_2]
  simp only [SIMP,SClass.simps,nlt64,List.drop_length,methodsGo]
 ·intro i hi ih H
  have wx:=w2 _ (List.getElem_mem hi)
  have hia:=fun H=>ia_nat (row:=SMethod.row) SMethod.len (H:=H) hi
  rw [j61_2,drop_cons hi,methodsGo]
  have h8:=c61_8 c w H i hi 0 (by omega)
  simp only [List.drop_zero,Int.natCast_zero] at h8
  simp only [SIMP,SClass.simps,SMethod.simps,lt64 hi,hia,tx c w _ wx.2.1,tx c w _ wx.2.2.1,txName c w,txDesc c w,c106 c w hF _ wx,h8,ih,take_next hi,methodM]
  cases nameOk (textM c.Pool (c.Methods[i]).Name) <;> cases isDescM (textM c.Pool (c.Methods[i]).Desc) <;> cases mflagsM c c.Methods[i] <;> cases (c.Methods.take i).any (fun n=>decide (textM c.Pool n.Name=textM c.Pool (c.Methods[i]).Name) && decide (textM c.Pool n.Desc=textM c.Pool (c.Methods[i]).Desc)) <;> rfl
theorem c61:run E (exec E) false 61 [c.d]=some (.bool (methodsGo c [] c.Methods)):=by
 apply run_bool
 rw [e61]
 have:=c61_2 c w hF 0 (by omega) []
 simp only [List.drop_zero,List.take_zero,Int.natCast_zero] at this
 simp only [SIMP,SClass.simps,this]
end
theorem c161 (op:Int):run E (exec E) false 161 [.int .i64 op]=some (.int .i64 (wantsM op)):=by
 apply run_int
 rw [e161]
 simp only [SIMP,j161_5,j161_6,j161_10,j161_11,j161_14,j161_15]
 unfold wantsM
 by_cases h1:op=19∨op=28∨op=29
 ·rw [if_pos h1]
  rcases h1 with h1 | h1 | h1 <;> subst h1 <;> rfl
 rw [if_neg h1]
 by_cases h2:inR op 20 23=true
 ·rw [if_pos h2]
  simp only [inR,Bool.and_eq_true,decide_eq_true_eq] at h2
  have:op=20∨op=21∨op=22∨op=23:=by omega
  rcases this with h | h | h | h <;> subst h <;> rfl
 rw [if_neg h2]
 by_cases h3:inR op 24 26=true
 ·rw [if_pos h3]
  simp only [inR,Bool.and_eq_true,decide_eq_true_eq] at h3
  have:op=24∨op=25∨op=26:=by omega
  rcases this with h | h | h <;> subst h <;> rfl
 rw [if_neg h3]
 simp only [inR,Bool.and_eq_true,decide_eq_true_eq] at h2 h3
 simp only [show ¬ op=19 by omega,show ¬ op=28 by omega,show ¬ op=29 by omega,show ¬ op=20 by omega,show ¬ op=21 by omega,show ¬ op=22 by omega,show ¬ op=23 by omega,show ¬ op=24 by omega,show ¬ op=25 by omega,show ¬ op=26 by omega,SIMP]
 by_cases h4:op=27 <;> simp [h4]
end Go.Ev.YtmpfooibdekppaaGreatDoor
