import Derived.Test.YtmljkoieihaomaaGreatD0
namespace Go.Ev.YtmljkoieihaomaaGreat
set_option linter.unusedVariables false
set_option linter.unusedSimpArgs false
set_option linter.unusedSectionVars false
set_option linter.defProp false
set_option maxHeartbeats 1000000
open Go.Ev
theorem c138 (x:SFile) (left:Int) (hw:x.wf) (h0:0≤left) (h1:left≤1048576):run E (exec E) false 138 [x.d,.int .i64 left]=some (.int .i64 (szR x.sz left)):=by
 obtain ⟨w0,w1⟩:=hw
 rw [run_ent,e138]
 simp [readA_int,readA_bool,readA_str,readA_list,readA_sl0,readA_sl,readA_agg,readA_tup,SFile.row,ia,ld,st,getRow,rowLen,storeRow,part,D.cells,D.isCell,bld,fillC,bsl,fillR,slS,slL,sliceStr,bound,cut0,srcRows,rowsFit,call_pure,call_view,nilCheck,rInt,rStr,rBool,rByte]
 rw [wrap_i64 (n:=left - (x.Name.length:Int)) (by omega) (by omega)]
 by_cases g0:¬ (x.Name.length:Int)≤left
 ·simp [show left - (x.Name.length:Int) < 0 by omega]
  rw [szR_neg (by simp only [SFile.sz]; omega)]
 simp only [show ¬ left - (x.Name.length:Int) < 0 by omega,decide_false,cond_false]
 rw [wrap_i64 (n:=left - (x.Name.length:Int) - (x.Text.length:Int)) (by omega) (by omega)]
 by_cases g1:¬ (x.Text.length:Int)≤left - (x.Name.length:Int)
 ·simp [show left - (x.Name.length:Int) - (x.Text.length:Int) < 0 by omega]
  rw [szR_neg (by simp only [SFile.sz]; omega)]
 simp only [show ¬ left - (x.Name.length:Int) - (x.Text.length:Int) < 0 by omega,decide_false,cond_false]
 rw [szR_pos (by simp only [SFile.sz]; omega)]
 simp [SFile.sz]
 try omega
theorem c60_5 (xs:List SFile) (w:xs.length≤140737488351232∧∀ y ∈ xs,y.wf) (H:Heap):∀ i,i≤xs.length→∀ left:Int,0≤left→left≤1048576→J E 60 5 [.list (xs.map SFile.row),.int .i64 left,.int .i64 i] H=some (.int .i64 (szR ((xs.drop i).map SFile.sz).sum left),H):=by
 have w1:=w.1
 refine loop_up (P:=fun i=>_) ?_ fun i hi ih left h0 h1=>?_
 ·intro left h0 h1
  rw [j60_5]
  simp [szR,h0]
 ·have hs:((xs.drop i).map SFile.sz).sum=SFile.sz xs[i] + ((xs.drop (i + 1)).map SFile.sz).sum:=by rw [List.drop_eq_getElem_cons hi]; rfl
  generalize ((xs.drop i).map SFile.sz).sum=S0 at hs
  generalize hS1:((xs.drop (i + 1)).map SFile.sz).sum=S1 at hs ih
  rw [j60_5]
  simp [readA_int,readA_bool,readA_str,readA_list,readA_sl0,readA_sl,readA_agg,readA_tup,ia,ld,st,getRow,rowLen,storeRow,part,D.cells,D.isCell,bld,fillC,bsl,fillR,slS,slL,sliceStr,bound,cut0,srcRows,rowsFit,call_pure,call_view,nilCheck,rInt,rStr,rBool,rByte,hi]
  have q:=c138 xs[i] left (w.2 _ (List.getElem_mem hi)) h0 h1
  rw [q]
  simp only [Option.bind_some,bI_lss,asB_bool,bI_add]
  rw [wrap_i64 (n:=(i:Int) + 1) (by omega) (by omega)]
  by_cases g:¬ ((xs[i].sz:Nat):Int)≤left
  ·rw [szR_neg g,szR_neg (by omega)]; simp
  have g:=Decidable.not_not.mp g
  simp only [szR_pos g,show ¬ left - ((xs[i].sz:Nat):Int) < 0 by omega,decide_false,cond_false]
  have:=ih (left - ((xs[i].sz:Nat):Int)) (by omega) (by omega)
  simp only [Int.natCast_add,Int.natCast_one] at this
  rw [this]
  by_cases g2:(S1:Int)≤left - ((xs[i].sz:Nat):Int)
  ·rw [szR_pos g2,szR_pos (by omega)]; congr 3; omega
  ·rw [szR_neg g2,szR_neg (by omega)]
theorem c60 (xs:List SFile) (left:Int) (w:xs.length≤140737488351232∧∀ y ∈ xs,y.wf) (h0:0≤left) (h1:left≤1048576):run E (exec E) false 60 [.list (xs.map SFile.row),.int .i64 left]=some (.int .i64 (szR (szL SFile.sz xs) left)):=by
 have w1:=w.1
 rw [run_ent,e60]
 simp
 rw [wrap_i64 (n:=left - (xs.length:Int)) (by omega) (by omega)]
 by_cases g:¬ (xs.length:Int)≤left
 ·rw [szR_neg (by simp only [szL]; omega)]; simp [show left - (xs.length:Int) < 0 by omega]
 simp only [show ¬ left - (xs.length:Int) < 0 by omega,decide_false,cond_false]
 have:=c60_5 xs w [] 0 (by omega) (left - xs.length) (by omega) (by omega)
 simp only [Int.natCast_zero,List.drop_zero] at this
 rw [this]
 simp only [readA_int,readA_bool,readA_str,readA_list,readA_sl0,readA_sl,readA_agg,readA_tup,Option.bind_some,readT_int,szL]
 by_cases g2:(((xs.map SFile.sz).sum:Nat):Int)≤left - xs.length
 ·rw [szR_pos g2,szR_pos (by omega)]; simp only [Int.natCast_add]; congr 2; omega
 ·rw [szR_neg g2,szR_neg (by omega)]
theorem c139 (x:SWay) (left:Int) (hw:x.wf) (h0:0≤left) (h1:left≤1048576):run E (exec E) false 139 [x.d,.int .i64 left]=some (.int .i64 (szR x.sz left)):=by
 obtain ⟨w0,-⟩:=hw
 rw [run_ent,e139]
 simp [readA_int,readA_bool,readA_str,readA_list,readA_sl0,readA_sl,readA_agg,readA_tup,SWay.row,ia,ld,st,getRow,rowLen,storeRow,part,D.cells,D.isCell,bld,fillC,bsl,fillR,slS,slL,sliceStr,bound,cut0,srcRows,rowsFit,call_pure,call_view,nilCheck,rInt,rStr,rBool,rByte]
 rw [wrap_i64 (n:=left - (x.Name.length:Int)) (by omega) (by omega)]
 by_cases g0:¬ (x.Name.length:Int)≤left
 ·simp [show left - (x.Name.length:Int) < 0 by omega]
  rw [szR_neg (by simp only [SWay.sz]; omega)]
 simp only [show ¬ left - (x.Name.length:Int) < 0 by omega,decide_false,cond_false]
 rw [szR_pos (by simp only [SWay.sz]; omega)]
 simp [SWay.sz]
 try omega
theorem c61_5 (xs:List SWay) (w:xs.length≤140737488351232∧∀ y ∈ xs,y.wf) (H:Heap):∀ i,i≤xs.length→∀ left:Int,0≤left→left≤1048576→J E 61 5 [.list (xs.map SWay.row),.int .i64 left,.int .i64 i] H=some (.int .i64 (szR ((xs.drop i).map SWay.sz).sum left),H):=by
 have w1:=w.1
 refine loop_up (P:=fun i=>_) ?_ fun i hi ih left h0 h1=>?_
 ·intro left h0 h1
  rw [j61_5]
  simp [szR,h0]
 ·have hs:((xs.drop i).map SWay.sz).sum=SWay.sz xs[i] + ((xs.drop (i + 1)).map SWay.sz).sum:=by rw [List.drop_eq_getElem_cons hi]; rfl
  generalize ((xs.drop i).map SWay.sz).sum=S0 at hs
  generalize hS1:((xs.drop (i + 1)).map SWay.sz).sum=S1 at hs ih
  rw [j61_5]
  simp [readA_int,readA_bool,readA_str,readA_list,readA_sl0,readA_sl,readA_agg,readA_tup,ia,ld,st,getRow,rowLen,storeRow,part,D.cells,D.isCell,bld,fillC,bsl,fillR,slS,slL,sliceStr,bound,cut0,srcRows,rowsFit,call_pure,call_view,nilCheck,rInt,rStr,rBool,rByte,hi]
  have q:=c139 xs[i] left (w.2 _ (List.getElem_mem hi)) h0 h1
  rw [q]
  simp only [Option.bind_some,bI_lss,asB_bool,bI_add]
  rw [wrap_i64 (n:=(i:Int) + 1) (by omega) (by omega)]
  by_cases g:¬ ((xs[i].sz:Nat):Int)≤left
  ·rw [szR_neg g,szR_neg (by omega)]; simp
  have g:=Decidable.not_not.mp g
  simp only [szR_pos g,show ¬ left - ((xs[i].sz:Nat):Int) < 0 by omega,decide_false,cond_false]
  have:=ih (left - ((xs[i].sz:Nat):Int)) (by omega) (by omega)
  simp only [Int.natCast_add,Int.natCast_one] at this
  rw [this]
  by_cases g2:(S1:Int)≤left - ((xs[i].sz:Nat):Int)
  ·rw [szR_pos g2,szR_pos (by omega)]; congr 3; omega
  ·rw [szR_neg g2,szR_neg (by omega)]
theorem c61 (xs:List SWay) (left:Int) (w:xs.length≤140737488351232∧∀ y ∈ xs,y.wf) (h0:0≤left) (h1:left≤1048576):run E (exec E) false 61 [.list (xs.map SWay.row),.int .i64 left]=some (.int .i64 (szR (szL SWay.sz xs) left)):=by
 have w1:=w.1
 rw [run_ent,e61]
 simp
 rw [wrap_i64 (n:=left - (xs.length:Int)) (by omega) (by omega)]
 by_cases g:¬ (xs.length:Int)≤left
 ·rw [szR_neg (by simp only [szL]; omega)]; simp [show left - (xs.length:Int) < 0 by omega]
 simp only [show ¬ left - (xs.length:Int) < 0 by omega,decide_false,cond_false]
 have:=c61_5 xs w [] 0 (by omega) (left - xs.length) (by omega) (by omega)
 simp only [Int.natCast_zero,List.drop_zero] at this
 rw [this]
 simp only [readA_int,readA_bool,readA_str,readA_list,readA_sl0,readA_sl,readA_agg,readA_tup,Option.bind_some,readT_int,szL]
 by_cases g2:(((xs.map SWay.sz).sum:Nat):Int)≤left - xs.length
 ·rw [szR_pos g2,szR_pos (by omega)]; simp only [Int.natCast_add]; congr 2; omega
 ·rw [szR_neg g2,szR_neg (by omega)]
theorem c19 (x:SLoader) (left:Int) (hw:x.wf) (h0:0≤left) (h1:left≤1048576):run E (exec E) false 19 [x.d,.int .i64 left]=some (.int .i64 (szR x.sz left)):=by
 obtain ⟨w0,w1,-⟩:=hw
 rw [run_ent,e19]
 simp [readA_int,readA_bool,readA_str,readA_list,readA_sl0,readA_sl,readA_agg,readA_tup,SLoader.row,ia,ld,st,getRow,rowLen,storeRow,part,D.cells,D.isCell,bld,fillC,bsl,fillR,slS,slL,sliceStr,bound,cut0,srcRows,rowsFit,call_pure,call_view,nilCheck,rInt,rStr,rBool,rByte]
 rw [c60 x.Files (left) w0 (by omega) (by omega)]
 simp only [Option.bind_some,bI_lss,asB_bool]
 by_cases g0:¬ ((szL SFile.sz x.Files:Nat):Int)≤left
 ·rw [szR_neg g0,szR_neg (s:=x.sz) (by simp only [SLoader.sz]; omega)]; simp
 have g0:=Decidable.not_not.mp g0
 simp only [readA_int,readA_bool,readA_str,readA_list,readA_sl0,readA_sl,readA_agg,readA_tup,szR_pos g0,show ¬ left - ((szL SFile.sz x.Files:Nat):Int) < 0 by omega,decide_false,cond_false,Option.bind_some,fa_ptr,getBlk_zero,List.getElem?_cons_zero,List.getElem?_cons_succ,Nat.zero_add,optAll_cons,optAll_nil,readT_int,readT_list9]
 rw [c61 x.Ways (left - ((szL SFile.sz x.Files:Nat):Int)) w1 (by omega) (by omega)]
 simp only [Option.bind_some,bI_lss,asB_bool]
 by_cases g1:¬ ((szL SWay.sz x.Ways:Nat):Int)≤left - ((szL SFile.sz x.Files:Nat):Int)
 ·rw [szR_neg g1,szR_neg (s:=x.sz) (by simp only [SLoader.sz]; omega)]; simp
 have g1:=Decidable.not_not.mp g1
 simp only [readA_int,readA_bool,readA_str,readA_list,readA_sl0,readA_sl,readA_agg,readA_tup,szR_pos g1,show ¬ left - ((szL SFile.sz x.Files:Nat):Int) - ((szL SWay.sz x.Ways:Nat):Int) < 0 by omega,decide_false,cond_false,Option.bind_some,fa_ptr,getBlk_zero,List.getElem?_cons_zero,List.getElem?_cons_succ,Nat.zero_add,optAll_cons,optAll_nil,readT_int,readT_list9]
 rw [szR_pos (by simp only [SLoader.sz]; omega)]
 simp [SLoader.sz]
 try omega
theorem c5_5 (xs:List SLoader) (w:xs.length≤140737488351232∧∀ y ∈ xs,y.wf) (H:Heap):∀ i,i≤xs.length→∀ left:Int,0≤left→left≤1048576→J E 5 5 [.list (xs.map SLoader.row),.int .i64 left,.int .i64 i] H=some (.int .i64 (szR ((xs.drop i).map SLoader.sz).sum left),H):=by
 have w1:=w.1
 refine loop_up (P:=fun i=>_) ?_ fun i hi ih left h0 h1=>?_
 ·intro left h0 h1
  rw [j5_5]
  simp [szR,h0]
 ·have hs:((xs.drop i).map SLoader.sz).sum=SLoader.sz xs[i] + ((xs.drop (i + 1)).map SLoader.sz).sum:=by rw [List.drop_eq_getElem_cons hi]; rfl
  generalize ((xs.drop i).map SLoader.sz).sum=S0 at hs
  generalize hS1:((xs.drop (i + 1)).map SLoader.sz).sum=S1 at hs ih
  rw [j5_5]
  simp [readA_int,readA_bool,readA_str,readA_list,readA_sl0,readA_sl,readA_agg,readA_tup,ia,ld,st,getRow,rowLen,storeRow,part,D.cells,D.isCell,bld,fillC,bsl,fillR,slS,slL,sliceStr,bound,cut0,srcRows,rowsFit,call_pure,call_view,nilCheck,rInt,rStr,rBool,rByte,hi]
  have q:=c19 xs[i] left (w.2 _ (List.getElem_mem hi)) h0 h1
  rw [q]
  simp only [Option.bind_some,bI_lss,asB_bool,bI_add]
  rw [wrap_i64 (n:=(i:Int) + 1) (by omega) (by omega)]
  by_cases g:¬ ((xs[i].sz:Nat):Int)≤left
  ·rw [szR_neg g,szR_neg (by omega)]; simp
  have g:=Decidable.not_not.mp g
  simp only [szR_pos g,show ¬ left - ((xs[i].sz:Nat):Int) < 0 by omega,decide_false,cond_false]
  have:=ih (left - ((xs[i].sz:Nat):Int)) (by omega) (by omega)
  simp only [Int.natCast_add,Int.natCast_one] at this
  rw [this]
  by_cases g2:(S1:Int)≤left - ((xs[i].sz:Nat):Int)
  ·rw [szR_pos g2,szR_pos (by omega)]; congr 3; omega
  ·rw [szR_neg g2,szR_neg (by omega)]
theorem c5 (xs:List SLoader) (left:Int) (w:xs.length≤140737488351232∧∀ y ∈ xs,y.wf) (h0:0≤left) (h1:left≤1048576):run E (exec E) false 5 [.list (xs.map SLoader.row),.int .i64 left]=some (.int .i64 (szR (szL SLoader.sz xs) left)):=by
 have w1:=w.1
 rw [run_ent,e5]
 simp
 rw [wrap_i64 (n:=left - (xs.length:Int)) (by omega) (by omega)]
 by_cases g:¬ (xs.length:Int)≤left
 ·rw [szR_neg (by simp only [szL]; omega)]; simp [show left - (xs.length:Int) < 0 by omega]
 simp only [show ¬ left - (xs.length:Int) < 0 by omega,decide_false,cond_false]
 have:=c5_5 xs w [] 0 (by omega) (left - xs.length) (by omega) (by omega)
 simp only [Int.natCast_zero,List.drop_zero] at this
 rw [this]
 simp only [readA_int,readA_bool,readA_str,readA_list,readA_sl0,readA_sl,readA_agg,readA_tup,Option.bind_some,readT_int,szL]
 by_cases g2:(((xs.map SLoader.sz).sum:Nat):Int)≤left - xs.length
 ·rw [szR_pos g2,szR_pos (by omega)]; simp only [Int.natCast_add]; congr 2; omega
 ·rw [szR_neg g2,szR_neg (by omega)]
end Go.Ev.YtmljkoieihaomaaGreat
namespace Go.Ev.YtmljkoieihaomaaGreat
set_option linter.unusedVariables false
set_option linter.unusedSimpArgs false
set_option linter.unusedSectionVars false
set_option linter.defProp false
set_option maxHeartbeats 1000000
open Go.Ev
theorem c57_4 (a b:List Int) (wa:a.length≤140737488351232) (hlen:a.length=b.length) (H:Heap):∀ i,i≤a.length→J E 57 4 [.list (a.map rInt),.list (b.map rInt),.int .i64 i] H=some (.bool (decide (a.drop i=b.drop i)),H):=by
 have w1:=wa
 refine loop_up (P:=fun i=>_) ?_ fun i hi ih=>?_
 ·rw [j57_4]
  simp [hlen]
 ·have hi':i < b.length:=by omega
  rw [j57_4]
  simp [readA_int,readA_bool,readA_str,readA_list,readA_sl0,readA_sl,readA_agg,readA_tup,ia,ld,st,getRow,rowLen,storeRow,part,D.cells,D.isCell,bld,fillC,bsl,fillR,slS,slL,sliceStr,bound,cut0,srcRows,rowsFit,call_pure,call_view,nilCheck,rInt,rStr,rBool,rByte,hi,hi']
  simp (disch:=omega) only [wrap_i64]
  rw [drop_dec hi hi']
  by_cases h:a[i]=b[i] <;> simp [h]
  simpa using ih
theorem c57 (a b:List Int) (wa:a.length≤140737488351232):run E (exec E) false 57 [.list (a.map rInt),.list (b.map rInt)]=some (.bool (decide (a=b))):=by
 rw [run_ent,e57]
 by_cases h:a.length=b.length
 ·have:=c57_4 a b wa h [] 0 (by omega)
  simp only [Int.natCast_zero] at this
  simp [h,this]
 ·have:a ≠ b:=fun e=>h (by rw [e])
  simp [show ¬ (a.length:Int)=b.length by omega,this]
theorem c135 (a b:SConst):run E (exec E) false 135 [a.d,b.d]=some (.bool (decide (a=b))):=by
 rw [run_ent,e135]
 obtain ⟨a0,a1,a2,a3⟩:=a
 obtain ⟨b0,b1,b2,b3⟩:=b
 simp [readA_int,readA_bool,readA_str,readA_list,readA_sl0,readA_sl,readA_agg,readA_tup,SConst.row,ia,ld,st,getRow,rowLen,storeRow,part,D.cells,D.isCell,bld,fillC,bsl,fillR,slS,slL,sliceStr,bound,cut0,srcRows,rowsFit,call_pure,call_view,nilCheck,rInt,rStr,rBool,rByte]
 by_cases g0:¬ a0=b0
 ·simp [g0]
 have g0:=Decidable.not_not.mp g0
 subst g0
 by_cases g1:¬ a1=b1
 ·simp [g1]
 have g1:=Decidable.not_not.mp g1
 subst g1
 by_cases g2:¬ a2=b2
 ·simp [g2]
 have g2:=Decidable.not_not.mp g2
 subst g2
 by_cases g3:¬ a3=b3
 ·simp [g3]
 have g3:=Decidable.not_not.mp g3
 subst g3
 try simp [readA_int,readA_bool,readA_str,readA_list,readA_sl0,readA_sl,readA_agg,readA_tup,ia,ld,st,getRow,rowLen,storeRow,part,D.cells,D.isCell,bld,fillC,bsl,fillR,slS,slL,sliceStr,bound,cut0,srcRows,rowsFit,call_pure,call_view,nilCheck,rInt,rStr,rBool,rByte]
theorem c56_4 (a b:List SConst) (wa:a.length≤140737488351232) (hlen:a.length=b.length) (H:Heap):∀ i,i≤a.length→J E 56 4 [.list (a.map SConst.row),.list (b.map SConst.row),.int .i64 i] H=some (.bool (decide (a.drop i=b.drop i)),H):=by
 have w1:=wa
 refine loop_up (P:=fun i=>_) ?_ fun i hi ih=>?_
 ·rw [j56_4]
  simp [hlen]
 ·have hi':i < b.length:=by omega
  rw [j56_4]
  simp [readA_int,readA_bool,readA_str,readA_list,readA_sl0,readA_sl,readA_agg,readA_tup,ia,ld,st,getRow,rowLen,storeRow,part,D.cells,D.isCell,bld,fillC,bsl,fillR,slS,slL,sliceStr,bound,cut0,srcRows,rowsFit,call_pure,call_view,nilCheck,rInt,rStr,rBool,rByte,hi,hi']
  rw [c135 a[i] b[i]]
  simp only [Option.bind_some,unOp_not,asB_bool,bI_add]
  simp (disch:=omega) only [wrap_i64]
  rw [drop_dec hi hi']
  by_cases h:a[i]=b[i] <;> simp [h]
  simpa using ih
theorem c56 (a b:List SConst) (wa:a.length≤140737488351232):run E (exec E) false 56 [.list (a.map SConst.row),.list (b.map SConst.row)]=some (.bool (decide (a=b))):=by
 rw [run_ent,e56]
 by_cases h:a.length=b.length
 ·have:=c56_4 a b wa h [] 0 (by omega)
  simp only [Int.natCast_zero] at this
  simp [h,this]
 ·have:a ≠ b:=fun e=>h (by rw [e])
  simp [show ¬ (a.length:Int)=b.length by omega,this]
theorem c136 (a b:SField):run E (exec E) false 136 [a.d,b.d]=some (.bool (decide (a=b))):=by
 rw [run_ent,e136]
 obtain ⟨a0,a1,a2⟩:=a
 obtain ⟨b0,b1,b2⟩:=b
 simp [readA_int,readA_bool,readA_str,readA_list,readA_sl0,readA_sl,readA_agg,readA_tup,SField.row,ia,ld,st,getRow,rowLen,storeRow,part,D.cells,D.isCell,bld,fillC,bsl,fillR,slS,slL,sliceStr,bound,cut0,srcRows,rowsFit,call_pure,call_view,nilCheck,rInt,rStr,rBool,rByte]
 by_cases g0:¬ a0=b0
 ·simp [g0]
 have g0:=Decidable.not_not.mp g0
 subst g0
 by_cases g1:¬ a1=b1
 ·simp [g1]
 have g1:=Decidable.not_not.mp g1
 subst g1
 by_cases g2:¬ a2=b2
 ·simp [g2]
 have g2:=Decidable.not_not.mp g2
 subst g2
 try simp [readA_int,readA_bool,readA_str,readA_list,readA_sl0,readA_sl,readA_agg,readA_tup,ia,ld,st,getRow,rowLen,storeRow,part,D.cells,D.isCell,bld,fillC,bsl,fillR,slS,slL,sliceStr,bound,cut0,srcRows,rowsFit,call_pure,call_view,nilCheck,rInt,rStr,rBool,rByte]
theorem c58_4 (a b:List SField) (wa:a.length≤140737488351232) (hlen:a.length=b.length) (H:Heap):∀ i,i≤a.length→J E 58 4 [.list (a.map SField.row),.list (b.map SField.row),.int .i64 i] H=some (.bool (decide (a.drop i=b.drop i)),H):=by
 have w1:=wa
 refine loop_up (P:=fun i=>_) ?_ fun i hi ih=>?_
 ·rw [j58_4]
  simp [hlen]
 ·have hi':i < b.length:=by omega
  rw [j58_4]
  simp [readA_int,readA_bool,readA_str,readA_list,readA_sl0,readA_sl,readA_agg,readA_tup,ia,ld,st,getRow,rowLen,storeRow,part,D.cells,D.isCell,bld,fillC,bsl,fillR,slS,slL,sliceStr,bound,cut0,srcRows,rowsFit,call_pure,call_view,nilCheck,rInt,rStr,rBool,rByte,hi,hi']
  rw [c136 a[i] b[i]]
  simp only [Option.bind_some,unOp_not,asB_bool,bI_add]
  simp (disch:=omega) only [wrap_i64]
  rw [drop_dec hi hi']
  by_cases h:a[i]=b[i] <;> simp [h]
  simpa using ih
theorem c58 (a b:List SField) (wa:a.length≤140737488351232):run E (exec E) false 58 [.list (a.map SField.row),.list (b.map SField.row)]=some (.bool (decide (a=b))):=by
 rw [run_ent,e58]
 by_cases h:a.length=b.length
 ·have:=c58_4 a b wa h [] 0 (by omega)
  simp only [Int.natCast_zero] at this
  simp [h,this]
 ·have:a ≠ b:=fun e=>h (by rw [e])
  simp [show ¬ (a.length:Int)=b.length by omega,this]
theorem c248 (a b:STrap):run E (exec E) false 248 [a.d,b.d]=some (.bool (decide (a=b))):=by
 rw [run_ent,e248]
 obtain ⟨a0,a1,a2,a3⟩:=a
 obtain ⟨b0,b1,b2,b3⟩:=b
 simp [readA_int,readA_bool,readA_str,readA_list,readA_sl0,readA_sl,readA_agg,readA_tup,STrap.row,ia,ld,st,getRow,rowLen,storeRow,part,D.cells,D.isCell,bld,fillC,bsl,fillR,slS,slL,sliceStr,bound,cut0,srcRows,rowsFit,call_pure,call_view,nilCheck,rInt,rStr,rBool,rByte]
 by_cases g0:¬ a0=b0
 ·simp [g0]
 have g0:=Decidable.not_not.mp g0
 subst g0
 by_cases g1:¬ a1=b1
 ·simp [g1]
 have g1:=Decidable.not_not.mp g1
 subst g1
 by_cases g2:¬ a2=b2
 ·simp [g2]
 have g2:=Decidable.not_not.mp g2
 subst g2
 by_cases g3:¬ a3=b3
 ·simp [g3]
 have g3:=Decidable.not_not.mp g3
 subst g3
 try simp [readA_int,readA_bool,readA_str,readA_list,readA_sl0,readA_sl,readA_agg,readA_tup,ia,ld,st,getRow,rowLen,storeRow,part,D.cells,D.isCell,bld,fillC,bsl,fillR,slS,slL,sliceStr,bound,cut0,srcRows,rowsFit,call_pure,call_view,nilCheck,rInt,rStr,rBool,rByte]
theorem c209_4 (a b:List STrap) (wa:a.length≤140737488351232) (hlen:a.length=b.length) (H:Heap):∀ i,i≤a.length→J E 209 4 [.list (a.map STrap.row),.list (b.map STrap.row),.int .i64 i] H=some (.bool (decide (a.drop i=b.drop i)),H):=by
 have w1:=wa
 refine loop_up (P:=fun i=>_) ?_ fun i hi ih=>?_
 ·rw [j209_4]
  simp [hlen]
 ·have hi':i < b.length:=by omega
  rw [j209_4]
  simp [readA_int,readA_bool,readA_str,readA_list,readA_sl0,readA_sl,readA_agg,readA_tup,ia,ld,st,getRow,rowLen,storeRow,part,D.cells,D.isCell,bld,fillC,bsl,fillR,slS,slL,sliceStr,bound,cut0,srcRows,rowsFit,call_pure,call_view,nilCheck,rInt,rStr,rBool,rByte,hi,hi']
  rw [c248 a[i] b[i]]
  simp only [Option.bind_some,unOp_not,asB_bool,bI_add]
  simp (disch:=omega) only [wrap_i64]
  rw [drop_dec hi hi']
  by_cases h:a[i]=b[i] <;> simp [h]
  simpa using ih
theorem c209 (a b:List STrap) (wa:a.length≤140737488351232):run E (exec E) false 209 [.list (a.map STrap.row),.list (b.map STrap.row)]=some (.bool (decide (a=b))):=by
 rw [run_ent,e209]
 by_cases h:a.length=b.length
 ·have:=c209_4 a b wa h [] 0 (by omega)
  simp only [Int.natCast_zero] at this
  simp [h,this]
 ·have:a ≠ b:=fun e=>h (by rw [e])
  simp [show ¬ (a.length:Int)=b.length by omega,this]
theorem c266 (a b:SKind):run E (exec E) false 266 [a.d,b.d]=some (.bool (decide (a=b))):=by
 rw [run_ent,e266]
 obtain ⟨a0,a1⟩:=a
 obtain ⟨b0,b1⟩:=b
 simp [readA_int,readA_bool,readA_str,readA_list,readA_sl0,readA_sl,readA_agg,readA_tup,SKind.row,ia,ld,st,getRow,rowLen,storeRow,part,D.cells,D.isCell,bld,fillC,bsl,fillR,slS,slL,sliceStr,bound,cut0,srcRows,rowsFit,call_pure,call_view,nilCheck,rInt,rStr,rBool,rByte]
 by_cases g0:¬ a0=b0
 ·simp [g0]
 have g0:=Decidable.not_not.mp g0
 subst g0
 by_cases g1:¬ a1=b1
 ·simp [g1]
 have g1:=Decidable.not_not.mp g1
 subst g1
 try simp [readA_int,readA_bool,readA_str,readA_list,readA_sl0,readA_sl,readA_agg,readA_tup,ia,ld,st,getRow,rowLen,storeRow,part,D.cells,D.isCell,bld,fillC,bsl,fillR,slS,slL,sliceStr,bound,cut0,srcRows,rowsFit,call_pure,call_view,nilCheck,rInt,rStr,rBool,rByte]
theorem c259_4 (a b:List SKind) (wa:a.length≤140737488351232) (hlen:a.length=b.length) (H:Heap):∀ i,i≤a.length→J E 259 4 [.list (a.map SKind.row),.list (b.map SKind.row),.int .i64 i] H=some (.bool (decide (a.drop i=b.drop i)),H):=by
 have w1:=wa
 refine loop_up (P:=fun i=>_) ?_ fun i hi ih=>?_
 ·rw [j259_4]
  simp [hlen]
 ·have hi':i < b.length:=by omega
  rw [j259_4]
  simp [readA_int,readA_bool,readA_str,readA_list,readA_sl0,readA_sl,readA_agg,readA_tup,ia,ld,st,getRow,rowLen,storeRow,part,D.cells,D.isCell,bld,fillC,bsl,fillR,slS,slL,sliceStr,bound,cut0,srcRows,rowsFit,call_pure,call_view,nilCheck,rInt,rStr,rBool,rByte,hi,hi']
  rw [c266 a[i] b[i]]
  simp only [Option.bind_some,unOp_not,asB_bool,bI_add]
  simp (disch:=omega) only [wrap_i64]
  rw [drop_dec hi hi']
  by_cases h:a[i]=b[i] <;> simp [h]
  simpa using ih
theorem c259 (a b:List SKind) (wa:a.length≤140737488351232):run E (exec E) false 259 [.list (a.map SKind.row),.list (b.map SKind.row)]=some (.bool (decide (a=b))):=by
 rw [run_ent,e259]
 by_cases h:a.length=b.length
 ·have:=c259_4 a b wa h [] 0 (by omega)
  simp only [Int.natCast_zero] at this
  simp [h,this]
 ·have:a ≠ b:=fun e=>h (by rw [e])
  simp [show ¬ (a.length:Int)=b.length by omega,this]
theorem c249 (a b:SFrame) (ha:a.fit) (hb:b.fit):run E (exec E) false 249 [a.d,b.d]=some (.bool (decide (a=b))):=by
 rw [run_ent,e249]
 obtain ⟨a0,a1,a2⟩:=a
 obtain ⟨b0,b1,b2⟩:=b
 simp only [SFrame.fit] at ha hb
 simp [readA_int,readA_bool,readA_str,readA_list,readA_sl0,readA_sl,readA_agg,readA_tup,SFrame.row,ia,ld,st,getRow,rowLen,storeRow,part,D.cells,D.isCell,bld,fillC,bsl,fillR,slS,slL,sliceStr,bound,cut0,srcRows,rowsFit,call_pure,call_view,nilCheck,rInt,rStr,rBool,rByte]
 by_cases g0:¬ a0=b0
 ·simp [g0]
 have g0:=Decidable.not_not.mp g0
 subst g0
 rw [c259 a1 b1 (by simp_all)]
 simp only [Option.bind_some,unOp_not,asB_bool]
 by_cases g1:¬ a1=b1
 ·simp [g1]
 have g1:=Decidable.not_not.mp g1
 subst g1
 try simp [readA_int,readA_bool,readA_str,readA_list,readA_sl0,readA_sl,readA_agg,readA_tup,ia,ld,st,getRow,rowLen,storeRow,part,D.cells,D.isCell,bld,fillC,bsl,fillR,slS,slL,sliceStr,bound,cut0,srcRows,rowsFit,call_pure,call_view,nilCheck,rInt,rStr,rBool,rByte]
 rw [c259 a2 b2 (by simp_all)]
 simp only [Option.bind_some,unOp_not,asB_bool]
 by_cases g2:¬ a2=b2
 ·simp [g2]
 have g2:=Decidable.not_not.mp g2
 subst g2
 try simp [readA_int,readA_bool,readA_str,readA_list,readA_sl0,readA_sl,readA_agg,readA_tup,ia,ld,st,getRow,rowLen,storeRow,part,D.cells,D.isCell,bld,fillC,bsl,fillR,slS,slL,sliceStr,bound,cut0,srcRows,rowsFit,call_pure,call_view,nilCheck,rInt,rStr,rBool,rByte]
 try simp [readA_int,readA_bool,readA_str,readA_list,readA_sl0,readA_sl,readA_agg,readA_tup,ia,ld,st,getRow,rowLen,storeRow,part,D.cells,D.isCell,bld,fillC,bsl,fillR,slS,slL,sliceStr,bound,cut0,srcRows,rowsFit,call_pure,call_view,nilCheck,rInt,rStr,rBool,rByte]
theorem c210_4 (a b:List SFrame) (wa:a.length≤140737488351232∧∀ z ∈ a,z.fit) (wb:b.length≤140737488351232∧∀ z ∈ b,z.fit) (hlen:a.length=b.length) (H:Heap):∀ i,i≤a.length→J E 210 4 [.list (a.map SFrame.row),.list (b.map SFrame.row),.int .i64 i] H=some (.bool (decide (a.drop i=b.drop i)),H):=by
 have w1:=wa.1
 refine loop_up (P:=fun i=>_) ?_ fun i hi ih=>?_
 ·rw [j210_4]
  simp [hlen]
 ·have hi':i < b.length:=by omega
  rw [j210_4]
  simp [readA_int,readA_bool,readA_str,readA_list,readA_sl0,readA_sl,readA_agg,readA_tup,ia,ld,st,getRow,rowLen,storeRow,part,D.cells,D.isCell,bld,fillC,bsl,fillR,slS,slL,sliceStr,bound,cut0,srcRows,rowsFit,call_pure,call_view,nilCheck,rInt,rStr,rBool,rByte,hi,hi']
  rw [c249 a[i] b[i] (wa.2 _ (List.getElem_mem hi)) (wb.2 _ (List.getElem_mem hi'))]
  simp only [Option.bind_some,unOp_not,asB_bool,bI_add]
  simp (disch:=omega) only [wrap_i64]
  rw [drop_dec hi hi']
  by_cases h:a[i]=b[i] <;> simp [h]
  simpa using ih
theorem c210 (a b:List SFrame) (wa:a.length≤140737488351232∧∀ z ∈ a,z.fit) (wb:b.length≤140737488351232∧∀ z ∈ b,z.fit):run E (exec E) false 210 [.list (a.map SFrame.row),.list (b.map SFrame.row)]=some (.bool (decide (a=b))):=by
 rw [run_ent,e210]
 by_cases h:a.length=b.length
 ·have:=c210_4 a b wa wb h [] 0 (by omega)
  simp only [Int.natCast_zero] at this
  simp [h,this]
 ·have:a ≠ b:=fun e=>h (by rw [e])
  simp [show ¬ (a.length:Int)=b.length by omega,this]
theorem c137 (a b:SMethod) (ha:a.fit) (hb:b.fit):run E (exec E) false 137 [a.d,b.d]=some (.bool (decide (a=b))):=by
 rw [run_ent,e137]
 obtain ⟨a0,a1,a2,a3,a4,a5,a6,a7⟩:=a
 obtain ⟨b0,b1,b2,b3,b4,b5,b6,b7⟩:=b
 simp only [SMethod.fit] at ha hb
 simp [readA_int,readA_bool,readA_str,readA_list,readA_sl0,readA_sl,readA_agg,readA_tup,SMethod.row,ia,ld,st,getRow,rowLen,storeRow,part,D.cells,D.isCell,bld,fillC,bsl,fillR,slS,slL,sliceStr,bound,cut0,srcRows,rowsFit,call_pure,call_view,nilCheck,rInt,rStr,rBool,rByte]
 by_cases g0:¬ a0=b0
 ·simp [g0]
 have g0:=Decidable.not_not.mp g0
 subst g0
 by_cases g1:¬ a1=b1
 ·simp [g1]
 have g1:=Decidable.not_not.mp g1
 subst g1
 by_cases g2:¬ a2=b2
 ·simp [g2]
 have g2:=Decidable.not_not.mp g2
 subst g2
 by_cases g3:¬ a3=b3
 ·simp [g3]
 have g3:=Decidable.not_not.mp g3
 subst g3
 by_cases g4:¬ a4=b4
 ·simp [g4]
 have g4:=Decidable.not_not.mp g4
 subst g4
 by_cases g5:¬ a5=b5
 ·simp [g5]
 have g5:=Decidable.not_not.mp g5
 subst g5
 rw [c209 a6 b6 (by simp_all)]
 simp only [Option.bind_some,unOp_not,asB_bool]
 by_cases g6:¬ a6=b6
 ·simp [g6]
 have g6:=Decidable.not_not.mp g6
 subst g6
 try simp [readA_int,readA_bool,readA_str,readA_list,readA_sl0,readA_sl,readA_agg,readA_tup,ia,ld,st,getRow,rowLen,storeRow,part,D.cells,D.isCell,bld,fillC,bsl,fillR,slS,slL,sliceStr,bound,cut0,srcRows,rowsFit,call_pure,call_view,nilCheck,rInt,rStr,rBool,rByte]
 rw [c210 a7 b7 (by simp_all) (by simp_all)]
 simp only [Option.bind_some,unOp_not,asB_bool]
 by_cases g7:¬ a7=b7
 ·simp [g7]
 have g7:=Decidable.not_not.mp g7
 subst g7
 try simp [readA_int,readA_bool,readA_str,readA_list,readA_sl0,readA_sl,readA_agg,readA_tup,ia,ld,st,getRow,rowLen,storeRow,part,D.cells,D.isCell,bld,fillC,bsl,fillR,slS,slL,sliceStr,bound,cut0,srcRows,rowsFit,call_pure,call_view,nilCheck,rInt,rStr,rBool,rByte]
 try simp [readA_int,readA_bool,readA_str,readA_list,readA_sl0,readA_sl,readA_agg,readA_tup,ia,ld,st,getRow,rowLen,storeRow,part,D.cells,D.isCell,bld,fillC,bsl,fillR,slS,slL,sliceStr,bound,cut0,srcRows,rowsFit,call_pure,call_view,nilCheck,rInt,rStr,rBool,rByte]
theorem c59_4 (a b:List SMethod) (wa:a.length≤140737488351232∧∀ z ∈ a,z.fit) (wb:b.length≤140737488351232∧∀ z ∈ b,z.fit) (hlen:a.length=b.length) (H:Heap):∀ i,i≤a.length→J E 59 4 [.list (a.map SMethod.row),.list (b.map SMethod.row),.int .i64 i] H=some (.bool (decide (a.drop i=b.drop i)),H):=by
 have w1:=wa.1
 refine loop_up (P:=fun i=>_) ?_ fun i hi ih=>?_
 ·rw [j59_4]
  simp [hlen]
 ·have hi':i < b.length:=by omega
  rw [j59_4]
  simp [readA_int,readA_bool,readA_str,readA_list,readA_sl0,readA_sl,readA_agg,readA_tup,ia,ld,st,getRow,rowLen,storeRow,part,D.cells,D.isCell,bld,fillC,bsl,fillR,slS,slL,sliceStr,bound,cut0,srcRows,rowsFit,call_pure,call_view,nilCheck,rInt,rStr,rBool,rByte,hi,hi']
  rw [c137 a[i] b[i] (wa.2 _ (List.getElem_mem hi)) (wb.2 _ (List.getElem_mem hi'))]
  simp only [Option.bind_some,unOp_not,asB_bool,bI_add]
  simp (disch:=omega) only [wrap_i64]
  rw [drop_dec hi hi']
  by_cases h:a[i]=b[i] <;> simp [h]
  simpa using ih
theorem c59 (a b:List SMethod) (wa:a.length≤140737488351232∧∀ z ∈ a,z.fit) (wb:b.length≤140737488351232∧∀ z ∈ b,z.fit):run E (exec E) false 59 [.list (a.map SMethod.row),.list (b.map SMethod.row)]=some (.bool (decide (a=b))):=by
 rw [run_ent,e59]
 by_cases h:a.length=b.length
 ·have:=c59_4 a b wa wb h [] 0 (by omega)
  simp only [Int.natCast_zero] at this
  simp [h,this]
 ·have:a ≠ b:=fun e=>h (by rw [e])
  simp [show ¬ (a.length:Int)=b.length by omega,this]
theorem c18 (a b:SClass) (ha:a.fit) (hb:b.fit):run E (exec E) false 18 [a.d,b.d]=some (.bool (decide (a=b))):=by
 rw [run_ent,e18]
 obtain ⟨a0,a1,a2,a3,a4,a5,a6⟩:=a
 obtain ⟨b0,b1,b2,b3,b4,b5,b6⟩:=b
 simp only [SClass.fit] at ha hb
 simp [readA_int,readA_bool,readA_str,readA_list,readA_sl0,readA_sl,readA_agg,readA_tup,SClass.row,ia,ld,st,getRow,rowLen,storeRow,part,D.cells,D.isCell,bld,fillC,bsl,fillR,slS,slL,sliceStr,bound,cut0,srcRows,rowsFit,call_pure,call_view,nilCheck,rInt,rStr,rBool,rByte]
 rw [c56 a0 b0 (by simp_all)]
 simp only [Option.bind_some,unOp_not,asB_bool]
 by_cases g0:¬ a0=b0
 ·simp [g0]
 have g0:=Decidable.not_not.mp g0
 subst g0
 try simp [readA_int,readA_bool,readA_str,readA_list,readA_sl0,readA_sl,readA_agg,readA_tup,ia,ld,st,getRow,rowLen,storeRow,part,D.cells,D.isCell,bld,fillC,bsl,fillR,slS,slL,sliceStr,bound,cut0,srcRows,rowsFit,call_pure,call_view,nilCheck,rInt,rStr,rBool,rByte]
 by_cases g1:¬ a1=b1
 ·simp [g1]
 have g1:=Decidable.not_not.mp g1
 subst g1
 by_cases g2:¬ a2=b2
 ·simp [g2]
 have g2:=Decidable.not_not.mp g2
 subst g2
 by_cases g3:¬ a3=b3
 ·simp [g3]
 have g3:=Decidable.not_not.mp g3
 subst g3
 rw [c57 a4 b4 (by simp_all)]
 simp only [Option.bind_some,unOp_not,asB_bool]
 by_cases g4:¬ a4=b4
 ·simp [g4]
 have g4:=Decidable.not_not.mp g4
 subst g4
 try simp [readA_int,readA_bool,readA_str,readA_list,readA_sl0,readA_sl,readA_agg,readA_tup,ia,ld,st,getRow,rowLen,storeRow,part,D.cells,D.isCell,bld,fillC,bsl,fillR,slS,slL,sliceStr,bound,cut0,srcRows,rowsFit,call_pure,call_view,nilCheck,rInt,rStr,rBool,rByte]
 rw [c58 a5 b5 (by simp_all)]
 simp only [Option.bind_some,unOp_not,asB_bool]
 by_cases g5:¬ a5=b5
 ·simp [g5]
 have g5:=Decidable.not_not.mp g5
 subst g5
 try simp [readA_int,readA_bool,readA_str,readA_list,readA_sl0,readA_sl,readA_agg,readA_tup,ia,ld,st,getRow,rowLen,storeRow,part,D.cells,D.isCell,bld,fillC,bsl,fillR,slS,slL,sliceStr,bound,cut0,srcRows,rowsFit,call_pure,call_view,nilCheck,rInt,rStr,rBool,rByte]
 rw [c59 a6 b6 (by simp_all) (by simp_all)]
 simp only [Option.bind_some,unOp_not,asB_bool]
 by_cases g6:¬ a6=b6
 ·simp [g6]
 have g6:=Decidable.not_not.mp g6
 subst g6
 try simp [readA_int,readA_bool,readA_str,readA_list,readA_sl0,readA_sl,readA_agg,readA_tup,ia,ld,st,getRow,rowLen,storeRow,part,D.cells,D.isCell,bld,fillC,bsl,fillR,slS,slL,sliceStr,bound,cut0,srcRows,rowsFit,call_pure,call_view,nilCheck,rInt,rStr,rBool,rByte]
 try simp [readA_int,readA_bool,readA_str,readA_list,readA_sl0,readA_sl,readA_agg,readA_tup,ia,ld,st,getRow,rowLen,storeRow,part,D.cells,D.isCell,bld,fillC,bsl,fillR,slS,slL,sliceStr,bound,cut0,srcRows,rowsFit,call_pure,call_view,nilCheck,rInt,rStr,rBool,rByte]
theorem c151 (a b:SFile):run E (exec E) false 151 [a.d,b.d]=some (.bool (decide (a=b))):=by
 rw [run_ent,e151]
 obtain ⟨a0,a1⟩:=a
 obtain ⟨b0,b1⟩:=b
 simp [readA_int,readA_bool,readA_str,readA_list,readA_sl0,readA_sl,readA_agg,readA_tup,SFile.row,ia,ld,st,getRow,rowLen,storeRow,part,D.cells,D.isCell,bld,fillC,bsl,fillR,slS,slL,sliceStr,bound,cut0,srcRows,rowsFit,call_pure,call_view,nilCheck,rInt,rStr,rBool,rByte]
 by_cases g0:¬ a0=b0
 ·simp [g0]
 have g0:=Decidable.not_not.mp g0
 subst g0
 by_cases g1:¬ a1=b1
 ·simp [g1]
 have g1:=Decidable.not_not.mp g1
 subst g1
 try simp [readA_int,readA_bool,readA_str,readA_list,readA_sl0,readA_sl,readA_agg,readA_tup,ia,ld,st,getRow,rowLen,storeRow,part,D.cells,D.isCell,bld,fillC,bsl,fillR,slS,slL,sliceStr,bound,cut0,srcRows,rowsFit,call_pure,call_view,nilCheck,rInt,rStr,rBool,rByte]
theorem c77_4 (a b:List SFile) (wa:a.length≤140737488351232) (hlen:a.length=b.length) (H:Heap):∀ i,i≤a.length→J E 77 4 [.list (a.map SFile.row),.list (b.map SFile.row),.int .i64 i] H=some (.bool (decide (a.drop i=b.drop i)),H):=by
 have w1:=wa
 refine loop_up (P:=fun i=>_) ?_ fun i hi ih=>?_
 ·rw [j77_4]
  simp [hlen]
 ·have hi':i < b.length:=by omega
  rw [j77_4]
  simp [readA_int,readA_bool,readA_str,readA_list,readA_sl0,readA_sl,readA_agg,readA_tup,ia,ld,st,getRow,rowLen,storeRow,part,D.cells,D.isCell,bld,fillC,bsl,fillR,slS,slL,sliceStr,bound,cut0,srcRows,rowsFit,call_pure,call_view,nilCheck,rInt,rStr,rBool,rByte,hi,hi']
  rw [c151 a[i] b[i]]
  simp only [Option.bind_some,unOp_not,asB_bool,bI_add]
  simp (disch:=omega) only [wrap_i64]
  rw [drop_dec hi hi']
  by_cases h:a[i]=b[i] <;> simp [h]
  simpa using ih
theorem c77 (a b:List SFile) (wa:a.length≤140737488351232):run E (exec E) false 77 [.list (a.map SFile.row),.list (b.map SFile.row)]=some (.bool (decide (a=b))):=by
 rw [run_ent,e77]
 by_cases h:a.length=b.length
 ·have:=c77_4 a b wa h [] 0 (by omega)
  simp only [Int.natCast_zero] at this
  simp [h,this]
 ·have:a ≠ b:=fun e=>h (by rw [e])
  simp [show ¬ (a.length:Int)=b.length by omega,this]
theorem c152 (a b:SWay):run E (exec E) false 152 [a.d,b.d]=some (.bool (decide (a=b))):=by
 rw [run_ent,e152]
 obtain ⟨a0,a1⟩:=a
 obtain ⟨b0,b1⟩:=b
 simp [readA_int,readA_bool,readA_str,readA_list,readA_sl0,readA_sl,readA_agg,readA_tup,SWay.row,ia,ld,st,getRow,rowLen,storeRow,part,D.cells,D.isCell,bld,fillC,bsl,fillR,slS,slL,sliceStr,bound,cut0,srcRows,rowsFit,call_pure,call_view,nilCheck,rInt,rStr,rBool,rByte]
 by_cases g0:¬ a0=b0
 ·simp [g0]
 have g0:=Decidable.not_not.mp g0
 subst g0
 by_cases g1:¬ a1=b1
 ·simp [g1]
 have g1:=Decidable.not_not.mp g1
 subst g1
 try simp [readA_int,readA_bool,readA_str,readA_list,readA_sl0,readA_sl,readA_agg,readA_tup,ia,ld,st,getRow,rowLen,storeRow,part,D.cells,D.isCell,bld,fillC,bsl,fillR,slS,slL,sliceStr,bound,cut0,srcRows,rowsFit,call_pure,call_view,nilCheck,rInt,rStr,rBool,rByte]
theorem c78_4 (a b:List SWay) (wa:a.length≤140737488351232) (hlen:a.length=b.length) (H:Heap):∀ i,i≤a.length→J E 78 4 [.list (a.map SWay.row),.list (b.map SWay.row),.int .i64 i] H=some (.bool (decide (a.drop i=b.drop i)),H):=by
 have w1:=wa
 refine loop_up (P:=fun i=>_) ?_ fun i hi ih=>?_
 ·rw [j78_4]
  simp [hlen]
 ·have hi':i < b.length:=by omega
  rw [j78_4]
  simp [readA_int,readA_bool,readA_str,readA_list,readA_sl0,readA_sl,readA_agg,readA_tup,ia,ld,st,getRow,rowLen,storeRow,part,D.cells,D.isCell,bld,fillC,bsl,fillR,slS,slL,sliceStr,bound,cut0,srcRows,rowsFit,call_pure,call_view,nilCheck,rInt,rStr,rBool,rByte,hi,hi']
  rw [c152 a[i] b[i]]
  simp only [Option.bind_some,unOp_not,asB_bool,bI_add]
  simp (disch:=omega) only [wrap_i64]
  rw [drop_dec hi hi']
  by_cases h:a[i]=b[i] <;> simp [h]
  simpa using ih
theorem c78 (a b:List SWay) (wa:a.length≤140737488351232):run E (exec E) false 78 [.list (a.map SWay.row),.list (b.map SWay.row)]=some (.bool (decide (a=b))):=by
 rw [run_ent,e78]
 by_cases h:a.length=b.length
 ·have:=c78_4 a b wa h [] 0 (by omega)
  simp only [Int.natCast_zero] at this
  simp [h,this]
 ·have:a ≠ b:=fun e=>h (by rw [e])
  simp [show ¬ (a.length:Int)=b.length by omega,this]
theorem c29 (a b:SLoader) (ha:a.fit) (hb:b.fit):run E (exec E) false 29 [a.d,b.d]=some (.bool (decide (a=b))):=by
 rw [run_ent,e29]
 obtain ⟨a0,a1,a2⟩:=a
 obtain ⟨b0,b1,b2⟩:=b
 simp only [SLoader.fit] at ha hb
 simp [readA_int,readA_bool,readA_str,readA_list,readA_sl0,readA_sl,readA_agg,readA_tup,SLoader.row,ia,ld,st,getRow,rowLen,storeRow,part,D.cells,D.isCell,bld,fillC,bsl,fillR,slS,slL,sliceStr,bound,cut0,srcRows,rowsFit,call_pure,call_view,nilCheck,rInt,rStr,rBool,rByte]
 rw [c77 a0 b0 (by simp_all)]
 simp only [Option.bind_some,unOp_not,asB_bool]
 by_cases g0:¬ a0=b0
 ·simp [g0]
 have g0:=Decidable.not_not.mp g0
 subst g0
 try simp [readA_int,readA_bool,readA_str,readA_list,readA_sl0,readA_sl,readA_agg,readA_tup,ia,ld,st,getRow,rowLen,storeRow,part,D.cells,D.isCell,bld,fillC,bsl,fillR,slS,slL,sliceStr,bound,cut0,srcRows,rowsFit,call_pure,call_view,nilCheck,rInt,rStr,rBool,rByte]
 rw [c78 a1 b1 (by simp_all)]
 simp only [Option.bind_some,unOp_not,asB_bool]
 by_cases g1:¬ a1=b1
 ·simp [g1]
 have g1:=Decidable.not_not.mp g1
 subst g1
 try simp [readA_int,readA_bool,readA_str,readA_list,readA_sl0,readA_sl,readA_agg,readA_tup,ia,ld,st,getRow,rowLen,storeRow,part,D.cells,D.isCell,bld,fillC,bsl,fillR,slS,slL,sliceStr,bound,cut0,srcRows,rowsFit,call_pure,call_view,nilCheck,rInt,rStr,rBool,rByte]
 by_cases g2:¬ a2=b2
 ·simp [g2]
 have g2:=Decidable.not_not.mp g2
 subst g2
 try simp [readA_int,readA_bool,readA_str,readA_list,readA_sl0,readA_sl,readA_agg,readA_tup,ia,ld,st,getRow,rowLen,storeRow,part,D.cells,D.isCell,bld,fillC,bsl,fillR,slS,slL,sliceStr,bound,cut0,srcRows,rowsFit,call_pure,call_view,nilCheck,rInt,rStr,rBool,rByte]
theorem c10_4 (a b:List SLoader) (wa:a.length≤140737488351232∧∀ z ∈ a,z.fit) (wb:b.length≤140737488351232∧∀ z ∈ b,z.fit) (hlen:a.length=b.length) (H:Heap):∀ i,i≤a.length→J E 10 4 [.list (a.map SLoader.row),.list (b.map SLoader.row),.int .i64 i] H=some (.bool (decide (a.drop i=b.drop i)),H):=by
 have w1:=wa.1
 refine loop_up (P:=fun i=>_) ?_ fun i hi ih=>?_
 ·rw [j10_4]
  simp [hlen]
 ·have hi':i < b.length:=by omega
  rw [j10_4]
  simp [readA_int,readA_bool,readA_str,readA_list,readA_sl0,readA_sl,readA_agg,readA_tup,ia,ld,st,getRow,rowLen,storeRow,part,D.cells,D.isCell,bld,fillC,bsl,fillR,slS,slL,sliceStr,bound,cut0,srcRows,rowsFit,call_pure,call_view,nilCheck,rInt,rStr,rBool,rByte,hi,hi']
  rw [c29 a[i] b[i] (wa.2 _ (List.getElem_mem hi)) (wb.2 _ (List.getElem_mem hi'))]
  simp only [Option.bind_some,unOp_not,asB_bool,bI_add]
  simp (disch:=omega) only [wrap_i64]
  rw [drop_dec hi hi']
  by_cases h:a[i]=b[i] <;> simp [h]
  simpa using ih
theorem c10 (a b:List SLoader) (wa:a.length≤140737488351232∧∀ z ∈ a,z.fit) (wb:b.length≤140737488351232∧∀ z ∈ b,z.fit):run E (exec E) false 10 [.list (a.map SLoader.row),.list (b.map SLoader.row)]=some (.bool (decide (a=b))):=by
 rw [run_ent,e10]
 by_cases h:a.length=b.length
 ·have:=c10_4 a b wa wb h [] 0 (by omega)
  simp only [Int.natCast_zero] at this
  simp [h,this]
 ·have:a ≠ b:=fun e=>h (by rw [e])
  simp [show ¬ (a.length:Int)=b.length by omega,this]
theorem c75 (a b:SKnown):run E (exec E) false 75 [a.d,b.d]=some (.bool (decide (a=b))):=by
 rw [run_ent,e75]
 obtain ⟨a0,a1,a2⟩:=a
 obtain ⟨b0,b1,b2⟩:=b
 simp [readA_int,readA_bool,readA_str,readA_list,readA_sl0,readA_sl,readA_agg,readA_tup,SKnown.row,ia,ld,st,getRow,rowLen,storeRow,part,D.cells,D.isCell,bld,fillC,bsl,fillR,slS,slL,sliceStr,bound,cut0,srcRows,rowsFit,call_pure,call_view,nilCheck,rInt,rStr,rBool,rByte]
 by_cases g0:¬ a0=b0
 ·simp [g0]
 have g0:=Decidable.not_not.mp g0
 subst g0
 by_cases g1:¬ a1=b1
 ·simp [g1]
 have g1:=Decidable.not_not.mp g1
 subst g1
 by_cases g2:¬ a2=b2
 ·simp [g2]
 have g2:=Decidable.not_not.mp g2
 subst g2
 try simp [readA_int,readA_bool,readA_str,readA_list,readA_sl0,readA_sl,readA_agg,readA_tup,ia,ld,st,getRow,rowLen,storeRow,part,D.cells,D.isCell,bld,fillC,bsl,fillR,slS,slL,sliceStr,bound,cut0,srcRows,rowsFit,call_pure,call_view,nilCheck,rInt,rStr,rBool,rByte]
theorem c27_4 (a b:List SKnown) (wa:a.length≤140737488351232) (hlen:a.length=b.length) (H:Heap):∀ i,i≤a.length→J E 27 4 [.list (a.map SKnown.row),.list (b.map SKnown.row),.int .i64 i] H=some (.bool (decide (a.drop i=b.drop i)),H):=by
 have w1:=wa
 refine loop_up (P:=fun i=>_) ?_ fun i hi ih=>?_
 ·rw [j27_4]
  simp [hlen]
 ·have hi':i < b.length:=by omega
  rw [j27_4]
  simp [readA_int,readA_bool,readA_str,readA_list,readA_sl0,readA_sl,readA_agg,readA_tup,ia,ld,st,getRow,rowLen,storeRow,part,D.cells,D.isCell,bld,fillC,bsl,fillR,slS,slL,sliceStr,bound,cut0,srcRows,rowsFit,call_pure,call_view,nilCheck,rInt,rStr,rBool,rByte,hi,hi']
  rw [c75 a[i] b[i]]
  simp only [Option.bind_some,unOp_not,asB_bool,bI_add]
  simp (disch:=omega) only [wrap_i64]
  rw [drop_dec hi hi']
  by_cases h:a[i]=b[i] <;> simp [h]
  simpa using ih
theorem c27 (a b:List SKnown) (wa:a.length≤140737488351232):run E (exec E) false 27 [.list (a.map SKnown.row),.list (b.map SKnown.row)]=some (.bool (decide (a=b))):=by
 rw [run_ent,e27]
 by_cases h:a.length=b.length
 ·have:=c27_4 a b wa h [] 0 (by omega)
  simp only [Int.natCast_zero] at this
  simp [h,this]
 ·have:a ≠ b:=fun e=>h (by rw [e])
  simp [show ¬ (a.length:Int)=b.length by omega,this]
theorem c76 (a b:SBond) (ha:a.fit) (hb:b.fit):run E (exec E) false 76 [a.d,b.d]=some (.bool (decide (a=b))):=by
 rw [run_ent,e76]
 obtain ⟨a0,a1,a2⟩:=a
 obtain ⟨b0,b1,b2⟩:=b
 simp only [SBond.fit] at ha hb
 simp [readA_int,readA_bool,readA_str,readA_list,readA_sl0,readA_sl,readA_agg,readA_tup,SBond.row,ia,ld,st,getRow,rowLen,storeRow,part,D.cells,D.isCell,bld,fillC,bsl,fillR,slS,slL,sliceStr,bound,cut0,srcRows,rowsFit,call_pure,call_view,nilCheck,rInt,rStr,rBool,rByte]
 by_cases g0:¬ a0=b0
 ·simp [g0]
 have g0:=Decidable.not_not.mp g0
 subst g0
 rw [c57 a1 b1 (by simp_all)]
 simp only [Option.bind_some,unOp_not,asB_bool]
 by_cases g1:¬ a1=b1
 ·simp [g1]
 have g1:=Decidable.not_not.mp g1
 subst g1
 try simp [readA_int,readA_bool,readA_str,readA_list,readA_sl0,readA_sl,readA_agg,readA_tup,ia,ld,st,getRow,rowLen,storeRow,part,D.cells,D.isCell,bld,fillC,bsl,fillR,slS,slL,sliceStr,bound,cut0,srcRows,rowsFit,call_pure,call_view,nilCheck,rInt,rStr,rBool,rByte]
 by_cases g2:¬ a2=b2
 ·simp [g2]
 have g2:=Decidable.not_not.mp g2
 subst g2
 try simp [readA_int,readA_bool,readA_str,readA_list,readA_sl0,readA_sl,readA_agg,readA_tup,ia,ld,st,getRow,rowLen,storeRow,part,D.cells,D.isCell,bld,fillC,bsl,fillR,slS,slL,sliceStr,bound,cut0,srcRows,rowsFit,call_pure,call_view,nilCheck,rInt,rStr,rBool,rByte]
theorem c28_4 (a b:List SBond) (wa:a.length≤140737488351232∧∀ z ∈ a,z.fit) (wb:b.length≤140737488351232∧∀ z ∈ b,z.fit) (hlen:a.length=b.length) (H:Heap):∀ i,i≤a.length→J E 28 4 [.list (a.map SBond.row),.list (b.map SBond.row),.int .i64 i] H=some (.bool (decide (a.drop i=b.drop i)),H):=by
 have w1:=wa.1
 refine loop_up (P:=fun i=>_) ?_ fun i hi ih=>?_
 ·rw [j28_4]
  simp [hlen]
 ·have hi':i < b.length:=by omega
  rw [j28_4]
  simp [readA_int,readA_bool,readA_str,readA_list,readA_sl0,readA_sl,readA_agg,readA_tup,ia,ld,st,getRow,rowLen,storeRow,part,D.cells,D.isCell,bld,fillC,bsl,fillR,slS,slL,sliceStr,bound,cut0,srcRows,rowsFit,call_pure,call_view,nilCheck,rInt,rStr,rBool,rByte,hi,hi']
  rw [c76 a[i] b[i] (wa.2 _ (List.getElem_mem hi)) (wb.2 _ (List.getElem_mem hi'))]
  simp only [Option.bind_some,unOp_not,asB_bool,bI_add]
  simp (disch:=omega) only [wrap_i64]
  rw [drop_dec hi hi']
  by_cases h:a[i]=b[i] <;> simp [h]
  simpa using ih
theorem c28 (a b:List SBond) (wa:a.length≤140737488351232∧∀ z ∈ a,z.fit) (wb:b.length≤140737488351232∧∀ z ∈ b,z.fit):run E (exec E) false 28 [.list (a.map SBond.row),.list (b.map SBond.row)]=some (.bool (decide (a=b))):=by
 rw [run_ent,e28]
 by_cases h:a.length=b.length
 ·have:=c28_4 a b wa wb h [] 0 (by omega)
  simp only [Int.natCast_zero] at this
  simp [h,this]
 ·have:a ≠ b:=fun e=>h (by rw [e])
  simp [show ¬ (a.length:Int)=b.length by omega,this]
theorem c213 (a b:SSlot):run E (exec E) false 213 [a.d,b.d]=some (.bool (decide (a=b))):=by
 rw [run_ent,e213]
 obtain ⟨a0,a1⟩:=a
 obtain ⟨b0,b1⟩:=b
 simp [readA_int,readA_bool,readA_str,readA_list,readA_sl0,readA_sl,readA_agg,readA_tup,SSlot.row,ia,ld,st,getRow,rowLen,storeRow,part,D.cells,D.isCell,bld,fillC,bsl,fillR,slS,slL,sliceStr,bound,cut0,srcRows,rowsFit,call_pure,call_view,nilCheck,rInt,rStr,rBool,rByte]
 by_cases g0:¬ a0=b0
 ·simp [g0]
 have g0:=Decidable.not_not.mp g0
 subst g0
 by_cases g1:¬ a1=b1
 ·simp [g1]
 have g1:=Decidable.not_not.mp g1
 subst g1
 try simp [readA_int,readA_bool,readA_str,readA_list,readA_sl0,readA_sl,readA_agg,readA_tup,ia,ld,st,getRow,rowLen,storeRow,part,D.cells,D.isCell,bld,fillC,bsl,fillR,slS,slL,sliceStr,bound,cut0,srcRows,rowsFit,call_pure,call_view,nilCheck,rInt,rStr,rBool,rByte]
theorem c148_4 (a b:List SSlot) (wa:a.length≤140737488351232) (hlen:a.length=b.length) (H:Heap):∀ i,i≤a.length→J E 148 4 [.list (a.map SSlot.row),.list (b.map SSlot.row),.int .i64 i] H=some (.bool (decide (a.drop i=b.drop i)),H):=by
 have w1:=wa
 refine loop_up (P:=fun i=>_) ?_ fun i hi ih=>?_
 ·rw [j148_4]
  simp [hlen]
 ·have hi':i < b.length:=by omega
  rw [j148_4]
  simp [readA_int,readA_bool,readA_str,readA_list,readA_sl0,readA_sl,readA_agg,readA_tup,ia,ld,st,getRow,rowLen,storeRow,part,D.cells,D.isCell,bld,fillC,bsl,fillR,slS,slL,sliceStr,bound,cut0,srcRows,rowsFit,call_pure,call_view,nilCheck,rInt,rStr,rBool,rByte,hi,hi']
  rw [c213 a[i] b[i]]
  simp only [Option.bind_some,unOp_not,asB_bool,bI_add]
  simp (disch:=omega) only [wrap_i64]
  rw [drop_dec hi hi']
  by_cases h:a[i]=b[i] <;> simp [h]
  simpa using ih
theorem c148 (a b:List SSlot) (wa:a.length≤140737488351232):run E (exec E) false 148 [.list (a.map SSlot.row),.list (b.map SSlot.row)]=some (.bool (decide (a=b))):=by
 rw [run_ent,e148]
 by_cases h:a.length=b.length
 ·have:=c148_4 a b wa h [] 0 (by omega)
  simp only [Int.natCast_zero] at this
  simp [h,this]
 ·have:a ≠ b:=fun e=>h (by rw [e])
  simp [show ¬ (a.length:Int)=b.length by omega,this]
theorem c214 (a b:SRow):run E (exec E) false 214 [a.d,b.d]=some (.bool (decide (a=b))):=by
 rw [run_ent,e214]
 obtain ⟨a0,a1,a2,a3⟩:=a
 obtain ⟨b0,b1,b2,b3⟩:=b
 simp [readA_int,readA_bool,readA_str,readA_list,readA_sl0,readA_sl,readA_agg,readA_tup,SRow.row,ia,ld,st,getRow,rowLen,storeRow,part,D.cells,D.isCell,bld,fillC,bsl,fillR,slS,slL,sliceStr,bound,cut0,srcRows,rowsFit,call_pure,call_view,nilCheck,rInt,rStr,rBool,rByte]
 by_cases g0:¬ a0=b0
 ·simp [g0]
 have g0:=Decidable.not_not.mp g0
 subst g0
 by_cases g1:¬ a1=b1
 ·simp [g1]
 have g1:=Decidable.not_not.mp g1
 subst g1
 by_cases g2:¬ a2=b2
 ·simp [g2]
 have g2:=Decidable.not_not.mp g2
 subst g2
 by_cases g3:¬ a3=b3
 ·simp [g3]
 have g3:=Decidable.not_not.mp g3
 subst g3
 try simp [readA_int,readA_bool,readA_str,readA_list,readA_sl0,readA_sl,readA_agg,readA_tup,ia,ld,st,getRow,rowLen,storeRow,part,D.cells,D.isCell,bld,fillC,bsl,fillR,slS,slL,sliceStr,bound,cut0,srcRows,rowsFit,call_pure,call_view,nilCheck,rInt,rStr,rBool,rByte]
theorem c149_4 (a b:List SRow) (wa:a.length≤140737488351232) (hlen:a.length=b.length) (H:Heap):∀ i,i≤a.length→J E 149 4 [.list (a.map SRow.row),.list (b.map SRow.row),.int .i64 i] H=some (.bool (decide (a.drop i=b.drop i)),H):=by
 have w1:=wa
 refine loop_up (P:=fun i=>_) ?_ fun i hi ih=>?_
 ·rw [j149_4]
  simp [hlen]
 ·have hi':i < b.length:=by omega
  rw [j149_4]
  simp [readA_int,readA_bool,readA_str,readA_list,readA_sl0,readA_sl,readA_agg,readA_tup,ia,ld,st,getRow,rowLen,storeRow,part,D.cells,D.isCell,bld,fillC,bsl,fillR,slS,slL,sliceStr,bound,cut0,srcRows,rowsFit,call_pure,call_view,nilCheck,rInt,rStr,rBool,rByte,hi,hi']
  rw [c214 a[i] b[i]]
  simp only [Option.bind_some,unOp_not,asB_bool,bI_add]
  simp (disch:=omega) only [wrap_i64]
  rw [drop_dec hi hi']
  by_cases h:a[i]=b[i] <;> simp [h]
  simpa using ih
theorem c149 (a b:List SRow) (wa:a.length≤140737488351232):run E (exec E) false 149 [.list (a.map SRow.row),.list (b.map SRow.row)]=some (.bool (decide (a=b))):=by
 rw [run_ent,e149]
 by_cases h:a.length=b.length
 ·have:=c149_4 a b wa h [] 0 (by omega)
  simp only [Int.natCast_zero] at this
  simp [h,this]
 ·have:a ≠ b:=fun e=>h (by rw [e])
  simp [show ¬ (a.length:Int)=b.length by omega,this]
theorem c215 (a b:SVal):run E (exec E) false 215 [a.d,b.d]=some (.bool (decide (a=b))):=by
 rw [run_ent,e215]
 obtain ⟨a0,a1⟩:=a
 obtain ⟨b0,b1⟩:=b
 simp [readA_int,readA_bool,readA_str,readA_list,readA_sl0,readA_sl,readA_agg,readA_tup,SVal.row,ia,ld,st,getRow,rowLen,storeRow,part,D.cells,D.isCell,bld,fillC,bsl,fillR,slS,slL,sliceStr,bound,cut0,srcRows,rowsFit,call_pure,call_view,nilCheck,rInt,rStr,rBool,rByte]
 by_cases g0:¬ a0=b0
 ·simp [g0]
 have g0:=Decidable.not_not.mp g0
 subst g0
 by_cases g1:¬ a1=b1
 ·simp [g1]
 have g1:=Decidable.not_not.mp g1
 subst g1
 try simp [readA_int,readA_bool,readA_str,readA_list,readA_sl0,readA_sl,readA_agg,readA_tup,ia,ld,st,getRow,rowLen,storeRow,part,D.cells,D.isCell,bld,fillC,bsl,fillR,slS,slL,sliceStr,bound,cut0,srcRows,rowsFit,call_pure,call_view,nilCheck,rInt,rStr,rBool,rByte]
theorem c150_4 (a b:List SVal) (wa:a.length≤140737488351232) (hlen:a.length=b.length) (H:Heap):∀ i,i≤a.length→J E 150 4 [.list (a.map SVal.row),.list (b.map SVal.row),.int .i64 i] H=some (.bool (decide (a.drop i=b.drop i)),H):=by
 have w1:=wa
 refine loop_up (P:=fun i=>_) ?_ fun i hi ih=>?_
 ·rw [j150_4]
  simp [hlen]
 ·have hi':i < b.length:=by omega
  rw [j150_4]
  simp [readA_int,readA_bool,readA_str,readA_list,readA_sl0,readA_sl,readA_agg,readA_tup,ia,ld,st,getRow,rowLen,storeRow,part,D.cells,D.isCell,bld,fillC,bsl,fillR,slS,slL,sliceStr,bound,cut0,srcRows,rowsFit,call_pure,call_view,nilCheck,rInt,rStr,rBool,rByte,hi,hi']
  rw [c215 a[i] b[i]]
  simp only [Option.bind_some,unOp_not,asB_bool,bI_add]
  simp (disch:=omega) only [wrap_i64]
  rw [drop_dec hi hi']
  by_cases h:a[i]=b[i] <;> simp [h]
  simpa using ih
theorem c150 (a b:List SVal) (wa:a.length≤140737488351232):run E (exec E) false 150 [.list (a.map SVal.row),.list (b.map SVal.row)]=some (.bool (decide (a=b))):=by
 rw [run_ent,e150]
 by_cases h:a.length=b.length
 ·have:=c150_4 a b wa h [] 0 (by omega)
  simp only [Int.natCast_zero] at this
  simp [h,this]
 ·have:a ≠ b:=fun e=>h (by rw [e])
  simp [show ¬ (a.length:Int)=b.length by omega,this]
theorem c74 (a b:SCls) (ha:a.fit) (hb:b.fit):run E (exec E) false 74 [a.d,b.d]=some (.bool (decide (a=b))):=by
 rw [run_ent,e74]
 obtain ⟨a0,a1,a2,a3,a4,a5,a6,a7,a8,a9⟩:=a
 obtain ⟨b0,b1,b2,b3,b4,b5,b6,b7,b8,b9⟩:=b
 simp only [SCls.fit] at ha hb
 simp [readA_int,readA_bool,readA_str,readA_list,readA_sl0,readA_sl,readA_agg,readA_tup,SCls.row,ia,ld,st,getRow,rowLen,storeRow,part,D.cells,D.isCell,bld,fillC,bsl,fillR,slS,slL,sliceStr,bound,cut0,srcRows,rowsFit,call_pure,call_view,nilCheck,rInt,rStr,rBool,rByte]
 by_cases g0:¬ a0=b0
 ·simp [g0]
 have g0:=Decidable.not_not.mp g0
 subst g0
 by_cases g1:¬ a1=b1
 ·simp [g1]
 have g1:=Decidable.not_not.mp g1
 subst g1
 have q2:=c18 a2 b2 (by simp only [SClass.fit]; simp_all) (by simp only [SClass.fit]; simp_all)
 simp only [SClass.d,SClass.row] at q2
 rw [q2]
 simp only [Option.bind_some,unOp_not,asB_bool]
 by_cases g2:¬ a2=b2
 ·simp [g2]
 have g2:=Decidable.not_not.mp g2
 subst g2
 try simp [readA_int,readA_bool,readA_str,readA_list,readA_sl0,readA_sl,readA_agg,readA_tup,ia,ld,st,getRow,rowLen,storeRow,part,D.cells,D.isCell,bld,fillC,bsl,fillR,slS,slL,sliceStr,bound,cut0,srcRows,rowsFit,call_pure,call_view,nilCheck,rInt,rStr,rBool,rByte]
 by_cases g3:¬ a3=b3
 ·simp [g3]
 have g3:=Decidable.not_not.mp g3
 subst g3
 rw [c57 a4 b4 (by simp_all)]
 simp only [Option.bind_some,unOp_not,asB_bool]
 by_cases g4:¬ a4=b4
 ·simp [g4]
 have g4:=Decidable.not_not.mp g4
 subst g4
 try simp [readA_int,readA_bool,readA_str,readA_list,readA_sl0,readA_sl,readA_agg,readA_tup,ia,ld,st,getRow,rowLen,storeRow,part,D.cells,D.isCell,bld,fillC,bsl,fillR,slS,slL,sliceStr,bound,cut0,srcRows,rowsFit,call_pure,call_view,nilCheck,rInt,rStr,rBool,rByte]
 by_cases g5:¬ a5=b5
 ·simp [g5]
 have g5:=Decidable.not_not.mp g5
 subst g5
 by_cases g6:¬ a6=b6
 ·simp [g6]
 have g6:=Decidable.not_not.mp g6
 subst g6
 rw [c148 a7 b7 (by simp_all)]
 simp only [Option.bind_some,unOp_not,asB_bool]
 by_cases g7:¬ a7=b7
 ·simp [g7]
 have g7:=Decidable.not_not.mp g7
 subst g7
 try simp [readA_int,readA_bool,readA_str,readA_list,readA_sl0,readA_sl,readA_agg,readA_tup,ia,ld,st,getRow,rowLen,storeRow,part,D.cells,D.isCell,bld,fillC,bsl,fillR,slS,slL,sliceStr,bound,cut0,srcRows,rowsFit,call_pure,call_view,nilCheck,rInt,rStr,rBool,rByte]
 rw [c149 a8 b8 (by simp_all)]
 simp only [Option.bind_some,unOp_not,asB_bool]
 by_cases g8:¬ a8=b8
 ·simp [g8]
 have g8:=Decidable.not_not.mp g8
 subst g8
 try simp [readA_int,readA_bool,readA_str,readA_list,readA_sl0,readA_sl,readA_agg,readA_tup,ia,ld,st,getRow,rowLen,storeRow,part,D.cells,D.isCell,bld,fillC,bsl,fillR,slS,slL,sliceStr,bound,cut0,srcRows,rowsFit,call_pure,call_view,nilCheck,rInt,rStr,rBool,rByte]
 rw [c150 a9 b9 (by simp_all)]
 simp only [Option.bind_some,unOp_not,asB_bool]
 by_cases g9:¬ a9=b9
 ·simp [g9]
 have g9:=Decidable.not_not.mp g9
 subst g9
 try simp [readA_int,readA_bool,readA_str,readA_list,readA_sl0,readA_sl,readA_agg,readA_tup,ia,ld,st,getRow,rowLen,storeRow,part,D.cells,D.isCell,bld,fillC,bsl,fillR,slS,slL,sliceStr,bound,cut0,srcRows,rowsFit,call_pure,call_view,nilCheck,rInt,rStr,rBool,rByte]
 try simp [readA_int,readA_bool,readA_str,readA_list,readA_sl0,readA_sl,readA_agg,readA_tup,ia,ld,st,getRow,rowLen,storeRow,part,D.cells,D.isCell,bld,fillC,bsl,fillR,slS,slL,sliceStr,bound,cut0,srcRows,rowsFit,call_pure,call_view,nilCheck,rInt,rStr,rBool,rByte]
theorem c26_4 (a b:List SCls) (wa:a.length≤140737488351232∧∀ z ∈ a,z.fit) (wb:b.length≤140737488351232∧∀ z ∈ b,z.fit) (hlen:a.length=b.length) (H:Heap):∀ i,i≤a.length→J E 26 4 [.list (a.map SCls.row),.list (b.map SCls.row),.int .i64 i] H=some (.bool (decide (a.drop i=b.drop i)),H):=by
 have w1:=wa.1
 refine loop_up (P:=fun i=>_) ?_ fun i hi ih=>?_
 ·rw [j26_4]
  simp [hlen]
 ·have hi':i < b.length:=by omega
  rw [j26_4]
  simp [readA_int,readA_bool,readA_str,readA_list,readA_sl0,readA_sl,readA_agg,readA_tup,ia,ld,st,getRow,rowLen,storeRow,part,D.cells,D.isCell,bld,fillC,bsl,fillR,slS,slL,sliceStr,bound,cut0,srcRows,rowsFit,call_pure,call_view,nilCheck,rInt,rStr,rBool,rByte,hi,hi']
  rw [c74 a[i] b[i] (wa.2 _ (List.getElem_mem hi)) (wb.2 _ (List.getElem_mem hi'))]
  simp only [Option.bind_some,unOp_not,asB_bool,bI_add]
  simp (disch:=omega) only [wrap_i64]
  rw [drop_dec hi hi']
  by_cases h:a[i]=b[i] <;> simp [h]
  simpa using ih
theorem c26 (a b:List SCls) (wa:a.length≤140737488351232∧∀ z ∈ a,z.fit) (wb:b.length≤140737488351232∧∀ z ∈ b,z.fit):run E (exec E) false 26 [.list (a.map SCls.row),.list (b.map SCls.row)]=some (.bool (decide (a=b))):=by
 rw [run_ent,e26]
 by_cases h:a.length=b.length
 ·have:=c26_4 a b wa wb h [] 0 (by omega)
  simp only [Int.natCast_zero] at this
  simp [h,this]
 ·have:a ≠ b:=fun e=>h (by rw [e])
  simp [show ¬ (a.length:Int)=b.length by omega,this]
theorem c9 (a b:SWorld) (ha:a.fit) (hb:b.fit):run E (exec E) false 9 [a.d,b.d]=some (.bool (decide (a=b))):=by
 rw [run_ent,e9]
 obtain ⟨a0,a1,a2,a3⟩:=a
 obtain ⟨b0,b1,b2,b3⟩:=b
 simp only [SWorld.fit] at ha hb
 simp [readA_int,readA_bool,readA_str,readA_list,readA_sl0,readA_sl,readA_agg,readA_tup,SWorld.row,ia,ld,st,getRow,rowLen,storeRow,part,D.cells,D.isCell,bld,fillC,bsl,fillR,slS,slL,sliceStr,bound,cut0,srcRows,rowsFit,call_pure,call_view,nilCheck,rInt,rStr,rBool,rByte]
 rw [c10 a0 b0 (by simp_all) (by simp_all)]
 simp only [Option.bind_some,unOp_not,asB_bool]
 by_cases g0:¬ a0=b0
 ·simp [g0]
 have g0:=Decidable.not_not.mp g0
 subst g0
 try simp [readA_int,readA_bool,readA_str,readA_list,readA_sl0,readA_sl,readA_agg,readA_tup,ia,ld,st,getRow,rowLen,storeRow,part,D.cells,D.isCell,bld,fillC,bsl,fillR,slS,slL,sliceStr,bound,cut0,srcRows,rowsFit,call_pure,call_view,nilCheck,rInt,rStr,rBool,rByte]
 rw [c26 a1 b1 (by simp_all) (by simp_all)]
 simp only [Option.bind_some,unOp_not,asB_bool]
 by_cases g1:¬ a1=b1
 ·simp [g1]
 have g1:=Decidable.not_not.mp g1
 subst g1
 try simp [readA_int,readA_bool,readA_str,readA_list,readA_sl0,readA_sl,readA_agg,readA_tup,ia,ld,st,getRow,rowLen,storeRow,part,D.cells,D.isCell,bld,fillC,bsl,fillR,slS,slL,sliceStr,bound,cut0,srcRows,rowsFit,call_pure,call_view,nilCheck,rInt,rStr,rBool,rByte]
 rw [c27 a2 b2 (by simp_all)]
 simp only [Option.bind_some,unOp_not,asB_bool]
 by_cases g2:¬ a2=b2
 ·simp [g2]
 have g2:=Decidable.not_not.mp g2
 subst g2
 try simp [readA_int,readA_bool,readA_str,readA_list,readA_sl0,readA_sl,readA_agg,readA_tup,ia,ld,st,getRow,rowLen,storeRow,part,D.cells,D.isCell,bld,fillC,bsl,fillR,slS,slL,sliceStr,bound,cut0,srcRows,rowsFit,call_pure,call_view,nilCheck,rInt,rStr,rBool,rByte]
 rw [c28 a3 b3 (by simp_all) (by simp_all)]
 simp only [Option.bind_some,unOp_not,asB_bool]
 by_cases g3:¬ a3=b3
 ·simp [g3]
 have g3:=Decidable.not_not.mp g3
 subst g3
 try simp [readA_int,readA_bool,readA_str,readA_list,readA_sl0,readA_sl,readA_agg,readA_tup,ia,ld,st,getRow,rowLen,storeRow,part,D.cells,D.isCell,bld,fillC,bsl,fillR,slS,slL,sliceStr,bound,cut0,srcRows,rowsFit,call_pure,call_view,nilCheck,rInt,rStr,rBool,rByte]
 try simp [readA_int,readA_bool,readA_str,readA_list,readA_sl0,readA_sl,readA_agg,readA_tup,ia,ld,st,getRow,rowLen,storeRow,part,D.cells,D.isCell,bld,fillC,bsl,fillR,slS,slL,sliceStr,bound,cut0,srcRows,rowsFit,call_pure,call_view,nilCheck,rInt,rStr,rBool,rByte]
end Go.Ev.YtmljkoieihaomaaGreat
namespace Go.Ev.YtmljkoieihaomaaGreat
set_option linter.unusedVariables false
set_option linter.unusedSimpArgs false
set_option linter.unusedSectionVars false
set_option linter.defProp false
set_option maxHeartbeats 1000000
open Go.Ev
theorem c142 (x:SFile) (l:Bool):run E (exec E) l 142 [x.d]=some x.d:=by
 rw [run_ent,e142]
 simp [readA_int,readA_bool,readA_str,readA_list,readA_sl0,readA_sl,readA_agg,readA_tup,SFile.row,ia,ld,st,getRow,rowLen,storeRow,part,D.cells,D.isCell,bld,fillC,bsl,fillR,slS,slL,sliceStr,bound,cut0,srcRows,rowsFit,call_pure,call_view,nilCheck,rInt,rStr,rBool,rByte]
theorem c65_3 (xs:List SFile) (hl:szL SFile.sz xs≤1048576):∀ i,i≤xs.length→∀ H,Filling H 0 0 xs.length [.str [],.str []] ((xs.take i).map SFile.row)→∃ H',J E 65 3 [.list (xs.map SFile.row),.sl 0 0 xs.length,.int .i64 i] H=some (.sl 0 0 xs.length,H')∧Filling H' 0 0 xs.length [.str [],.str []] (xs.map SFile.row):=by
 have hx:=szL_len hl
 refine loop_up (P:=fun i=>_) ?_ fun i hi ih H hF=>?_
 ·intro H hF
  rw [List.take_length] at hF
  refine ⟨H,?_,hF⟩
  rw [j65_3]; simp
 ·rw [j65_3]
  have hlt:((xs.take i).map SFile.row).length < xs.length:=by simp; omega
  have hti:((xs.take i).map SFile.row).length=i:=by simp; omega
  have hnx:(xs.take i).map SFile.row++[SFile.row xs[i]]=(xs.take (i + 1)).map SFile.row:=by rw [List.take_add_one,List.getElem?_eq_getElem hi,List.map_append]; rfl
  rw [Ev.ia_list (n:=(i:Int)) (by omega) (by simpa using hi) (by simp [rInt,rStr])]
  simp only [lnL_list,List.length_map,Option.bind_some,bI_lss,asB_bool,Int.ofNat_lt,hi,decide_true,cond_true,ld_el,Int.toNat_natCast,List.getElem_map]
  rw [show part xs[i].row (0,2,true)=some xs[i].d from rfl]; simp only [Option.bind_some]
  simp only [readA_int,readA_bool,readA_str,readA_list,readA_sl0,readA_sl,readA_agg,readA_tup,call_pure,optAll_cons,optAll_nil,SFile.readD,Option.bind_some,c142]
  rw [hF.ia (esz:=2) (i:=(i:Int)) hlt rfl (by omega) rfl]; simp only [Option.bind_some]
  obtain ⟨H2,q,hF2,-,-⟩:=hF.store hlt (v:=xs[i].d) (t:=xs[i].row) (RepR.scalars rfl) (FreshB.nil H) rfl (z:=2) rfl rfl
  rw [q]; simp only [Option.bind_some]
  rw [hnx] at hF2
  obtain ⟨H3,k1,k2⟩:=ih H2 hF2
  refine ⟨H3,?_,k2⟩
  simp only [bI_add,Option.bind_some]
  simp (disch:=omega) only [wrap_i64]
  simpa using k1
theorem c65 (xs:List SFile) (hl:szL SFile.sz xs≤1048576):OwnC E 1 65 [.list (xs.map SFile.row)] (.list (xs.map SFile.row)):=by
 have hx:=szL_len hl
 obtain ⟨H,h1,h2⟩:=c65_3 xs hl 0 (by omega) [some (List.replicate xs.length [.str [],.str []])] (Filling.start [] 0 xs.length [.str [],.str []])
 obtain ⟨B,h3,h4⟩:=h2.done (by simp)
 refine ⟨_,_,_,?_,h3,h4⟩
 rw [e65]; simp only [lnL_list,List.length_map,Option.bind_some]
 rw [mks_eq (by unfold maxLen; omega) (by unfold maxLen; omega) rfl]
 simpa using h1
theorem c143 (x:SWay) (l:Bool):run E (exec E) l 143 [x.d]=some x.d:=by
 rw [run_ent,e143]
 simp [readA_int,readA_bool,readA_str,readA_list,readA_sl0,readA_sl,readA_agg,readA_tup,SWay.row,ia,ld,st,getRow,rowLen,storeRow,part,D.cells,D.isCell,bld,fillC,bsl,fillR,slS,slL,sliceStr,bound,cut0,srcRows,rowsFit,call_pure,call_view,nilCheck,rInt,rStr,rBool,rByte]
theorem c66_3 (xs:List SWay) (hl:szL SWay.sz xs≤1048576):∀ i,i≤xs.length→∀ H,Filling H 0 0 xs.length [.str [],.int .i64 0] ((xs.take i).map SWay.row)→∃ H',J E 66 3 [.list (xs.map SWay.row),.sl 0 0 xs.length,.int .i64 i] H=some (.sl 0 0 xs.length,H')∧Filling H' 0 0 xs.length [.str [],.int .i64 0] (xs.map SWay.row):=by
 have hx:=szL_len hl
 refine loop_up (P:=fun i=>_) ?_ fun i hi ih H hF=>?_
 ·intro H hF
  rw [List.take_length] at hF
  refine ⟨H,?_,hF⟩
  rw [j66_3]; simp
 ·rw [j66_3]
  have hlt:((xs.take i).map SWay.row).length < xs.length:=by simp; omega
  have hti:((xs.take i).map SWay.row).length=i:=by simp; omega
  have hnx:(xs.take i).map SWay.row++[SWay.row xs[i]]=(xs.take (i + 1)).map SWay.row:=by rw [List.take_add_one,List.getElem?_eq_getElem hi,List.map_append]; rfl
  rw [Ev.ia_list (n:=(i:Int)) (by omega) (by simpa using hi) (by simp [rInt,rStr])]
  simp only [lnL_list,List.length_map,Option.bind_some,bI_lss,asB_bool,Int.ofNat_lt,hi,decide_true,cond_true,ld_el,Int.toNat_natCast,List.getElem_map]
  rw [show part xs[i].row (0,2,true)=some xs[i].d from rfl]; simp only [Option.bind_some]
  simp only [readA_int,readA_bool,readA_str,readA_list,readA_sl0,readA_sl,readA_agg,readA_tup,call_pure,optAll_cons,optAll_nil,SWay.readD,Option.bind_some,c143]
  rw [hF.ia (esz:=2) (i:=(i:Int)) hlt rfl (by omega) rfl]; simp only [Option.bind_some]
  obtain ⟨H2,q,hF2,-,-⟩:=hF.store hlt (v:=xs[i].d) (t:=xs[i].row) (RepR.scalars rfl) (FreshB.nil H) rfl (z:=2) rfl rfl
  rw [q]; simp only [Option.bind_some]
  rw [hnx] at hF2
  obtain ⟨H3,k1,k2⟩:=ih H2 hF2
  refine ⟨H3,?_,k2⟩
  simp only [bI_add,Option.bind_some]
  simp (disch:=omega) only [wrap_i64]
  simpa using k1
theorem c66 (xs:List SWay) (hl:szL SWay.sz xs≤1048576):OwnC E 1 66 [.list (xs.map SWay.row)] (.list (xs.map SWay.row)):=by
 have hx:=szL_len hl
 obtain ⟨H,h1,h2⟩:=c66_3 xs hl 0 (by omega) [some (List.replicate xs.length [.str [],.int .i64 0])] (Filling.start [] 0 xs.length [.str [],.int .i64 0])
 obtain ⟨B,h3,h4⟩:=h2.done (by simp)
 refine ⟨_,_,_,?_,h3,h4⟩
 rw [e66]; simp only [lnL_list,List.length_map,Option.bind_some]
 rw [mks_eq (by unfold maxLen; omega) (by unfold maxLen; omega) rfl]
 simpa using h1
theorem c22 (x:SLoader) (h:x.sz≤1048576):OwnC E 2 22 [x.d] x.d:=by
 simp only [SLoader.sz] at h
 unfold OwnC
 rw [e22]
 simp only [D.cells]
 rw [alloc_eq _ _ _ (SLoader.isCell x),alloc_eq _ _ _ rfl,alloc_eq _ _ _ rfl]
 simp only [List.length_nil,List.nil_append,List.cons_append,List.length_cons,Nat.zero_add,fa_ptr,Option.bind_some]
 have C0:=Conv.start x.row [.sl0,.sl0,.int .i64 0] 1
 generalize [some [x.row],some [[.sl0,.sl0,.int .i64 0]],some [[.sl0,.sl0,.int .i64 0]]]=G0 at C0 ⊢
 rw [C0.src,show part x.row (0,1,false)=some (.list (x.Files.map SFile.row)) from rfl]; simp only [Option.bind_some]
 obtain ⟨d0,K0,B0,p0,r0,f0⟩:=(c65 x.Files (by omega)).call (H0:=G0) (ds:=[.list (x.Files.map SFile.row)]) (by omega) rfl
 rw [p0]; simp only [Option.bind_some]
 have e0:d0.cells=[d0]:=by have:=r0.cell rfl; cases d0 <;> first | rfl | (cases this; done)
 obtain ⟨G1,q0,C1⟩:=C0.store (v:=d0) (t:=[.list (x.Files.map SFile.row)]) (by rw [e0]; exact RepR.cons (B':=[]) (r0.up (by omega)) .nil) (by simpa using f0) rfl (k:=0) (z:=1) rfl rfl (by decide)
 rw [q0]; simp only [Option.bind_some]
 rw [C1.src,show part x.row (1,1,false)=some (.list (x.Ways.map SWay.row)) from rfl]; simp only [Option.bind_some]
 obtain ⟨d1,K1,B1,p1,r1,f1⟩:=(c66 x.Ways (by omega)).call (H0:=G1) (ds:=[.list (x.Ways.map SWay.row)]) (by omega) rfl
 rw [p1]; simp only [Option.bind_some]
 have e1:d1.cells=[d1]:=by have:=r1.cell rfl; cases d1 <;> first | rfl | (cases this; done)
 obtain ⟨G2,q1,C2⟩:=C1.store (v:=d1) (t:=[.list (x.Ways.map SWay.row)]) (by rw [e1]; exact RepR.cons (B':=[]) (r1.up (by omega)) .nil) (by simpa using f1) rfl (k:=1) (z:=1) rfl rfl (by decide)
 rw [q1]; simp only [Option.bind_some]
 rw [C2.src,show part x.row (2,1,false)=some (.int .i64 x.Parent) from rfl]; simp only [Option.bind_some]
 obtain ⟨G3,q2,C3⟩:=C2.store (v:=.int .i64 x.Parent) (t:=[.int .i64 x.Parent]) (RepR.scalars (r:=[.int .i64 x.Parent]) rfl) (FreshB.nil G2) rfl (k:=2) (z:=1) rfl rfl (by decide)
 rw [q2]; simp only [Option.bind_some]
 obtain ⟨p,G,q,r,R⟩:=C3.finish rfl (z:=3) rfl rfl
 rw [p]; simp only [Option.bind_some]; rw [q]; simp only [Option.bind_some]; rw [r]
 exact ⟨_,_,_,rfl,R,C3.2.2.2.2.1⟩
theorem c7_3 (xs:List SLoader) (hl:szL SLoader.sz xs≤1048576):∀ i,i≤xs.length→∀ H,Filling H 0 1 xs.length [.sl0,.sl0,.int .i64 0] ((xs.take i).map SLoader.row)→∃ H',J E 7 3 [.list (xs.map SLoader.row),.sl 0 0 xs.length,.int .i64 i] H=some (.sl 0 0 xs.length,H')∧Filling H' 0 1 xs.length [.sl0,.sl0,.int .i64 0] (xs.map SLoader.row):=by
 have hx:=szL_len hl
 refine loop_up (P:=fun i=>_) ?_ fun i hi ih H hF=>?_
 ·intro H hF
  rw [List.take_length] at hF
  refine ⟨H,?_,hF⟩
  rw [j7_3]; simp
 ·rw [j7_3]
  have hlt:((xs.take i).map SLoader.row).length < xs.length:=by simp; omega
  have hti:((xs.take i).map SLoader.row).length=i:=by simp; omega
  have hnx:(xs.take i).map SLoader.row++[SLoader.row xs[i]]=(xs.take (i + 1)).map SLoader.row:=by rw [List.take_add_one,List.getElem?_eq_getElem hi,List.map_append]; rfl
  rw [Ev.ia_list (n:=(i:Int)) (by omega) (by simpa using hi) (by simp [rInt,rStr])]
  simp only [lnL_list,List.length_map,Option.bind_some,bI_lss,asB_bool,Int.ofNat_lt,hi,decide_true,cond_true,ld_el,Int.toNat_natCast,List.getElem_map]
  rw [show part xs[i].row (0,3,true)=some xs[i].d from rfl]; simp only [Option.bind_some]
  obtain ⟨d,H1,B1,p,r,fr⟩:=(c22 xs[i] (szL_get hl hi)).call (H0:=H) (ds:=[xs[i].d]) (by omega) (by simp)
  rw [p]; simp only [Option.bind_some]
  obtain ⟨cs,rfl,r9⟩:∃ cs,d = .agg cs∧RepR true H1 1 cs xs[i].row B1:=by cases r with | agg h=>exact ⟨_,rfl,h⟩ | sc h=>cases h
  rw [hF.ia (esz:=3) (i:=(i:Int)) hlt (fr.keep (by obtain ⟨_,_,h,_⟩:=hF; exact getBlk_lt' h)) (by omega) rfl]; simp only [Option.bind_some]
  obtain ⟨H2,q,hF2,-,-⟩:=hF.store hlt (v:=.agg cs) (t:=xs[i].row) r9 fr rfl (z:=3) rfl rfl
  rw [q]; simp only [Option.bind_some]
  rw [hnx] at hF2
  obtain ⟨H3,k1,k2⟩:=ih H2 hF2
  refine ⟨H3,?_,k2⟩
  simp only [bI_add,Option.bind_some]
  simp (disch:=omega) only [wrap_i64]
  simpa using k1
theorem c7 (xs:List SLoader) (hl:szL SLoader.sz xs≤1048576):OwnC E 2 7 [.list (xs.map SLoader.row)] (.list (xs.map SLoader.row)):=by
 have hx:=szL_len hl
 obtain ⟨H,h1,h2⟩:=c7_3 xs hl 0 (by omega) [some (List.replicate xs.length [.sl0,.sl0,.int .i64 0])] (Filling.start [] 1 xs.length [.sl0,.sl0,.int .i64 0])
 obtain ⟨B,h3,h4⟩:=h2.done (by simp)
 refine ⟨_,_,_,?_,h3,h4⟩
 rw [e7]; simp only [lnL_list,List.length_map,Option.bind_some]
 rw [mks_eq (by unfold maxLen; omega) (by unfold maxLen; omega) rfl]
 simpa using h1
end Go.Ev.YtmljkoieihaomaaGreat
