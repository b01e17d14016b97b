import Derived.Test.YtmpfooibdekppaaGreatDoorD0
namespace Go.Ev.YtmpfooibdekppaaGreatDoor
set_option linter.unusedVariables false
set_option linter.unusedSimpArgs false
set_option linter.unusedSectionVars false
set_option linter.defProp false
set_option maxHeartbeats 1000000
open Go.Ev
theorem c10 (xs:List Int) (left:Int) (w:xs.length≤140737488351232∧∀ y ∈ xs,i64 y) (h0:0≤left) (h1:left≤1048576):run E (exec E) false 10 [.list (xs.map rInt),.int .i64 left]=some (.int .i64 (szR (szL (fun _=>0) xs) left)):=by
 have w1:=w.1
 rw [run_ent,e10]
 simp
 rw [wrap_i64 (n:=left - (xs.length:Int)) (by omega) (by omega)]
 have hz:szL (fun _=>0) xs=xs.length:=szL_zero xs
 rw [hz]
 by_cases g:(xs.length:Int)≤left
 ·simp [szR,g,show ¬ left - (xs.length:Int) < 0 by omega]
 ·simp [szR,g,show left - (xs.length:Int) < 0 by omega]
theorem c27 (x:SConst) (left:Int) (hw:x.wf) (h0:0≤left) (h1:left≤1048576):run E (exec E) false 27 [x.d,.int .i64 left]=some (.int .i64 (szR x.sz left)):=by
 obtain ⟨-,w0,-,-⟩:=hw
 rw [run_ent,e27]
 simp [readA_int,readA_bool,readA_str,readA_list,readA_sl0,readA_sl,readA_agg,readA_tup,SConst.row,ia,ld,st,getRow,rowLen,storeRow,part,D.cells,D.isCell,bld,fillC,bsl,fillR,slS,slL,sliceStr,bound,cut0,srcRows,rowsFit,call_pure,call_view,nilCheck,rInt,rStr,rBool,rByte]
 rw [wrap_i64 (n:=left - (x.Text.length:Int)) (by omega) (by omega)]
 by_cases g0:¬ (x.Text.length:Int)≤left
 ·simp [show left - (x.Text.length:Int) < 0 by omega]
  rw [szR_neg (by simp only [SConst.sz]; omega)]
 simp only [show ¬ left - (x.Text.length:Int) < 0 by omega,decide_false,cond_false]
 rw [szR_pos (by simp only [SConst.sz]; omega)]
 simp [SConst.sz]
 try omega
theorem c9_5 (xs:List SConst) (w:xs.length≤140737488351232∧∀ y ∈ xs,y.wf) (H:Heap):∀ i,i≤xs.length→∀ left:Int,0≤left→left≤1048576→J E 9 5 [.list (xs.map SConst.row),.int .i64 left,.int .i64 i] H=some (.int .i64 (szR ((xs.drop i).map SConst.sz).sum left),H):=by
 have w1:=w.1
 refine loop_up (P:=fun i=>_) ?_ fun i hi ih left h0 h1=>?_
 ·intro left h0 h1
  rw [j9_5]
  simp [szR,h0]
 ·have hs:((xs.drop i).map SConst.sz).sum=SConst.sz xs[i] + ((xs.drop (i + 1)).map SConst.sz).sum:=by rw [List.drop_eq_getElem_cons hi]; rfl
  generalize ((xs.drop i).map SConst.sz).sum=S0 at hs
  generalize hS1:((xs.drop (i + 1)).map SConst.sz).sum=S1 at hs ih
  rw [j9_5]
  simp [readA_int,readA_bool,readA_str,readA_list,readA_sl0,readA_sl,readA_agg,readA_tup,ia,ld,st,getRow,rowLen,storeRow,part,D.cells,D.isCell,bld,fillC,bsl,fillR,slS,slL,sliceStr,bound,cut0,srcRows,rowsFit,call_pure,call_view,nilCheck,rInt,rStr,rBool,rByte,hi]
  have q:=c27 xs[i] left (w.2 _ (List.getElem_mem hi)) h0 h1
  rw [q]
  simp only [Option.bind_some,bI_lss,asB_bool,bI_add]
  rw [wrap_i64 (n:=(i:Int) + 1) (by omega) (by omega)]
  by_cases g:¬ ((xs[i].sz:Nat):Int)≤left
  ·rw [szR_neg g,szR_neg (by omega)]; simp
  have g:=Decidable.not_not.mp g
  simp only [szR_pos g,show ¬ left - ((xs[i].sz:Nat):Int) < 0 by omega,decide_false,cond_false]
  have:=ih (left - ((xs[i].sz:Nat):Int)) (by omega) (by omega)
  simp only [Int.natCast_add,Int.natCast_one] at this
  rw [this]
  by_cases g2:(S1:Int)≤left - ((xs[i].sz:Nat):Int)
  ·rw [szR_pos g2,szR_pos (by omega)]; congr 3; omega
  ·rw [szR_neg g2,szR_neg (by omega)]
theorem c9 (xs:List SConst) (left:Int) (w:xs.length≤140737488351232∧∀ y ∈ xs,y.wf) (h0:0≤left) (h1:left≤1048576):run E (exec E) false 9 [.list (xs.map SConst.row),.int .i64 left]=some (.int .i64 (szR (szL SConst.sz xs) left)):=by
 have w1:=w.1
 rw [run_ent,e9]
 simp
 rw [wrap_i64 (n:=left - (xs.length:Int)) (by omega) (by omega)]
 by_cases g:¬ (xs.length:Int)≤left
 ·rw [szR_neg (by simp only [szL]; omega)]; simp [show left - (xs.length:Int) < 0 by omega]
 simp only [show ¬ left - (xs.length:Int) < 0 by omega,decide_false,cond_false]
 have:=c9_5 xs w [] 0 (by omega) (left - xs.length) (by omega) (by omega)
 simp only [Int.natCast_zero,List.drop_zero] at this
 rw [this]
 simp only [readA_int,readA_bool,readA_str,readA_list,readA_sl0,readA_sl,readA_agg,readA_tup,Option.bind_some,readT_int,szL]
 by_cases g2:(((xs.map SConst.sz).sum:Nat):Int)≤left - xs.length
 ·rw [szR_pos g2,szR_pos (by omega)]; simp only [Int.natCast_add]; congr 2; omega
 ·rw [szR_neg g2,szR_neg (by omega)]
theorem c11 (xs:List SField) (left:Int) (w:xs.length≤140737488351232∧∀ y ∈ xs,y.wf) (h0:0≤left) (h1:left≤1048576):run E (exec E) false 11 [.list (xs.map SField.row),.int .i64 left]=some (.int .i64 (szR (szL (fun _=>0) xs) left)):=by
 have w1:=w.1
 rw [run_ent,e11]
 simp
 rw [wrap_i64 (n:=left - (xs.length:Int)) (by omega) (by omega)]
 have hz:szL (fun _=>0) xs=xs.length:=szL_zero xs
 rw [hz]
 by_cases g:(xs.length:Int)≤left
 ·simp [szR,g,show ¬ left - (xs.length:Int) < 0 by omega]
 ·simp [szR,g,show left - (xs.length:Int) < 0 by omega]
theorem c52 (xs:List STrap) (left:Int) (w:xs.length≤140737488351232∧∀ y ∈ xs,y.wf) (h0:0≤left) (h1:left≤1048576):run E (exec E) false 52 [.list (xs.map STrap.row),.int .i64 left]=some (.int .i64 (szR (szL (fun _=>0) xs) left)):=by
 have w1:=w.1
 rw [run_ent,e52]
 simp
 rw [wrap_i64 (n:=left - (xs.length:Int)) (by omega) (by omega)]
 have hz:szL (fun _=>0) xs=xs.length:=szL_zero xs
 rw [hz]
 by_cases g:(xs.length:Int)≤left
 ·simp [szR,g,show ¬ left - (xs.length:Int) < 0 by omega]
 ·simp [szR,g,show left - (xs.length:Int) < 0 by omega]
theorem c147 (xs:List SKind) (left:Int) (w:xs.length≤140737488351232∧∀ y ∈ xs,y.wf) (h0:0≤left) (h1:left≤1048576):run E (exec E) false 147 [.list (xs.map SKind.row),.int .i64 left]=some (.int .i64 (szR (szL (fun _=>0) xs) left)):=by
 have w1:=w.1
 rw [run_ent,e147]
 simp
 rw [wrap_i64 (n:=left - (xs.length:Int)) (by omega) (by omega)]
 have hz:szL (fun _=>0) xs=xs.length:=szL_zero xs
 rw [hz]
 by_cases g:(xs.length:Int)≤left
 ·simp [szR,g,show ¬ left - (xs.length:Int) < 0 by omega]
 ·simp [szR,g,show left - (xs.length:Int) < 0 by omega]
theorem c94 (x:SFrame) (left:Int) (hw:x.wf) (h0:0≤left) (h1:left≤1048576):run E (exec E) false 94 [x.d,.int .i64 left]=some (.int .i64 (szR x.sz left)):=by
 obtain ⟨-,w0,w1⟩:=hw
 rw [run_ent,e94]
 simp [readA_int,readA_bool,readA_str,readA_list,readA_sl0,readA_sl,readA_agg,readA_tup,SFrame.row,ia,ld,st,getRow,rowLen,storeRow,part,D.cells,D.isCell,bld,fillC,bsl,fillR,slS,slL,sliceStr,bound,cut0,srcRows,rowsFit,call_pure,call_view,nilCheck,rInt,rStr,rBool,rByte]
 rw [c147 x.Locals (left) w0 (by omega) (by omega)]
 simp only [Option.bind_some,bI_lss,asB_bool]
 by_cases g0:¬ ((szL (fun _=>0) x.Locals:Nat):Int)≤left
 ·rw [szR_neg g0,szR_neg (s:=x.sz) (by simp only [SFrame.sz]; omega)]; simp
 have g0:=Decidable.not_not.mp g0
 simp only [readA_int,readA_bool,readA_str,readA_list,readA_sl0,readA_sl,readA_agg,readA_tup,szR_pos g0,show ¬ left - ((szL (fun _=>0) x.Locals:Nat):Int) < 0 by omega,decide_false,cond_false,Option.bind_some,fa_ptr,getBlk_zero,List.getElem?_cons_zero,List.getElem?_cons_succ,Nat.zero_add,optAll_cons,optAll_nil,readT_int,readT_list9]
 rw [c147 x.Stack (left - ((szL (fun _=>0) x.Locals:Nat):Int)) w1 (by omega) (by omega)]
 simp only [Option.bind_some,bI_lss,asB_bool]
 by_cases g1:¬ ((szL (fun _=>0) x.Stack:Nat):Int)≤left - ((szL (fun _=>0) x.Locals:Nat):Int)
 ·rw [szR_neg g1,szR_neg (s:=x.sz) (by simp only [SFrame.sz]; omega)]; simp
 have g1:=Decidable.not_not.mp g1
 simp only [readA_int,readA_bool,readA_str,readA_list,readA_sl0,readA_sl,readA_agg,readA_tup,szR_pos g1,show ¬ left - ((szL (fun _=>0) x.Locals:Nat):Int) - ((szL (fun _=>0) x.Stack:Nat):Int) < 0 by omega,decide_false,cond_false,Option.bind_some,fa_ptr,getBlk_zero,List.getElem?_cons_zero,List.getElem?_cons_succ,Nat.zero_add,optAll_cons,optAll_nil,readT_int,readT_list9]
 rw [szR_pos (by simp only [SFrame.sz]; omega)]
 simp [SFrame.sz]
 try omega
theorem c53_5 (xs:List SFrame) (w:xs.length≤140737488351232∧∀ y ∈ xs,y.wf) (H:Heap):∀ i,i≤xs.length→∀ left:Int,0≤left→left≤1048576→J E 53 5 [.list (xs.map SFrame.row),.int .i64 left,.int .i64 i] H=some (.int .i64 (szR ((xs.drop i).map SFrame.sz).sum left),H):=by
 have w1:=w.1
 refine loop_up (P:=fun i=>_) ?_ fun i hi ih left h0 h1=>?_
 ·intro left h0 h1
  rw [j53_5]
  simp [szR,h0]
 ·have hs:((xs.drop i).map SFrame.sz).sum=SFrame.sz xs[i] + ((xs.drop (i + 1)).map SFrame.sz).sum:=by rw [List.drop_eq_getElem_cons hi]; rfl
  generalize ((xs.drop i).map SFrame.sz).sum=S0 at hs
  generalize hS1:((xs.drop (i + 1)).map SFrame.sz).sum=S1 at hs ih
  rw [j53_5]
  simp [readA_int,readA_bool,readA_str,readA_list,readA_sl0,readA_sl,readA_agg,readA_tup,ia,ld,st,getRow,rowLen,storeRow,part,D.cells,D.isCell,bld,fillC,bsl,fillR,slS,slL,sliceStr,bound,cut0,srcRows,rowsFit,call_pure,call_view,nilCheck,rInt,rStr,rBool,rByte,hi]
  have q:=c94 xs[i] left (w.2 _ (List.getElem_mem hi)) h0 h1
  rw [q]
  simp only [Option.bind_some,bI_lss,asB_bool,bI_add]
  rw [wrap_i64 (n:=(i:Int) + 1) (by omega) (by omega)]
  by_cases g:¬ ((xs[i].sz:Nat):Int)≤left
  ·rw [szR_neg g,szR_neg (by omega)]; simp
  have g:=Decidable.not_not.mp g
  simp only [szR_pos g,show ¬ left - ((xs[i].sz:Nat):Int) < 0 by omega,decide_false,cond_false]
  have:=ih (left - ((xs[i].sz:Nat):Int)) (by omega) (by omega)
  simp only [Int.natCast_add,Int.natCast_one] at this
  rw [this]
  by_cases g2:(S1:Int)≤left - ((xs[i].sz:Nat):Int)
  ·rw [szR_pos g2,szR_pos (by omega)]; congr 3; omega
  ·rw [szR_neg g2,szR_neg (by omega)]
theorem c53 (xs:List SFrame) (left:Int) (w:xs.length≤140737488351232∧∀ y ∈ xs,y.wf) (h0:0≤left) (h1:left≤1048576):run E (exec E) false 53 [.list (xs.map SFrame.row),.int .i64 left]=some (.int .i64 (szR (szL SFrame.sz xs) left)):=by
 have w1:=w.1
 rw [run_ent,e53]
 simp
 rw [wrap_i64 (n:=left - (xs.length:Int)) (by omega) (by omega)]
 by_cases g:¬ (xs.length:Int)≤left
 ·rw [szR_neg (by simp only [szL]; omega)]; simp [show left - (xs.length:Int) < 0 by omega]
 simp only [show ¬ left - (xs.length:Int) < 0 by omega,decide_false,cond_false]
 have:=c53_5 xs w [] 0 (by omega) (left - xs.length) (by omega) (by omega)
 simp only [Int.natCast_zero,List.drop_zero] at this
 rw [this]
 simp only [readA_int,readA_bool,readA_str,readA_list,readA_sl0,readA_sl,readA_agg,readA_tup,Option.bind_some,readT_int,szL]
 by_cases g2:(((xs.map SFrame.sz).sum:Nat):Int)≤left - xs.length
 ·rw [szR_pos g2,szR_pos (by omega)]; simp only [Int.natCast_add]; congr 2; omega
 ·rw [szR_neg g2,szR_neg (by omega)]
theorem c28 (x:SMethod) (left:Int) (hw:x.wf) (h0:0≤left) (h1:left≤1048576):run E (exec E) false 28 [x.d,.int .i64 left]=some (.int .i64 (szR x.sz left)):=by
 obtain ⟨-,-,-,-,-,w0,w1,w2⟩:=hw
 rw [run_ent,e28]
 simp [readA_int,readA_bool,readA_str,readA_list,readA_sl0,readA_sl,readA_agg,readA_tup,SMethod.row,ia,ld,st,getRow,rowLen,storeRow,part,D.cells,D.isCell,bld,fillC,bsl,fillR,slS,slL,sliceStr,bound,cut0,srcRows,rowsFit,call_pure,call_view,nilCheck,rInt,rStr,rBool,rByte]
 rw [wrap_i64 (n:=left - (x.Code.length:Int)) (by omega) (by omega)]
 by_cases g0:¬ (x.Code.length:Int)≤left
 ·simp [show left - (x.Code.length:Int) < 0 by omega]
  rw [szR_neg (by simp only [SMethod.sz]; omega)]
 simp only [show ¬ left - (x.Code.length:Int) < 0 by omega,decide_false,cond_false]
 rw [c52 x.Traps (left - (x.Code.length:Int)) w1 (by omega) (by omega)]
 simp only [Option.bind_some,bI_lss,asB_bool]
 by_cases g1:¬ ((szL (fun _=>0) x.Traps:Nat):Int)≤left - (x.Code.length:Int)
 ·rw [szR_neg g1,szR_neg (s:=x.sz) (by simp only [SMethod.sz]; omega)]; simp
 have g1:=Decidable.not_not.mp g1
 simp only [readA_int,readA_bool,readA_str,readA_list,readA_sl0,readA_sl,readA_agg,readA_tup,szR_pos g1,show ¬ left - (x.Code.length:Int) - ((szL (fun _=>0) x.Traps:Nat):Int) < 0 by omega,decide_false,cond_false,Option.bind_some,fa_ptr,getBlk_zero,List.getElem?_cons_zero,List.getElem?_cons_succ,Nat.zero_add,optAll_cons,optAll_nil,readT_int,readT_list9]
 rw [c53 x.Frames (left - (x.Code.length:Int) - ((szL (fun _=>0) x.Traps:Nat):Int)) w2 (by omega) (by omega)]
 simp only [Option.bind_some,bI_lss,asB_bool]
 by_cases g2:¬ ((szL SFrame.sz x.Frames:Nat):Int)≤left - (x.Code.length:Int) - ((szL (fun _=>0) x.Traps:Nat):Int)
 ·rw [szR_neg g2,szR_neg (s:=x.sz) (by simp only [SMethod.sz]; omega)]; simp
 have g2:=Decidable.not_not.mp g2
 simp only [readA_int,readA_bool,readA_str,readA_list,readA_sl0,readA_sl,readA_agg,readA_tup,szR_pos g2,show ¬ left - (x.Code.length:Int) - ((szL (fun _=>0) x.Traps:Nat):Int) - ((szL SFrame.sz x.Frames:Nat):Int) < 0 by omega,decide_false,cond_false,Option.bind_some,fa_ptr,getBlk_zero,List.getElem?_cons_zero,List.getElem?_cons_succ,Nat.zero_add,optAll_cons,optAll_nil,readT_int,readT_list9]
 rw [szR_pos (by simp only [SMethod.sz]; omega)]
 simp [SMethod.sz]
 try omega
theorem c12_5 (xs:List SMethod) (w:xs.length≤140737488351232∧∀ y ∈ xs,y.wf) (H:Heap):∀ i,i≤xs.length→∀ left:Int,0≤left→left≤1048576→J E 12 5 [.list (xs.map SMethod.row),.int .i64 left,.int .i64 i] H=some (.int .i64 (szR ((xs.drop i).map SMethod.sz).sum left),H):=by
 have w1:=w.1
 refine loop_up (P:=fun i=>_) ?_ fun i hi ih left h0 h1=>?_
 ·intro left h0 h1
  rw [j12_5]
  simp [szR,h0]
 ·have hs:((xs.drop i).map SMethod.sz).sum=SMethod.sz xs[i] + ((xs.drop (i + 1)).map SMethod.sz).sum:=by rw [List.drop_eq_getElem_cons hi]; rfl
  generalize ((xs.drop i).map SMethod.sz).sum=S0 at hs
  generalize hS1:((xs.drop (i + 1)).map SMethod.sz).sum=S1 at hs ih
  rw [j12_5]
  simp [readA_int,readA_bool,readA_str,readA_list,readA_sl0,readA_sl,readA_agg,readA_tup,ia,ld,st,getRow,rowLen,storeRow,part,D.cells,D.isCell,bld,fillC,bsl,fillR,slS,slL,sliceStr,bound,cut0,srcRows,rowsFit,call_pure,call_view,nilCheck,rInt,rStr,rBool,rByte,hi]
  have q:=c28 xs[i] left (w.2 _ (List.getElem_mem hi)) h0 h1
  rw [q]
  simp only [Option.bind_some,bI_lss,asB_bool,bI_add]
  rw [wrap_i64 (n:=(i:Int) + 1) (by omega) (by omega)]
  by_cases g:¬ ((xs[i].sz:Nat):Int)≤left
  ·rw [szR_neg g,szR_neg (by omega)]; simp
  have g:=Decidable.not_not.mp g
  simp only [szR_pos g,show ¬ left - ((xs[i].sz:Nat):Int) < 0 by omega,decide_false,cond_false]
  have:=ih (left - ((xs[i].sz:Nat):Int)) (by omega) (by omega)
  simp only [Int.natCast_add,Int.natCast_one] at this
  rw [this]
  by_cases g2:(S1:Int)≤left - ((xs[i].sz:Nat):Int)
  ·rw [szR_pos g2,szR_pos (by omega)]; congr 3; omega
  ·rw [szR_neg g2,szR_neg (by omega)]
theorem c12 (xs:List SMethod) (left:Int) (w:xs.length≤140737488351232∧∀ y ∈ xs,y.wf) (h0:0≤left) (h1:left≤1048576):run E (exec E) false 12 [.list (xs.map SMethod.row),.int .i64 left]=some (.int .i64 (szR (szL SMethod.sz xs) left)):=by
 have w1:=w.1
 rw [run_ent,e12]
 simp
 rw [wrap_i64 (n:=left - (xs.length:Int)) (by omega) (by omega)]
 by_cases g:¬ (xs.length:Int)≤left
 ·rw [szR_neg (by simp only [szL]; omega)]; simp [show left - (xs.length:Int) < 0 by omega]
 simp only [show ¬ left - (xs.length:Int) < 0 by omega,decide_false,cond_false]
 have:=c12_5 xs w [] 0 (by omega) (left - xs.length) (by omega) (by omega)
 simp only [Int.natCast_zero,List.drop_zero] at this
 rw [this]
 simp only [readA_int,readA_bool,readA_str,readA_list,readA_sl0,readA_sl,readA_agg,readA_tup,Option.bind_some,readT_int,szL]
 by_cases g2:(((xs.map SMethod.sz).sum:Nat):Int)≤left - xs.length
 ·rw [szR_pos g2,szR_pos (by omega)]; simp only [Int.natCast_add]; congr 2; omega
 ·rw [szR_neg g2,szR_neg (by omega)]
theorem c4 (x:SClass) (left:Int) (hw:x.wf) (h0:0≤left) (h1:left≤1048576):run E (exec E) false 4 [x.d,.int .i64 left]=some (.int .i64 (szR x.sz left)):=by
 obtain ⟨w0,-,-,-,w1,w2,w3⟩:=hw
 rw [run_ent,e4]
 simp [readA_int,readA_bool,readA_str,readA_list,readA_sl0,readA_sl,readA_agg,readA_tup,SClass.row,ia,ld,st,getRow,rowLen,storeRow,part,D.cells,D.isCell,bld,fillC,bsl,fillR,slS,slL,sliceStr,bound,cut0,srcRows,rowsFit,call_pure,call_view,nilCheck,rInt,rStr,rBool,rByte]
 rw [c9 x.Pool (left) w0 (by omega) (by omega)]
 simp only [Option.bind_some,bI_lss,asB_bool]
 by_cases g0:¬ ((szL SConst.sz x.Pool:Nat):Int)≤left
 ·rw [szR_neg g0,szR_neg (s:=x.sz) (by simp only [SClass.sz]; omega)]; simp
 have g0:=Decidable.not_not.mp g0
 simp only [readA_int,readA_bool,readA_str,readA_list,readA_sl0,readA_sl,readA_agg,readA_tup,szR_pos g0,show ¬ left - ((szL SConst.sz x.Pool:Nat):Int) < 0 by omega,decide_false,cond_false,Option.bind_some,fa_ptr,getBlk_zero,List.getElem?_cons_zero,List.getElem?_cons_succ,Nat.zero_add,optAll_cons,optAll_nil,readT_int,readT_list9]
 rw [c10 x.Faces (left - ((szL SConst.sz x.Pool:Nat):Int)) w1 (by omega) (by omega)]
 simp only [Option.bind_some,bI_lss,asB_bool]
 by_cases g1:¬ ((szL (fun _=>0) x.Faces:Nat):Int)≤left - ((szL SConst.sz x.Pool:Nat):Int)
 ·rw [szR_neg g1,szR_neg (s:=x.sz) (by simp only [SClass.sz]; omega)]; simp
 have g1:=Decidable.not_not.mp g1
 simp only [readA_int,readA_bool,readA_str,readA_list,readA_sl0,readA_sl,readA_agg,readA_tup,szR_pos g1,show ¬ left - ((szL SConst.sz x.Pool:Nat):Int) - ((szL (fun _=>0) x.Faces:Nat):Int) < 0 by omega,decide_false,cond_false,Option.bind_some,fa_ptr,getBlk_zero,List.getElem?_cons_zero,List.getElem?_cons_succ,Nat.zero_add,optAll_cons,optAll_nil,readT_int,readT_list9]
 rw [c11 x.Fields (left - ((szL SConst.sz x.Pool:Nat):Int) - ((szL (fun _=>0) x.Faces:Nat):Int)) w2 (by omega) (by omega)]
 simp only [Option.bind_some,bI_lss,asB_bool]
 by_cases g2:¬ ((szL (fun _=>0) x.Fields:Nat):Int)≤left - ((szL SConst.sz x.Pool:Nat):Int) - ((szL (fun _=>0) x.Faces:Nat):Int)
 ·rw [szR_neg g2,szR_neg (s:=x.sz) (by simp only [SClass.sz]; omega)]; simp
 have g2:=Decidable.not_not.mp g2
 simp only [readA_int,readA_bool,readA_str,readA_list,readA_sl0,readA_sl,readA_agg,readA_tup,szR_pos g2,show ¬ left - ((szL SConst.sz x.Pool:Nat):Int) - ((szL (fun _=>0) x.Faces:Nat):Int) - ((szL (fun _=>0) x.Fields:Nat):Int) < 0 by omega,decide_false,cond_false,Option.bind_some,fa_ptr,getBlk_zero,List.getElem?_cons_zero,List.getElem?_cons_succ,Nat.zero_add,optAll_cons,optAll_nil,readT_int,readT_list9]
 rw [c12 x.Methods (left - ((szL SConst.sz x.Pool:Nat):Int) - ((szL (fun _=>0) x.Faces:Nat):Int) - ((szL (fun _=>0) x.Fields:Nat):Int)) w3 (by omega) (by omega)]
 simp only [Option.bind_some,bI_lss,asB_bool]
 by_cases g3:¬ ((szL SMethod.sz x.Methods:Nat):Int)≤left - ((szL SConst.sz x.Pool:Nat):Int) - ((szL (fun _=>0) x.Faces:Nat):Int) - ((szL (fun _=>0) x.Fields:Nat):Int)
 ·rw [szR_neg g3,szR_neg (s:=x.sz) (by simp only [SClass.sz]; omega)]; simp
 have g3:=Decidable.not_not.mp g3
 simp only [readA_int,readA_bool,readA_str,readA_list,readA_sl0,readA_sl,readA_agg,readA_tup,szR_pos g3,show ¬ left - ((szL SConst.sz x.Pool:Nat):Int) - ((szL (fun _=>0) x.Faces:Nat):Int) - ((szL (fun _=>0) x.Fields:Nat):Int) - ((szL SMethod.sz x.Methods:Nat):Int) < 0 by omega,decide_false,cond_false,Option.bind_some,fa_ptr,getBlk_zero,List.getElem?_cons_zero,List.getElem?_cons_succ,Nat.zero_add,optAll_cons,optAll_nil,readT_int,readT_list9]
 rw [szR_pos (by simp only [SClass.sz]; omega)]
 simp [SClass.sz]
 try omega
end Go.Ev.YtmpfooibdekppaaGreatDoor
namespace Go.Ev.YtmpfooibdekppaaGreatDoor
set_option linter.unusedVariables false
set_option linter.unusedSimpArgs false
set_option linter.unusedSectionVars false
set_option linter.defProp false
set_option maxHeartbeats 1000000
open Go.Ev
theorem c24_4 (a b:List Int) (wa:a.length≤140737488351232) (hlen:a.length=b.length) (H:Heap):∀ i,i≤a.length→J E 24 4 [.list (a.map rInt),.list (b.map rInt),.int .i64 i] H=some (.bool (decide (a.drop i=b.drop i)),H):=by
 have w1:=wa
 refine loop_up (P:=fun i=>_) ?_ fun i hi ih=>?_
 ·rw [j24_4]
  simp [hlen]
 ·have hi':i < b.length:=by omega
  rw [j24_4]
  simp [readA_int,readA_bool,readA_str,readA_list,readA_sl0,readA_sl,readA_agg,readA_tup,ia,ld,st,getRow,rowLen,storeRow,part,D.cells,D.isCell,bld,fillC,bsl,fillR,slS,slL,sliceStr,bound,cut0,srcRows,rowsFit,call_pure,call_view,nilCheck,rInt,rStr,rBool,rByte,hi,hi']
  simp (disch:=omega) only [wrap_i64]
  rw [drop_dec hi hi']
  by_cases h:a[i]=b[i] <;> simp [h]
  simpa using ih
theorem c24 (a b:List Int) (wa:a.length≤140737488351232):run E (exec E) false 24 [.list (a.map rInt),.list (b.map rInt)]=some (.bool (decide (a=b))):=by
 rw [run_ent,e24]
 by_cases h:a.length=b.length
 ·have:=c24_4 a b wa h [] 0 (by omega)
  simp only [Int.natCast_zero] at this
  simp [h,this]
 ·have:a ≠ b:=fun e=>h (by rw [e])
  simp [show ¬ (a.length:Int)=b.length by omega,this]
theorem c49 (a b:SConst):run E (exec E) false 49 [a.d,b.d]=some (.bool (decide (a=b))):=by
 rw [run_ent,e49]
 obtain ⟨a0,a1,a2,a3⟩:=a
 obtain ⟨b0,b1,b2,b3⟩:=b
 simp [readA_int,readA_bool,readA_str,readA_list,readA_sl0,readA_sl,readA_agg,readA_tup,SConst.row,ia,ld,st,getRow,rowLen,storeRow,part,D.cells,D.isCell,bld,fillC,bsl,fillR,slS,slL,sliceStr,bound,cut0,srcRows,rowsFit,call_pure,call_view,nilCheck,rInt,rStr,rBool,rByte]
 by_cases g0:¬ a0=b0
 ·simp [g0]
 have g0:=Decidable.not_not.mp g0
 subst g0
 by_cases g1:¬ a1=b1
 ·simp [g1]
 have g1:=Decidable.not_not.mp g1
 subst g1
 by_cases g2:¬ a2=b2
 ·simp [g2]
 have g2:=Decidable.not_not.mp g2
 subst g2
 by_cases g3:¬ a3=b3
 ·simp [g3]
 have g3:=Decidable.not_not.mp g3
 subst g3
 try simp [readA_int,readA_bool,readA_str,readA_list,readA_sl0,readA_sl,readA_agg,readA_tup,ia,ld,st,getRow,rowLen,storeRow,part,D.cells,D.isCell,bld,fillC,bsl,fillR,slS,slL,sliceStr,bound,cut0,srcRows,rowsFit,call_pure,call_view,nilCheck,rInt,rStr,rBool,rByte]
theorem c23_4 (a b:List SConst) (wa:a.length≤140737488351232) (hlen:a.length=b.length) (H:Heap):∀ i,i≤a.length→J E 23 4 [.list (a.map SConst.row),.list (b.map SConst.row),.int .i64 i] H=some (.bool (decide (a.drop i=b.drop i)),H):=by
 have w1:=wa
 refine loop_up (P:=fun i=>_) ?_ fun i hi ih=>?_
 ·rw [j23_4]
  simp [hlen]
 ·have hi':i < b.length:=by omega
  rw [j23_4]
  simp [readA_int,readA_bool,readA_str,readA_list,readA_sl0,readA_sl,readA_agg,readA_tup,ia,ld,st,getRow,rowLen,storeRow,part,D.cells,D.isCell,bld,fillC,bsl,fillR,slS,slL,sliceStr,bound,cut0,srcRows,rowsFit,call_pure,call_view,nilCheck,rInt,rStr,rBool,rByte,hi,hi']
  rw [c49 a[i] b[i]]
  simp only [Option.bind_some,unOp_not,asB_bool,bI_add]
  simp (disch:=omega) only [wrap_i64]
  rw [drop_dec hi hi']
  by_cases h:a[i]=b[i] <;> simp [h]
  simpa using ih
theorem c23 (a b:List SConst) (wa:a.length≤140737488351232):run E (exec E) false 23 [.list (a.map SConst.row),.list (b.map SConst.row)]=some (.bool (decide (a=b))):=by
 rw [run_ent,e23]
 by_cases h:a.length=b.length
 ·have:=c23_4 a b wa h [] 0 (by omega)
  simp only [Int.natCast_zero] at this
  simp [h,this]
 ·have:a ≠ b:=fun e=>h (by rw [e])
  simp [show ¬ (a.length:Int)=b.length by omega,this]
theorem c50 (a b:SField):run E (exec E) false 50 [a.d,b.d]=some (.bool (decide (a=b))):=by
 rw [run_ent,e50]
 obtain ⟨a0,a1,a2⟩:=a
 obtain ⟨b0,b1,b2⟩:=b
 simp [readA_int,readA_bool,readA_str,readA_list,readA_sl0,readA_sl,readA_agg,readA_tup,SField.row,ia,ld,st,getRow,rowLen,storeRow,part,D.cells,D.isCell,bld,fillC,bsl,fillR,slS,slL,sliceStr,bound,cut0,srcRows,rowsFit,call_pure,call_view,nilCheck,rInt,rStr,rBool,rByte]
 by_cases g0:¬ a0=b0
 ·simp [g0]
 have g0:=Decidable.not_not.mp g0
 subst g0
 by_cases g1:¬ a1=b1
 ·simp [g1]
 have g1:=Decidable.not_not.mp g1
 subst g1
 by_cases g2:¬ a2=b2
 ·simp [g2]
 have g2:=Decidable.not_not.mp g2
 subst g2
 try simp [readA_int,readA_bool,readA_str,readA_list,readA_sl0,readA_sl,readA_agg,readA_tup,ia,ld,st,getRow,rowLen,storeRow,part,D.cells,D.isCell,bld,fillC,bsl,fillR,slS,slL,sliceStr,bound,cut0,srcRows,rowsFit,call_pure,call_view,nilCheck,rInt,rStr,rBool,rByte]
theorem c25_4 (a b:List SField) (wa:a.length≤140737488351232) (hlen:a.length=b.length) (H:Heap):∀ i,i≤a.length→J E 25 4 [.list (a.map SField.row),.list (b.map SField.row),.int .i64 i] H=some (.bool (decide (a.drop i=b.drop i)),H):=by
 have w1:=wa
 refine loop_up (P:=fun i=>_) ?_ fun i hi ih=>?_
 ·rw [j25_4]
  simp [hlen]
 ·have hi':i < b.length:=by omega
  rw [j25_4]
  simp [readA_int,readA_bool,readA_str,readA_list,readA_sl0,readA_sl,readA_agg,readA_tup,ia,ld,st,getRow,rowLen,storeRow,part,D.cells,D.isCell,bld,fillC,bsl,fillR,slS,slL,sliceStr,bound,cut0,srcRows,rowsFit,call_pure,call_view,nilCheck,rInt,rStr,rBool,rByte,hi,hi']
  rw [c50 a[i] b[i]]
  simp only [Option.bind_some,unOp_not,asB_bool,bI_add]
  simp (disch:=omega) only [wrap_i64]
  rw [drop_dec hi hi']
  by_cases h:a[i]=b[i] <;> simp [h]
  simpa using ih
theorem c25 (a b:List SField) (wa:a.length≤140737488351232):run E (exec E) false 25 [.list (a.map SField.row),.list (b.map SField.row)]=some (.bool (decide (a=b))):=by
 rw [run_ent,e25]
 by_cases h:a.length=b.length
 ·have:=c25_4 a b wa h [] 0 (by omega)
  simp only [Int.natCast_zero] at this
  simp [h,this]
 ·have:a ≠ b:=fun e=>h (by rw [e])
  simp [show ¬ (a.length:Int)=b.length by omega,this]
theorem c145 (a b:STrap):run E (exec E) false 145 [a.d,b.d]=some (.bool (decide (a=b))):=by
 rw [run_ent,e145]
 obtain ⟨a0,a1,a2,a3⟩:=a
 obtain ⟨b0,b1,b2,b3⟩:=b
 simp [readA_int,readA_bool,readA_str,readA_list,readA_sl0,readA_sl,readA_agg,readA_tup,STrap.row,ia,ld,st,getRow,rowLen,storeRow,part,D.cells,D.isCell,bld,fillC,bsl,fillR,slS,slL,sliceStr,bound,cut0,srcRows,rowsFit,call_pure,call_view,nilCheck,rInt,rStr,rBool,rByte]
 by_cases g0:¬ a0=b0
 ·simp [g0]
 have g0:=Decidable.not_not.mp g0
 subst g0
 by_cases g1:¬ a1=b1
 ·simp [g1]
 have g1:=Decidable.not_not.mp g1
 subst g1
 by_cases g2:¬ a2=b2
 ·simp [g2]
 have g2:=Decidable.not_not.mp g2
 subst g2
 by_cases g3:¬ a3=b3
 ·simp [g3]
 have g3:=Decidable.not_not.mp g3
 subst g3
 try simp [readA_int,readA_bool,readA_str,readA_list,readA_sl0,readA_sl,readA_agg,readA_tup,ia,ld,st,getRow,rowLen,storeRow,part,D.cells,D.isCell,bld,fillC,bsl,fillR,slS,slL,sliceStr,bound,cut0,srcRows,rowsFit,call_pure,call_view,nilCheck,rInt,rStr,rBool,rByte]
theorem c92_4 (a b:List STrap) (wa:a.length≤140737488351232) (hlen:a.length=b.length) (H:Heap):∀ i,i≤a.length→J E 92 4 [.list (a.map STrap.row),.list (b.map STrap.row),.int .i64 i] H=some (.bool (decide (a.drop i=b.drop i)),H):=by
 have w1:=wa
 refine loop_up (P:=fun i=>_) ?_ fun i hi ih=>?_
 ·rw [j92_4]
  simp [hlen]
 ·have hi':i < b.length:=by omega
  rw [j92_4]
  simp [readA_int,readA_bool,readA_str,readA_list,readA_sl0,readA_sl,readA_agg,readA_tup,ia,ld,st,getRow,rowLen,storeRow,part,D.cells,D.isCell,bld,fillC,bsl,fillR,slS,slL,sliceStr,bound,cut0,srcRows,rowsFit,call_pure,call_view,nilCheck,rInt,rStr,rBool,rByte,hi,hi']
  rw [c145 a[i] b[i]]
  simp only [Option.bind_some,unOp_not,asB_bool,bI_add]
  simp (disch:=omega) only [wrap_i64]
  rw [drop_dec hi hi']
  by_cases h:a[i]=b[i] <;> simp [h]
  simpa using ih
theorem c92 (a b:List STrap) (wa:a.length≤140737488351232):run E (exec E) false 92 [.list (a.map STrap.row),.list (b.map STrap.row)]=some (.bool (decide (a=b))):=by
 rw [run_ent,e92]
 by_cases h:a.length=b.length
 ·have:=c92_4 a b wa h [] 0 (by omega)
  simp only [Int.natCast_zero] at this
  simp [h,this]
 ·have:a ≠ b:=fun e=>h (by rw [e])
  simp [show ¬ (a.length:Int)=b.length by omega,this]
theorem c188 (a b:SKind):run E (exec E) false 188 [a.d,b.d]=some (.bool (decide (a=b))):=by
 rw [run_ent,e188]
 obtain ⟨a0,a1⟩:=a
 obtain ⟨b0,b1⟩:=b
 simp [readA_int,readA_bool,readA_str,readA_list,readA_sl0,readA_sl,readA_agg,readA_tup,SKind.row,ia,ld,st,getRow,rowLen,storeRow,part,D.cells,D.isCell,bld,fillC,bsl,fillR,slS,slL,sliceStr,bound,cut0,srcRows,rowsFit,call_pure,call_view,nilCheck,rInt,rStr,rBool,rByte]
 by_cases g0:¬ a0=b0
 ·simp [g0]
 have g0:=Decidable.not_not.mp g0
 subst g0
 by_cases g1:¬ a1=b1
 ·simp [g1]
 have g1:=Decidable.not_not.mp g1
 subst g1
 try simp [readA_int,readA_bool,readA_str,readA_list,readA_sl0,readA_sl,readA_agg,readA_tup,ia,ld,st,getRow,rowLen,storeRow,part,D.cells,D.isCell,bld,fillC,bsl,fillR,slS,slL,sliceStr,bound,cut0,srcRows,rowsFit,call_pure,call_view,nilCheck,rInt,rStr,rBool,rByte]
theorem c175_4 (a b:List SKind) (wa:a.length≤140737488351232) (hlen:a.length=b.length) (H:Heap):∀ i,i≤a.length→J E 175 4 [.list (a.map SKind.row),.list (b.map SKind.row),.int .i64 i] H=some (.bool (decide (a.drop i=b.drop i)),H):=by
 have w1:=wa
 refine loop_up (P:=fun i=>_) ?_ fun i hi ih=>?_
 ·rw [j175_4]
  simp [hlen]
 ·have hi':i < b.length:=by omega
  rw [j175_4]
  simp [readA_int,readA_bool,readA_str,readA_list,readA_sl0,readA_sl,readA_agg,readA_tup,ia,ld,st,getRow,rowLen,storeRow,part,D.cells,D.isCell,bld,fillC,bsl,fillR,slS,slL,sliceStr,bound,cut0,srcRows,rowsFit,call_pure,call_view,nilCheck,rInt,rStr,rBool,rByte,hi,hi']
  rw [c188 a[i] b[i]]
  simp only [Option.bind_some,unOp_not,asB_bool,bI_add]
  simp (disch:=omega) only [wrap_i64]
  rw [drop_dec hi hi']
  by_cases h:a[i]=b[i] <;> simp [h]
  simpa using ih
theorem c175 (a b:List SKind) (wa:a.length≤140737488351232):run E (exec E) false 175 [.list (a.map SKind.row),.list (b.map SKind.row)]=some (.bool (decide (a=b))):=by
 rw [run_ent,e175]
 by_cases h:a.length=b.length
 ·have:=c175_4 a b wa h [] 0 (by omega)
  simp only [Int.natCast_zero] at this
  simp [h,this]
 ·have:a ≠ b:=fun e=>h (by rw [e])
  simp [show ¬ (a.length:Int)=b.length by omega,this]
theorem c146 (a b:SFrame) (ha:a.fit) (hb:b.fit):run E (exec E) false 146 [a.d,b.d]=some (.bool (decide (a=b))):=by
 rw [run_ent,e146]
 obtain ⟨a0,a1,a2⟩:=a
 obtain ⟨b0,b1,b2⟩:=b
 simp only [SFrame.fit] at ha hb
 simp [readA_int,readA_bool,readA_str,readA_list,readA_sl0,readA_sl,readA_agg,readA_tup,SFrame.row,ia,ld,st,getRow,rowLen,storeRow,part,D.cells,D.isCell,bld,fillC,bsl,fillR,slS,slL,sliceStr,bound,cut0,srcRows,rowsFit,call_pure,call_view,nilCheck,rInt,rStr,rBool,rByte]
 by_cases g0:¬ a0=b0
 ·simp [g0]
 have g0:=Decidable.not_not.mp g0
 subst g0
 rw [c175 a1 b1 (by simp_all)]
 simp only [Option.bind_some,unOp_not,asB_bool]
 by_cases g1:¬ a1=b1
 ·simp [g1]
 have g1:=Decidable.not_not.mp g1
 subst g1
 try simp [readA_int,readA_bool,readA_str,readA_list,readA_sl0,readA_sl,readA_agg,readA_tup,ia,ld,st,getRow,rowLen,storeRow,part,D.cells,D.isCell,bld,fillC,bsl,fillR,slS,slL,sliceStr,bound,cut0,srcRows,rowsFit,call_pure,call_view,nilCheck,rInt,rStr,rBool,rByte]
 rw [c175 a2 b2 (by simp_all)]
 simp only [Option.bind_some,unOp_not,asB_bool]
 by_cases g2:¬ a2=b2
 ·simp [g2]
 have g2:=Decidable.not_not.mp g2
 subst g2
 try simp [readA_int,readA_bool,readA_str,readA_list,readA_sl0,readA_sl,readA_agg,readA_tup,ia,ld,st,getRow,rowLen,storeRow,part,D.cells,D.isCell,bld,fillC,bsl,fillR,slS,slL,sliceStr,bound,cut0,srcRows,rowsFit,call_pure,call_view,nilCheck,rInt,rStr,rBool,rByte]
 try simp [readA_int,readA_bool,readA_str,readA_list,readA_sl0,readA_sl,readA_agg,readA_tup,ia,ld,st,getRow,rowLen,storeRow,part,D.cells,D.isCell,bld,fillC,bsl,fillR,slS,slL,sliceStr,bound,cut0,srcRows,rowsFit,call_pure,call_view,nilCheck,rInt,rStr,rBool,rByte]
theorem c93_4 (a b:List SFrame) (wa:a.length≤140737488351232∧∀ z ∈ a,z.fit) (wb:b.length≤140737488351232∧∀ z ∈ b,z.fit) (hlen:a.length=b.length) (H:Heap):∀ i,i≤a.length→J E 93 4 [.list (a.map SFrame.row),.list (b.map SFrame.row),.int .i64 i] H=some (.bool (decide (a.drop i=b.drop i)),H):=by
 have w1:=wa.1
 refine loop_up (P:=fun i=>_) ?_ fun i hi ih=>?_
 ·rw [j93_4]
  simp [hlen]
 ·have hi':i < b.length:=by omega
  rw [j93_4]
  simp [readA_int,readA_bool,readA_str,readA_list,readA_sl0,readA_sl,readA_agg,readA_tup,ia,ld,st,getRow,rowLen,storeRow,part,D.cells,D.isCell,bld,fillC,bsl,fillR,slS,slL,sliceStr,bound,cut0,srcRows,rowsFit,call_pure,call_view,nilCheck,rInt,rStr,rBool,rByte,hi,hi']
  rw [c146 a[i] b[i] (wa.2 _ (List.getElem_mem hi)) (wb.2 _ (List.getElem_mem hi'))]
  simp only [Option.bind_some,unOp_not,asB_bool,bI_add]
  simp (disch:=omega) only [wrap_i64]
  rw [drop_dec hi hi']
  by_cases h:a[i]=b[i] <;> simp [h]
  simpa using ih
theorem c93 (a b:List SFrame) (wa:a.length≤140737488351232∧∀ z ∈ a,z.fit) (wb:b.length≤140737488351232∧∀ z ∈ b,z.fit):run E (exec E) false 93 [.list (a.map SFrame.row),.list (b.map SFrame.row)]=some (.bool (decide (a=b))):=by
 rw [run_ent,e93]
 by_cases h:a.length=b.length
 ·have:=c93_4 a b wa wb h [] 0 (by omega)
  simp only [Int.natCast_zero] at this
  simp [h,this]
 ·have:a ≠ b:=fun e=>h (by rw [e])
  simp [show ¬ (a.length:Int)=b.length by omega,this]
theorem c51 (a b:SMethod) (ha:a.fit) (hb:b.fit):run E (exec E) false 51 [a.d,b.d]=some (.bool (decide (a=b))):=by
 rw [run_ent,e51]
 obtain ⟨a0,a1,a2,a3,a4,a5,a6,a7⟩:=a
 obtain ⟨b0,b1,b2,b3,b4,b5,b6,b7⟩:=b
 simp only [SMethod.fit] at ha hb
 simp [readA_int,readA_bool,readA_str,readA_list,readA_sl0,readA_sl,readA_agg,readA_tup,SMethod.row,ia,ld,st,getRow,rowLen,storeRow,part,D.cells,D.isCell,bld,fillC,bsl,fillR,slS,slL,sliceStr,bound,cut0,srcRows,rowsFit,call_pure,call_view,nilCheck,rInt,rStr,rBool,rByte]
 by_cases g0:¬ a0=b0
 ·simp [g0]
 have g0:=Decidable.not_not.mp g0
 subst g0
 by_cases g1:¬ a1=b1
 ·simp [g1]
 have g1:=Decidable.not_not.mp g1
 subst g1
 by_cases g2:¬ a2=b2
 ·simp [g2]
 have g2:=Decidable.not_not.mp g2
 subst g2
 by_cases g3:¬ a3=b3
 ·simp [g3]
 have g3:=Decidable.not_not.mp g3
 subst g3
 by_cases g4:¬ a4=b4
 ·simp [g4]
 have g4:=Decidable.not_not.mp g4
 subst g4
 by_cases g5:¬ a5=b5
 ·simp [g5]
 have g5:=Decidable.not_not.mp g5
 subst g5
 rw [c92 a6 b6 (by simp_all)]
 simp only [Option.bind_some,unOp_not,asB_bool]
 by_cases g6:¬ a6=b6
 ·simp [g6]
 have g6:=Decidable.not_not.mp g6
 subst g6
 try simp [readA_int,readA_bool,readA_str,readA_list,readA_sl0,readA_sl,readA_agg,readA_tup,ia,ld,st,getRow,rowLen,storeRow,part,D.cells,D.isCell,bld,fillC,bsl,fillR,slS,slL,sliceStr,bound,cut0,srcRows,rowsFit,call_pure,call_view,nilCheck,rInt,rStr,rBool,rByte]
 rw [c93 a7 b7 (by simp_all) (by simp_all)]
 simp only [Option.bind_some,unOp_not,asB_bool]
 by_cases g7:¬ a7=b7
 ·simp [g7]
 have g7:=Decidable.not_not.mp g7
 subst g7
 try simp [readA_int,readA_bool,readA_str,readA_list,readA_sl0,readA_sl,readA_agg,readA_tup,ia,ld,st,getRow,rowLen,storeRow,part,D.cells,D.isCell,bld,fillC,bsl,fillR,slS,slL,sliceStr,bound,cut0,srcRows,rowsFit,call_pure,call_view,nilCheck,rInt,rStr,rBool,rByte]
 try simp [readA_int,readA_bool,readA_str,readA_list,readA_sl0,readA_sl,readA_agg,readA_tup,ia,ld,st,getRow,rowLen,storeRow,part,D.cells,D.isCell,bld,fillC,bsl,fillR,slS,slL,sliceStr,bound,cut0,srcRows,rowsFit,call_pure,call_view,nilCheck,rInt,rStr,rBool,rByte]
theorem c26_4 (a b:List SMethod) (wa:a.length≤140737488351232∧∀ z ∈ a,z.fit) (wb:b.length≤140737488351232∧∀ z ∈ b,z.fit) (hlen:a.length=b.length) (H:Heap):∀ i,i≤a.length→J E 26 4 [.list (a.map SMethod.row),.list (b.map SMethod.row),.int .i64 i] H=some (.bool (decide (a.drop i=b.drop i)),H):=by
 have w1:=wa.1
 refine loop_up (P:=fun i=>_) ?_ fun i hi ih=>?_
 ·rw [j26_4]
  simp [hlen]
 ·have hi':i < b.length:=by omega
  rw [j26_4]
  simp [readA_int,readA_bool,readA_str,readA_list,readA_sl0,readA_sl,readA_agg,readA_tup,ia,ld,st,getRow,rowLen,storeRow,part,D.cells,D.isCell,bld,fillC,bsl,fillR,slS,slL,sliceStr,bound,cut0,srcRows,rowsFit,call_pure,call_view,nilCheck,rInt,rStr,rBool,rByte,hi,hi']
  rw [c51 a[i] b[i] (wa.2 _ (List.getElem_mem hi)) (wb.2 _ (List.getElem_mem hi'))]
  simp only [Option.bind_some,unOp_not,asB_bool,bI_add]
  simp (disch:=omega) only [wrap_i64]
  rw [drop_dec hi hi']
  by_cases h:a[i]=b[i] <;> simp [h]
  simpa using ih
theorem c26 (a b:List SMethod) (wa:a.length≤140737488351232∧∀ z ∈ a,z.fit) (wb:b.length≤140737488351232∧∀ z ∈ b,z.fit):run E (exec E) false 26 [.list (a.map SMethod.row),.list (b.map SMethod.row)]=some (.bool (decide (a=b))):=by
 rw [run_ent,e26]
 by_cases h:a.length=b.length
 ·have:=c26_4 a b wa wb h [] 0 (by omega)
  simp only [Int.natCast_zero] at this
  simp [h,this]
 ·have:a ≠ b:=fun e=>h (by rw [e])
  simp [show ¬ (a.length:Int)=b.length by omega,this]
theorem c8 (a b:SClass) (ha:a.fit) (hb:b.fit):run E (exec E) false 8 [a.d,b.d]=some (.bool (decide (a=b))):=by
 rw [run_ent,e8]
 obtain ⟨a0,a1,a2,a3,a4,a5,a6⟩:=a
 obtain ⟨b0,b1,b2,b3,b4,b5,b6⟩:=b
 simp only [SClass.fit] at ha hb
 simp [readA_int,readA_bool,readA_str,readA_list,readA_sl0,readA_sl,readA_agg,readA_tup,SClass.row,ia,ld,st,getRow,rowLen,storeRow,part,D.cells,D.isCell,bld,fillC,bsl,fillR,slS,slL,sliceStr,bound,cut0,srcRows,rowsFit,call_pure,call_view,nilCheck,rInt,rStr,rBool,rByte]
 rw [c23 a0 b0 (by simp_all)]
 simp only [Option.bind_some,unOp_not,asB_bool]
 by_cases g0:¬ a0=b0
 ·simp [g0]
 have g0:=Decidable.not_not.mp g0
 subst g0
 try simp [readA_int,readA_bool,readA_str,readA_list,readA_sl0,readA_sl,readA_agg,readA_tup,ia,ld,st,getRow,rowLen,storeRow,part,D.cells,D.isCell,bld,fillC,bsl,fillR,slS,slL,sliceStr,bound,cut0,srcRows,rowsFit,call_pure,call_view,nilCheck,rInt,rStr,rBool,rByte]
 by_cases g1:¬ a1=b1
 ·simp [g1]
 have g1:=Decidable.not_not.mp g1
 subst g1
 by_cases g2:¬ a2=b2
 ·simp [g2]
 have g2:=Decidable.not_not.mp g2
 subst g2
 by_cases g3:¬ a3=b3
 ·simp [g3]
 have g3:=Decidable.not_not.mp g3
 subst g3
 rw [c24 a4 b4 (by simp_all)]
 simp only [Option.bind_some,unOp_not,asB_bool]
 by_cases g4:¬ a4=b4
 ·simp [g4]
 have g4:=Decidable.not_not.mp g4
 subst g4
 try simp [readA_int,readA_bool,readA_str,readA_list,readA_sl0,readA_sl,readA_agg,readA_tup,ia,ld,st,getRow,rowLen,storeRow,part,D.cells,D.isCell,bld,fillC,bsl,fillR,slS,slL,sliceStr,bound,cut0,srcRows,rowsFit,call_pure,call_view,nilCheck,rInt,rStr,rBool,rByte]
 rw [c25 a5 b5 (by simp_all)]
 simp only [Option.bind_some,unOp_not,asB_bool]
 by_cases g5:¬ a5=b5
 ·simp [g5]
 have g5:=Decidable.not_not.mp g5
 subst g5
 try simp [readA_int,readA_bool,readA_str,readA_list,readA_sl0,readA_sl,readA_agg,readA_tup,ia,ld,st,getRow,rowLen,storeRow,part,D.cells,D.isCell,bld,fillC,bsl,fillR,slS,slL,sliceStr,bound,cut0,srcRows,rowsFit,call_pure,call_view,nilCheck,rInt,rStr,rBool,rByte]
 rw [c26 a6 b6 (by simp_all) (by simp_all)]
 simp only [Option.bind_some,unOp_not,asB_bool]
 by_cases g6:¬ a6=b6
 ·simp [g6]
 have g6:=Decidable.not_not.mp g6
 subst g6
 try simp [readA_int,readA_bool,readA_str,readA_list,readA_sl0,readA_sl,readA_agg,readA_tup,ia,ld,st,getRow,rowLen,storeRow,part,D.cells,D.isCell,bld,fillC,bsl,fillR,slS,slL,sliceStr,bound,cut0,srcRows,rowsFit,call_pure,call_view,nilCheck,rInt,rStr,rBool,rByte]
 try simp [readA_int,readA_bool,readA_str,readA_list,readA_sl0,readA_sl,readA_agg,readA_tup,ia,ld,st,getRow,rowLen,storeRow,part,D.cells,D.isCell,bld,fillC,bsl,fillR,slS,slL,sliceStr,bound,cut0,srcRows,rowsFit,call_pure,call_view,nilCheck,rInt,rStr,rBool,rByte]
end Go.Ev.YtmpfooibdekppaaGreatDoor
namespace Go.Ev.YtmpfooibdekppaaGreatDoor
set_option linter.unusedVariables false
set_option linter.unusedSimpArgs false
set_option linter.unusedSectionVars false
set_option linter.defProp false
set_option maxHeartbeats 1000000
open Go.Ev
theorem c17_3 (xs:List Int) (hl:szL (fun _=>0) xs≤1048576):∀ i,i≤xs.length→∀ H,Filling H 0 0 xs.length [.int .i64 0] ((xs.take i).map rInt)→∃ H',J E 17 3 [.list (xs.map rInt),.sl 0 0 xs.length,.int .i64 i] H=some (.sl 0 0 xs.length,H')∧Filling H' 0 0 xs.length [.int .i64 0] (xs.map rInt):=by
 have hx:=szL_len hl
 refine loop_up (P:=fun i=>_) ?_ fun i hi ih H hF=>?_
 ·intro H hF
  rw [List.take_length] at hF
  refine ⟨H,?_,hF⟩
  rw [j17_3]; simp
 ·rw [j17_3]
  have hlt:((xs.take i).map rInt).length < xs.length:=by simp; omega
  have hti:((xs.take i).map rInt).length=i:=by simp; omega
  have hnx:(xs.take i).map rInt++[rInt xs[i]]=(xs.take (i + 1)).map rInt:=by rw [List.take_add_one,List.getElem?_eq_getElem hi,List.map_append]; rfl
  rw [Ev.ia_list (n:=(i:Int)) (by omega) (by simpa using hi) (by simp [rInt,rStr])]
  simp only [lnL_list,List.length_map,Option.bind_some,bI_lss,asB_bool,Int.ofNat_lt,hi,decide_true,cond_true,ld_el,Int.toNat_natCast,List.getElem_map]
  rw [show part (rInt xs[i]) (0,1,false)=some (.int .i64 xs[i]) from rfl]; simp only [Option.bind_some]
  rw [hF.ia (esz:=1) (i:=(i:Int)) hlt rfl (by omega) rfl]; simp only [Option.bind_some]
  obtain ⟨H2,q,hF2,-,-⟩:=hF.store hlt (v:=.int .i64 xs[i]) (t:=rInt xs[i]) (RepR.scalars (r:=rInt xs[i]) rfl) (FreshB.nil H) rfl (z:=1) rfl rfl
  rw [q]; simp only [Option.bind_some]
  rw [hnx] at hF2
  obtain ⟨H3,k1,k2⟩:=ih H2 hF2
  refine ⟨H3,?_,k2⟩
  simp only [bI_add,Option.bind_some]
  simp (disch:=omega) only [wrap_i64]
  simpa using k1
theorem c17 (xs:List Int) (hl:szL (fun _=>0) xs≤1048576):OwnC E 1 17 [.list (xs.map rInt)] (.list (xs.map rInt)):=by
 have hx:=szL_len hl
 obtain ⟨H,h1,h2⟩:=c17_3 xs hl 0 (by omega) [some (List.replicate xs.length [.int .i64 0])] (Filling.start [] 0 xs.length [.int .i64 0])
 obtain ⟨B,h3,h4⟩:=h2.done (by simp)
 refine ⟨_,_,_,?_,h3,h4⟩
 rw [e17]; simp only [lnL_list,List.length_map,Option.bind_some]
 rw [mks_eq (by unfold maxLen; omega) (by unfold maxLen; omega) rfl]
 simpa using h1
theorem c36 (x:SConst) (l:Bool):run E (exec E) l 36 [x.d]=some x.d:=by
 rw [run_ent,e36]
 simp [readA_int,readA_bool,readA_str,readA_list,readA_sl0,readA_sl,readA_agg,readA_tup,SConst.row,ia,ld,st,getRow,rowLen,storeRow,part,D.cells,D.isCell,bld,fillC,bsl,fillR,slS,slL,sliceStr,bound,cut0,srcRows,rowsFit,call_pure,call_view,nilCheck,rInt,rStr,rBool,rByte]
theorem c16_3 (xs:List SConst) (hl:szL SConst.sz xs≤1048576):∀ i,i≤xs.length→∀ H,Filling H 0 0 xs.length [.int .i64 0,.str [],.int .i64 0,.int .i64 0] ((xs.take i).map SConst.row)→∃ H',J E 16 3 [.list (xs.map SConst.row),.sl 0 0 xs.length,.int .i64 i] H=some (.sl 0 0 xs.length,H')∧Filling H' 0 0 xs.length [.int .i64 0,.str [],.int .i64 0,.int .i64 0] (xs.map SConst.row):=by
 have hx:=szL_len hl
 refine loop_up (P:=fun i=>_) ?_ fun i hi ih H hF=>?_
 ·intro H hF
  rw [List.take_length] at hF
  refine ⟨H,?_,hF⟩
  rw [j16_3]; simp
 ·rw [j16_3]
  have hlt:((xs.take i).map SConst.row).length < xs.length:=by simp; omega
  have hti:((xs.take i).map SConst.row).length=i:=by simp; omega
  have hnx:(xs.take i).map SConst.row++[SConst.row xs[i]]=(xs.take (i + 1)).map SConst.row:=by rw [List.take_add_one,List.getElem?_eq_getElem hi,List.map_append]; rfl
  rw [Ev.ia_list (n:=(i:Int)) (by omega) (by simpa using hi) (by simp [rInt,rStr])]
  simp only [lnL_list,List.length_map,Option.bind_some,bI_lss,asB_bool,Int.ofNat_lt,hi,decide_true,cond_true,ld_el,Int.toNat_natCast,List.getElem_map]
  rw [show part xs[i].row (0,4,true)=some xs[i].d from rfl]; simp only [Option.bind_some]
  simp only [readA_int,readA_bool,readA_str,readA_list,readA_sl0,readA_sl,readA_agg,readA_tup,call_pure,optAll_cons,optAll_nil,SConst.readD,Option.bind_some,c36]
  rw [hF.ia (esz:=4) (i:=(i:Int)) hlt rfl (by omega) rfl]; simp only [Option.bind_some]
  obtain ⟨H2,q,hF2,-,-⟩:=hF.store hlt (v:=xs[i].d) (t:=xs[i].row) (RepR.scalars rfl) (FreshB.nil H) rfl (z:=4) rfl rfl
  rw [q]; simp only [Option.bind_some]
  rw [hnx] at hF2
  obtain ⟨H3,k1,k2⟩:=ih H2 hF2
  refine ⟨H3,?_,k2⟩
  simp only [bI_add,Option.bind_some]
  simp (disch:=omega) only [wrap_i64]
  simpa using k1
theorem c16 (xs:List SConst) (hl:szL SConst.sz xs≤1048576):OwnC E 1 16 [.list (xs.map SConst.row)] (.list (xs.map SConst.row)):=by
 have hx:=szL_len hl
 obtain ⟨H,h1,h2⟩:=c16_3 xs hl 0 (by omega) [some (List.replicate xs.length [.int .i64 0,.str [],.int .i64 0,.int .i64 0])] (Filling.start [] 0 xs.length [.int .i64 0,.str [],.int .i64 0,.int .i64 0])
 obtain ⟨B,h3,h4⟩:=h2.done (by simp)
 refine ⟨_,_,_,?_,h3,h4⟩
 rw [e16]; simp only [lnL_list,List.length_map,Option.bind_some]
 rw [mks_eq (by unfold maxLen; omega) (by unfold maxLen; omega) rfl]
 simpa using h1
theorem c37 (x:SField) (l:Bool):run E (exec E) l 37 [x.d]=some x.d:=by
 rw [run_ent,e37]
 simp [readA_int,readA_bool,readA_str,readA_list,readA_sl0,readA_sl,readA_agg,readA_tup,SField.row,ia,ld,st,getRow,rowLen,storeRow,part,D.cells,D.isCell,bld,fillC,bsl,fillR,slS,slL,sliceStr,bound,cut0,srcRows,rowsFit,call_pure,call_view,nilCheck,rInt,rStr,rBool,rByte]
theorem c18_3 (xs:List SField) (hl:szL (fun _=>0) xs≤1048576):∀ i,i≤xs.length→∀ H,Filling H 0 0 xs.length [.int .i64 0,.int .i64 0,.int .i64 0] ((xs.take i).map SField.row)→∃ H',J E 18 3 [.list (xs.map SField.row),.sl 0 0 xs.length,.int .i64 i] H=some (.sl 0 0 xs.length,H')∧Filling H' 0 0 xs.length [.int .i64 0,.int .i64 0,.int .i64 0] (xs.map SField.row):=by
 have hx:=szL_len hl
 refine loop_up (P:=fun i=>_) ?_ fun i hi ih H hF=>?_
 ·intro H hF
  rw [List.take_length] at hF
  refine ⟨H,?_,hF⟩
  rw [j18_3]; simp
 ·rw [j18_3]
  have hlt:((xs.take i).map SField.row).length < xs.length:=by simp; omega
  have hti:((xs.take i).map SField.row).length=i:=by simp; omega
  have hnx:(xs.take i).map SField.row++[SField.row xs[i]]=(xs.take (i + 1)).map SField.row:=by rw [List.take_add_one,List.getElem?_eq_getElem hi,List.map_append]; rfl
  rw [Ev.ia_list (n:=(i:Int)) (by omega) (by simpa using hi) (by simp [rInt,rStr])]
  simp only [lnL_list,List.length_map,Option.bind_some,bI_lss,asB_bool,Int.ofNat_lt,hi,decide_true,cond_true,ld_el,Int.toNat_natCast,List.getElem_map]
  rw [show part xs[i].row (0,3,true)=some xs[i].d from rfl]; simp only [Option.bind_some]
  simp only [readA_int,readA_bool,readA_str,readA_list,readA_sl0,readA_sl,readA_agg,readA_tup,call_pure,optAll_cons,optAll_nil,SField.readD,Option.bind_some,c37]
  rw [hF.ia (esz:=3) (i:=(i:Int)) hlt rfl (by omega) rfl]; simp only [Option.bind_some]
  obtain ⟨H2,q,hF2,-,-⟩:=hF.store hlt (v:=xs[i].d) (t:=xs[i].row) (RepR.scalars rfl) (FreshB.nil H) rfl (z:=3) rfl rfl
  rw [q]; simp only [Option.bind_some]
  rw [hnx] at hF2
  obtain ⟨H3,k1,k2⟩:=ih H2 hF2
  refine ⟨H3,?_,k2⟩
  simp only [bI_add,Option.bind_some]
  simp (disch:=omega) only [wrap_i64]
  simpa using k1
theorem c18 (xs:List SField) (hl:szL (fun _=>0) xs≤1048576):OwnC E 1 18 [.list (xs.map SField.row)] (.list (xs.map SField.row)):=by
 have hx:=szL_len hl
 obtain ⟨H,h1,h2⟩:=c18_3 xs hl 0 (by omega) [some (List.replicate xs.length [.int .i64 0,.int .i64 0,.int .i64 0])] (Filling.start [] 0 xs.length [.int .i64 0,.int .i64 0,.int .i64 0])
 obtain ⟨B,h3,h4⟩:=h2.done (by simp)
 refine ⟨_,_,_,?_,h3,h4⟩
 rw [e18]; simp only [lnL_list,List.length_map,Option.bind_some]
 rw [mks_eq (by unfold maxLen; omega) (by unfold maxLen; omega) rfl]
 simpa using h1
theorem c113 (x:STrap) (l:Bool):run E (exec E) l 113 [x.d]=some x.d:=by
 rw [run_ent,e113]
 simp [readA_int,readA_bool,readA_str,readA_list,readA_sl0,readA_sl,readA_agg,readA_tup,STrap.row,ia,ld,st,getRow,rowLen,storeRow,part,D.cells,D.isCell,bld,fillC,bsl,fillR,slS,slL,sliceStr,bound,cut0,srcRows,rowsFit,call_pure,call_view,nilCheck,rInt,rStr,rBool,rByte]
theorem c64_3 (xs:List STrap) (hl:szL (fun _=>0) xs≤1048576):∀ i,i≤xs.length→∀ H,Filling H 0 0 xs.length [.int .i64 0,.int .i64 0,.int .i64 0,.int .i64 0] ((xs.take i).map STrap.row)→∃ H',J E 64 3 [.list (xs.map STrap.row),.sl 0 0 xs.length,.int .i64 i] H=some (.sl 0 0 xs.length,H')∧Filling H' 0 0 xs.length [.int .i64 0,.int .i64 0,.int .i64 0,.int .i64 0] (xs.map STrap.row):=by
 have hx:=szL_len hl
 refine loop_up (P:=fun i=>_) ?_ fun i hi ih H hF=>?_
 ·intro H hF
  rw [List.take_length] at hF
  refine ⟨H,?_,hF⟩
  rw [j64_3]; simp
 ·rw [j64_3]
  have hlt:((xs.take i).map STrap.row).length < xs.length:=by simp; omega
  have hti:((xs.take i).map STrap.row).length=i:=by simp; omega
  have hnx:(xs.take i).map STrap.row++[STrap.row xs[i]]=(xs.take (i + 1)).map STrap.row:=by rw [List.take_add_one,List.getElem?_eq_getElem hi,List.map_append]; rfl
  rw [Ev.ia_list (n:=(i:Int)) (by omega) (by simpa using hi) (by simp [rInt,rStr])]
  simp only [lnL_list,List.length_map,Option.bind_some,bI_lss,asB_bool,Int.ofNat_lt,hi,decide_true,cond_true,ld_el,Int.toNat_natCast,List.getElem_map]
  rw [show part xs[i].row (0,4,true)=some xs[i].d from rfl]; simp only [Option.bind_some]
  simp only [readA_int,readA_bool,readA_str,readA_list,readA_sl0,readA_sl,readA_agg,readA_tup,call_pure,optAll_cons,optAll_nil,STrap.readD,Option.bind_some,c113]
  rw [hF.ia (esz:=4) (i:=(i:Int)) hlt rfl (by omega) rfl]; simp only [Option.bind_some]
  obtain ⟨H2,q,hF2,-,-⟩:=hF.store hlt (v:=xs[i].d) (t:=xs[i].row) (RepR.scalars rfl) (FreshB.nil H) rfl (z:=4) rfl rfl
  rw [q]; simp only [Option.bind_some]
  rw [hnx] at hF2
  obtain ⟨H3,k1,k2⟩:=ih H2 hF2
  refine ⟨H3,?_,k2⟩
  simp only [bI_add,Option.bind_some]
  simp (disch:=omega) only [wrap_i64]
  simpa using k1
theorem c64 (xs:List STrap) (hl:szL (fun _=>0) xs≤1048576):OwnC E 1 64 [.list (xs.map STrap.row)] (.list (xs.map STrap.row)):=by
 have hx:=szL_len hl
 obtain ⟨H,h1,h2⟩:=c64_3 xs hl 0 (by omega) [some (List.replicate xs.length [.int .i64 0,.int .i64 0,.int .i64 0,.int .i64 0])] (Filling.start [] 0 xs.length [.int .i64 0,.int .i64 0,.int .i64 0,.int .i64 0])
 obtain ⟨B,h3,h4⟩:=h2.done (by simp)
 refine ⟨_,_,_,?_,h3,h4⟩
 rw [e64]; simp only [lnL_list,List.length_map,Option.bind_some]
 rw [mks_eq (by unfold maxLen; omega) (by unfold maxLen; omega) rfl]
 simpa using h1
theorem c179 (x:SKind) (l:Bool):run E (exec E) l 179 [x.d]=some x.d:=by
 rw [run_ent,e179]
 simp [readA_int,readA_bool,readA_str,readA_list,readA_sl0,readA_sl,readA_agg,readA_tup,SKind.row,ia,ld,st,getRow,rowLen,storeRow,part,D.cells,D.isCell,bld,fillC,bsl,fillR,slS,slL,sliceStr,bound,cut0,srcRows,rowsFit,call_pure,call_view,nilCheck,rInt,rStr,rBool,rByte]
theorem c163_3 (xs:List SKind) (hl:szL (fun _=>0) xs≤1048576):∀ i,i≤xs.length→∀ H,Filling H 0 0 xs.length [.int .i64 0,.int .i64 0] ((xs.take i).map SKind.row)→∃ H',J E 163 3 [.list (xs.map SKind.row),.sl 0 0 xs.length,.int .i64 i] H=some (.sl 0 0 xs.length,H')∧Filling H' 0 0 xs.length [.int .i64 0,.int .i64 0] (xs.map SKind.row):=by
 have hx:=szL_len hl
 refine loop_up (P:=fun i=>_) ?_ fun i hi ih H hF=>?_
 ·intro H hF
  rw [List.take_length] at hF
  refine ⟨H,?_,hF⟩
  rw [j163_3]; simp
 ·rw [j163_3]
  have hlt:((xs.take i).map SKind.row).length < xs.length:=by simp; omega
  have hti:((xs.take i).map SKind.row).length=i:=by simp; omega
  have hnx:(xs.take i).map SKind.row++[SKind.row xs[i]]=(xs.take (i + 1)).map SKind.row:=by rw [List.take_add_one,List.getElem?_eq_getElem hi,List.map_append]; rfl
  rw [Ev.ia_list (n:=(i:Int)) (by omega) (by simpa using hi) (by simp [rInt,rStr])]
  simp only [lnL_list,List.length_map,Option.bind_some,bI_lss,asB_bool,Int.ofNat_lt,hi,decide_true,cond_true,ld_el,Int.toNat_natCast,List.getElem_map]
  rw [show part xs[i].row (0,2,true)=some xs[i].d from rfl]; simp only [Option.bind_some]
  simp only [readA_int,readA_bool,readA_str,readA_list,readA_sl0,readA_sl,readA_agg,readA_tup,call_pure,optAll_cons,optAll_nil,SKind.readD,Option.bind_some,c179]
  rw [hF.ia (esz:=2) (i:=(i:Int)) hlt rfl (by omega) rfl]; simp only [Option.bind_some]
  obtain ⟨H2,q,hF2,-,-⟩:=hF.store hlt (v:=xs[i].d) (t:=xs[i].row) (RepR.scalars rfl) (FreshB.nil H) rfl (z:=2) rfl rfl
  rw [q]; simp only [Option.bind_some]
  rw [hnx] at hF2
  obtain ⟨H3,k1,k2⟩:=ih H2 hF2
  refine ⟨H3,?_,k2⟩
  simp only [bI_add,Option.bind_some]
  simp (disch:=omega) only [wrap_i64]
  simpa using k1
theorem c163 (xs:List SKind) (hl:szL (fun _=>0) xs≤1048576):OwnC E 1 163 [.list (xs.map SKind.row)] (.list (xs.map SKind.row)):=by
 have hx:=szL_len hl
 obtain ⟨H,h1,h2⟩:=c163_3 xs hl 0 (by omega) [some (List.replicate xs.length [.int .i64 0,.int .i64 0])] (Filling.start [] 0 xs.length [.int .i64 0,.int .i64 0])
 obtain ⟨B,h3,h4⟩:=h2.done (by simp)
 refine ⟨_,_,_,?_,h3,h4⟩
 rw [e163]; simp only [lnL_list,List.length_map,Option.bind_some]
 rw [mks_eq (by unfold maxLen; omega) (by unfold maxLen; omega) rfl]
 simpa using h1
theorem c114 (x:SFrame) (h:x.sz≤1048576):OwnC E 2 114 [x.d] x.d:=by
 simp only [SFrame.sz] at h
 unfold OwnC
 rw [e114]
 simp only [D.cells]
 rw [alloc_eq _ _ _ (SFrame.isCell x),alloc_eq _ _ _ rfl,alloc_eq _ _ _ rfl]
 simp only [List.length_nil,List.nil_append,List.cons_append,List.length_cons,Nat.zero_add,fa_ptr,Option.bind_some]
 have C0:=Conv.start x.row [.int .i64 0,.sl0,.sl0] 1
 generalize [some [x.row],some [[.int .i64 0,.sl0,.sl0]],some [[.int .i64 0,.sl0,.sl0]]]=G0 at C0 ⊢
 rw [C0.src,show part x.row (0,1,false)=some (.int .i64 x.At) from rfl]; simp only [Option.bind_some]
 obtain ⟨G1,q0,C1⟩:=C0.store (v:=.int .i64 x.At) (t:=[.int .i64 x.At]) (RepR.scalars (r:=[.int .i64 x.At]) rfl) (FreshB.nil G0) rfl (k:=0) (z:=1) rfl rfl (by decide)
 rw [q0]; simp only [Option.bind_some]
 rw [C1.src,show part x.row (1,1,false)=some (.list (x.Locals.map SKind.row)) from rfl]; simp only [Option.bind_some]
 obtain ⟨d1,K1,B1,p1,r1,f1⟩:=(c163 x.Locals (by omega)).call (H0:=G1) (ds:=[.list (x.Locals.map SKind.row)]) (by omega) rfl
 rw [p1]; simp only [Option.bind_some]
 have e1:d1.cells=[d1]:=by have:=r1.cell rfl; cases d1 <;> first | rfl | (cases this; done)
 obtain ⟨G2,q1,C2⟩:=C1.store (v:=d1) (t:=[.list (x.Locals.map SKind.row)]) (by rw [e1]; exact RepR.cons (B':=[]) (r1.up (by omega)) .nil) (by simpa using f1) rfl (k:=1) (z:=1) rfl rfl (by decide)
 rw [q1]; simp only [Option.bind_some]
 rw [C2.src,show part x.row (2,1,false)=some (.list (x.Stack.map SKind.row)) from rfl]; simp only [Option.bind_some]
 obtain ⟨d2,K2,B2,p2,r2,f2⟩:=(c163 x.Stack (by omega)).call (H0:=G2) (ds:=[.list (x.Stack.map SKind.row)]) (by omega) rfl
 rw [p2]; simp only [Option.bind_some]
 have e2:d2.cells=[d2]:=by have:=r2.cell rfl; cases d2 <;> first | rfl | (cases this; done)
 obtain ⟨G3,q2,C3⟩:=C2.store (v:=d2) (t:=[.list (x.Stack.map SKind.row)]) (by rw [e2]; exact RepR.cons (B':=[]) (r2.up (by omega)) .nil) (by simpa using f2) rfl (k:=2) (z:=1) rfl rfl (by decide)
 rw [q2]; simp only [Option.bind_some]
 obtain ⟨p,G,q,r,R⟩:=C3.finish rfl (z:=3) rfl rfl
 rw [p]; simp only [Option.bind_some]; rw [q]; simp only [Option.bind_some]; rw [r]
 exact ⟨_,_,_,rfl,R,C3.2.2.2.2.1⟩
theorem c65_3 (xs:List SFrame) (hl:szL SFrame.sz xs≤1048576):∀ i,i≤xs.length→∀ H,Filling H 0 1 xs.length [.int .i64 0,.sl0,.sl0] ((xs.take i).map SFrame.row)→∃ H',J E 65 3 [.list (xs.map SFrame.row),.sl 0 0 xs.length,.int .i64 i] H=some (.sl 0 0 xs.length,H')∧Filling H' 0 1 xs.length [.int .i64 0,.sl0,.sl0] (xs.map SFrame.row):=by
 have hx:=szL_len hl
 refine loop_up (P:=fun i=>_) ?_ fun i hi ih H hF=>?_
 ·intro H hF
  rw [List.take_length] at hF
  refine ⟨H,?_,hF⟩
  rw [j65_3]; simp
 ·rw [j65_3]
  have hlt:((xs.take i).map SFrame.row).length < xs.length:=by simp; omega
  have hti:((xs.take i).map SFrame.row).length=i:=by simp; omega
  have hnx:(xs.take i).map SFrame.row++[SFrame.row xs[i]]=(xs.take (i + 1)).map SFrame.row:=by rw [List.take_add_one,List.getElem?_eq_getElem hi,List.map_append]; rfl
  rw [Ev.ia_list (n:=(i:Int)) (by omega) (by simpa using hi) (by simp [rInt,rStr])]
  simp only [lnL_list,List.length_map,Option.bind_some,bI_lss,asB_bool,Int.ofNat_lt,hi,decide_true,cond_true,ld_el,Int.toNat_natCast,List.getElem_map]
  rw [show part xs[i].row (0,3,true)=some xs[i].d from rfl]; simp only [Option.bind_some]
  obtain ⟨d,H1,B1,p,r,fr⟩:=(c114 xs[i] (szL_get hl hi)).call (H0:=H) (ds:=[xs[i].d]) (by omega) (by simp)
  rw [p]; simp only [Option.bind_some]
  obtain ⟨cs,rfl,r9⟩:∃ cs,d = .agg cs∧RepR true H1 1 cs xs[i].row B1:=by cases r with | agg h=>exact ⟨_,rfl,h⟩ | sc h=>cases h
  rw [hF.ia (esz:=3) (i:=(i:Int)) hlt (fr.keep (by obtain ⟨_,_,h,_⟩:=hF; exact getBlk_lt' h)) (by omega) rfl]; simp only [Option.bind_some]
  obtain ⟨H2,q,hF2,-,-⟩:=hF.store hlt (v:=.agg cs) (t:=xs[i].row) r9 fr rfl (z:=3) rfl rfl
  rw [q]; simp only [Option.bind_some]
  rw [hnx] at hF2
  obtain ⟨H3,k1,k2⟩:=ih H2 hF2
  refine ⟨H3,?_,k2⟩
  simp only [bI_add,Option.bind_some]
  simp (disch:=omega) only [wrap_i64]
  simpa using k1
theorem c65 (xs:List SFrame) (hl:szL SFrame.sz xs≤1048576):OwnC E 2 65 [.list (xs.map SFrame.row)] (.list (xs.map SFrame.row)):=by
 have hx:=szL_len hl
 obtain ⟨H,h1,h2⟩:=c65_3 xs hl 0 (by omega) [some (List.replicate xs.length [.int .i64 0,.sl0,.sl0])] (Filling.start [] 1 xs.length [.int .i64 0,.sl0,.sl0])
 obtain ⟨B,h3,h4⟩:=h2.done (by simp)
 refine ⟨_,_,_,?_,h3,h4⟩
 rw [e65]; simp only [lnL_list,List.length_map,Option.bind_some]
 rw [mks_eq (by unfold maxLen; omega) (by unfold maxLen; omega) rfl]
 simpa using h1
theorem c38 (x:SMethod) (h:x.sz≤1048576):OwnC E 3 38 [x.d] x.d:=by
 simp only [SMethod.sz] at h
 unfold OwnC
 rw [e38]
 simp only [D.cells]
 rw [alloc_eq _ _ _ (SMethod.isCell x),alloc_eq _ _ _ rfl,alloc_eq _ _ _ rfl]
 simp only [List.length_nil,List.nil_append,List.cons_append,List.length_cons,Nat.zero_add,fa_ptr,Option.bind_some]
 have C0:=Conv.start x.row [.int .i64 0,.int .i64 0,.int .i64 0,.int .i64 0,.int .i64 0,.str [],.sl0,.sl0] 2
 generalize [some [x.row],some [[.int .i64 0,.int .i64 0,.int .i64 0,.int .i64 0,.int .i64 0,.str [],.sl0,.sl0]],some [[.int .i64 0,.int .i64 0,.int .i64 0,.int .i64 0,.int .i64 0,.str [],.sl0,.sl0]]]=G0 at C0 ⊢
 rw [C0.src,show part x.row (0,1,false)=some (.int .i64 x.Flags) from rfl]; simp only [Option.bind_some]
 obtain ⟨G1,q0,C1⟩:=C0.store (v:=.int .i64 x.Flags) (t:=[.int .i64 x.Flags]) (RepR.scalars (r:=[.int .i64 x.Flags]) rfl) (FreshB.nil G0) rfl (k:=0) (z:=1) rfl rfl (by decide)
 rw [q0]; simp only [Option.bind_some]
 rw [C1.src,show part x.row (1,1,false)=some (.int .i64 x.Name) from rfl]; simp only [Option.bind_some]
 obtain ⟨G2,q1,C2⟩:=C1.store (v:=.int .i64 x.Name) (t:=[.int .i64 x.Name]) (RepR.scalars (r:=[.int .i64 x.Name]) rfl) (FreshB.nil G1) rfl (k:=1) (z:=1) rfl rfl (by decide)
 rw [q1]; simp only [Option.bind_some]
 rw [C2.src,show part x.row (2,1,false)=some (.int .i64 x.Desc) from rfl]; simp only [Option.bind_some]
 obtain ⟨G3,q2,C3⟩:=C2.store (v:=.int .i64 x.Desc) (t:=[.int .i64 x.Desc]) (RepR.scalars (r:=[.int .i64 x.Desc]) rfl) (FreshB.nil G2) rfl (k:=2) (z:=1) rfl rfl (by decide)
 rw [q2]; simp only [Option.bind_some]
 rw [C3.src,show part x.row (3,1,false)=some (.int .i64 x.Deep) from rfl]; simp only [Option.bind_some]
 obtain ⟨G4,q3,C4⟩:=C3.store (v:=.int .i64 x.Deep) (t:=[.int .i64 x.Deep]) (RepR.scalars (r:=[.int .i64 x.Deep]) rfl) (FreshB.nil G3) rfl (k:=3) (z:=1) rfl rfl (by decide)
 rw [q3]; simp only [Option.bind_some]
 rw [C4.src,show part x.row (4,1,false)=some (.int .i64 x.Locals) from rfl]; simp only [Option.bind_some]
 obtain ⟨G5,q4,C5⟩:=C4.store (v:=.int .i64 x.Locals) (t:=[.int .i64 x.Locals]) (RepR.scalars (r:=[.int .i64 x.Locals]) rfl) (FreshB.nil G4) rfl (k:=4) (z:=1) rfl rfl (by decide)
 rw [q4]; simp only [Option.bind_some]
 rw [C5.src,show part x.row (5,1,false)=some (.str x.Code) from rfl]; simp only [Option.bind_some]
 obtain ⟨G6,q5,C6⟩:=C5.store (v:=.str x.Code) (t:=[.str x.Code]) (RepR.scalars (r:=[.str x.Code]) rfl) (FreshB.nil G5) rfl (k:=5) (z:=1) rfl rfl (by decide)
 rw [q5]; simp only [Option.bind_some]
 rw [C6.src,show part x.row (6,1,false)=some (.list (x.Traps.map STrap.row)) from rfl]; simp only [Option.bind_some]
 obtain ⟨d6,K6,B6,p6,r6,f6⟩:=(c64 x.Traps (by omega)).call (H0:=G6) (ds:=[.list (x.Traps.map STrap.row)]) (by omega) rfl
 rw [p6]; simp only [Option.bind_some]
 have e6:d6.cells=[d6]:=by have:=r6.cell rfl; cases d6 <;> first | rfl | (cases this; done)
 obtain ⟨G7,q6,C7⟩:=C6.store (v:=d6) (t:=[.list (x.Traps.map STrap.row)]) (by rw [e6]; exact RepR.cons (B':=[]) (r6.up (by omega)) .nil) (by simpa using f6) rfl (k:=6) (z:=1) rfl rfl (by decide)
 rw [q6]; simp only [Option.bind_some]
 rw [C7.src,show part x.row (7,1,false)=some (.list (x.Frames.map SFrame.row)) from rfl]; simp only [Option.bind_some]
 obtain ⟨d7,K7,B7,p7,r7,f7⟩:=(c65 x.Frames (by omega)).call (H0:=G7) (ds:=[.list (x.Frames.map SFrame.row)]) (by omega) rfl
 rw [p7]; simp only [Option.bind_some]
 have e7:d7.cells=[d7]:=by have:=r7.cell rfl; cases d7 <;> first | rfl | (cases this; done)
 obtain ⟨G8,q7,C8⟩:=C7.store (v:=d7) (t:=[.list (x.Frames.map SFrame.row)]) (by rw [e7]; exact RepR.cons (B':=[]) (r7.up (by omega)) .nil) (by simpa using f7) rfl (k:=7) (z:=1) rfl rfl (by decide)
 rw [q7]; simp only [Option.bind_some]
 obtain ⟨p,G,q,r,R⟩:=C8.finish rfl (z:=8) rfl rfl
 rw [p]; simp only [Option.bind_some]; rw [q]; simp only [Option.bind_some]; rw [r]
 exact ⟨_,_,_,rfl,R,C8.2.2.2.2.1⟩
theorem c19_3 (xs:List SMethod) (hl:szL SMethod.sz xs≤1048576):∀ i,i≤xs.length→∀ H,Filling H 0 2 xs.length [.int .i64 0,.int .i64 0,.int .i64 0,.int .i64 0,.int .i64 0,.str [],.sl0,.sl0] ((xs.take i).map SMethod.row)→∃ H',J E 19 3 [.list (xs.map SMethod.row),.sl 0 0 xs.length,.int .i64 i] H=some (.sl 0 0 xs.length,H')∧Filling H' 0 2 xs.length [.int .i64 0,.int .i64 0,.int .i64 0,.int .i64 0,.int .i64 0,.str [],.sl0,.sl0] (xs.map SMethod.row):=by
 have hx:=szL_len hl
 refine loop_up (P:=fun i=>_) ?_ fun i hi ih H hF=>?_
 ·intro H hF
  rw [List.take_length] at hF
  refine ⟨H,?_,hF⟩
  rw [j19_3]; simp
 ·rw [j19_3]
  have hlt:((xs.take i).map SMethod.row).length < xs.length:=by simp; omega
  have hti:((xs.take i).map SMethod.row).length=i:=by simp; omega
  have hnx:(xs.take i).map SMethod.row++[SMethod.row xs[i]]=(xs.take (i + 1)).map SMethod.row:=by rw [List.take_add_one,List.getElem?_eq_getElem hi,List.map_append]; rfl
  rw [Ev.ia_list (n:=(i:Int)) (by omega) (by simpa using hi) (by simp [rInt,rStr])]
  simp only [lnL_list,List.length_map,Option.bind_some,bI_lss,asB_bool,Int.ofNat_lt,hi,decide_true,cond_true,ld_el,Int.toNat_natCast,List.getElem_map]
  rw [show part xs[i].row (0,8,true)=some xs[i].d from rfl]; simp only [Option.bind_some]
  obtain ⟨d,H1,B1,p,r,fr⟩:=(c38 xs[i] (szL_get hl hi)).call (H0:=H) (ds:=[xs[i].d]) (by omega) (by simp)
  rw [p]; simp only [Option.bind_some]
  obtain ⟨cs,rfl,r9⟩:∃ cs,d = .agg cs∧RepR true H1 2 cs xs[i].row B1:=by cases r with | agg h=>exact ⟨_,rfl,h⟩ | sc h=>cases h
  rw [hF.ia (esz:=8) (i:=(i:Int)) hlt (fr.keep (by obtain ⟨_,_,h,_⟩:=hF; exact getBlk_lt' h)) (by omega) rfl]; simp only [Option.bind_some]
  obtain ⟨H2,q,hF2,-,-⟩:=hF.store hlt (v:=.agg cs) (t:=xs[i].row) r9 fr rfl (z:=8) rfl rfl
  rw [q]; simp only [Option.bind_some]
  rw [hnx] at hF2
  obtain ⟨H3,k1,k2⟩:=ih H2 hF2
  refine ⟨H3,?_,k2⟩
  simp only [bI_add,Option.bind_some]
  simp (disch:=omega) only [wrap_i64]
  simpa using k1
theorem c19 (xs:List SMethod) (hl:szL SMethod.sz xs≤1048576):OwnC E 3 19 [.list (xs.map SMethod.row)] (.list (xs.map SMethod.row)):=by
 have hx:=szL_len hl
 obtain ⟨H,h1,h2⟩:=c19_3 xs hl 0 (by omega) [some (List.replicate xs.length [.int .i64 0,.int .i64 0,.int .i64 0,.int .i64 0,.int .i64 0,.str [],.sl0,.sl0])] (Filling.start [] 2 xs.length [.int .i64 0,.int .i64 0,.int .i64 0,.int .i64 0,.int .i64 0,.str [],.sl0,.sl0])
 obtain ⟨B,h3,h4⟩:=h2.done (by simp)
 refine ⟨_,_,_,?_,h3,h4⟩
 rw [e19]; simp only [lnL_list,List.length_map,Option.bind_some]
 rw [mks_eq (by unfold maxLen; omega) (by unfold maxLen; omega) rfl]
 simpa using h1
theorem c6 (x:SClass) (h:x.sz≤1048576):OwnC E 4 6 [x.d] x.d:=by
 simp only [SClass.sz] at h
 unfold OwnC
 rw [e6]
 simp only [D.cells]
 rw [alloc_eq _ _ _ (SClass.isCell x),alloc_eq _ _ _ rfl,alloc_eq _ _ _ rfl]
 simp only [List.length_nil,List.nil_append,List.cons_append,List.length_cons,Nat.zero_add,fa_ptr,Option.bind_some]
 have C0:=Conv.start x.row [.sl0,.int .i64 0,.int .i64 0,.int .i64 0,.sl0,.sl0,.sl0] 3
 generalize [some [x.row],some [[.sl0,.int .i64 0,.int .i64 0,.int .i64 0,.sl0,.sl0,.sl0]],some [[.sl0,.int .i64 0,.int .i64 0,.int .i64 0,.sl0,.sl0,.sl0]]]=G0 at C0 ⊢
 rw [C0.src,show part x.row (0,1,false)=some (.list (x.Pool.map SConst.row)) from rfl]; simp only [Option.bind_some]
 obtain ⟨d0,K0,B0,p0,r0,f0⟩:=(c16 x.Pool (by omega)).call (H0:=G0) (ds:=[.list (x.Pool.map SConst.row)]) (by omega) rfl
 rw [p0]; simp only [Option.bind_some]
 have e0:d0.cells=[d0]:=by have:=r0.cell rfl; cases d0 <;> first | rfl | (cases this; done)
 obtain ⟨G1,q0,C1⟩:=C0.store (v:=d0) (t:=[.list (x.Pool.map SConst.row)]) (by rw [e0]; exact RepR.cons (B':=[]) (r0.up (by omega)) .nil) (by simpa using f0) rfl (k:=0) (z:=1) rfl rfl (by decide)
 rw [q0]; simp only [Option.bind_some]
 rw [C1.src,show part x.row (1,1,false)=some (.int .i64 x.Flags) from rfl]; simp only [Option.bind_some]
 obtain ⟨G2,q1,C2⟩:=C1.store (v:=.int .i64 x.Flags) (t:=[.int .i64 x.Flags]) (RepR.scalars (r:=[.int .i64 x.Flags]) rfl) (FreshB.nil G1) rfl (k:=1) (z:=1) rfl rfl (by decide)
 rw [q1]; simp only [Option.bind_some]
 rw [C2.src,show part x.row (2,1,false)=some (.int .i64 x.Name) from rfl]; simp only [Option.bind_some]
 obtain ⟨G3,q2,C3⟩:=C2.store (v:=.int .i64 x.Name) (t:=[.int .i64 x.Name]) (RepR.scalars (r:=[.int .i64 x.Name]) rfl) (FreshB.nil G2) rfl (k:=2) (z:=1) rfl rfl (by decide)
 rw [q2]; simp only [Option.bind_some]
 rw [C3.src,show part x.row (3,1,false)=some (.int .i64 x.Super) from rfl]; simp only [Option.bind_some]
 obtain ⟨G4,q3,C4⟩:=C3.store (v:=.int .i64 x.Super) (t:=[.int .i64 x.Super]) (RepR.scalars (r:=[.int .i64 x.Super]) rfl) (FreshB.nil G3) rfl (k:=3) (z:=1) rfl rfl (by decide)
 rw [q3]; simp only [Option.bind_some]
 rw [C4.src,show part x.row (4,1,false)=some (.list (x.Faces.map rInt)) from rfl]; simp only [Option.bind_some]
 obtain ⟨d4,K4,B4,p4,r4,f4⟩:=(c17 x.Faces (by omega)).call (H0:=G4) (ds:=[.list (x.Faces.map rInt)]) (by omega) rfl
 rw [p4]; simp only [Option.bind_some]
 have e4:d4.cells=[d4]:=by have:=r4.cell rfl; cases d4 <;> first | rfl | (cases this; done)
 obtain ⟨G5,q4,C5⟩:=C4.store (v:=d4) (t:=[.list (x.Faces.map rInt)]) (by rw [e4]; exact RepR.cons (B':=[]) (r4.up (by omega)) .nil) (by simpa using f4) rfl (k:=4) (z:=1) rfl rfl (by decide)
 rw [q4]; simp only [Option.bind_some]
 rw [C5.src,show part x.row (5,1,false)=some (.list (x.Fields.map SField.row)) from rfl]; simp only [Option.bind_some]
 obtain ⟨d5,K5,B5,p5,r5,f5⟩:=(c18 x.Fields (by omega)).call (H0:=G5) (ds:=[.list (x.Fields.map SField.row)]) (by omega) rfl
 rw [p5]; simp only [Option.bind_some]
 have e5:d5.cells=[d5]:=by have:=r5.cell rfl; cases d5 <;> first | rfl | (cases this; done)
 obtain ⟨G6,q5,C6⟩:=C5.store (v:=d5) (t:=[.list (x.Fields.map SField.row)]) (by rw [e5]; exact RepR.cons (B':=[]) (r5.up (by omega)) .nil) (by simpa using f5) rfl (k:=5) (z:=1) rfl rfl (by decide)
 rw [q5]; simp only [Option.bind_some]
 rw [C6.src,show part x.row (6,1,false)=some (.list (x.Methods.map SMethod.row)) from rfl]; simp only [Option.bind_some]
 obtain ⟨d6,K6,B6,p6,r6,f6⟩:=(c19 x.Methods (by omega)).call (H0:=G6) (ds:=[.list (x.Methods.map SMethod.row)]) (by omega) rfl
 rw [p6]; simp only [Option.bind_some]
 have e6:d6.cells=[d6]:=by have:=r6.cell rfl; cases d6 <;> first | rfl | (cases this; done)
 obtain ⟨G7,q6,C7⟩:=C6.store (v:=d6) (t:=[.list (x.Methods.map SMethod.row)]) (by rw [e6]; exact RepR.cons (B':=[]) (r6.up (by omega)) .nil) (by simpa using f6) rfl (k:=6) (z:=1) rfl rfl (by decide)
 rw [q6]; simp only [Option.bind_some]
 obtain ⟨p,G,q,r,R⟩:=C7.finish rfl (z:=7) rfl rfl
 rw [p]; simp only [Option.bind_some]; rw [q]; simp only [Option.bind_some]; rw [r]
 exact ⟨_,_,_,rfl,R,C7.2.2.2.2.1⟩
end Go.Ev.YtmpfooibdekppaaGreatDoor
namespace Go.Ev.YtmpfooibdekppaaGreatDoor
set_option linter.unusedVariables false
set_option linter.unusedSimpArgs false
set_option linter.unusedSectionVars false
set_option linter.defProp false
set_option maxHeartbeats 1000000
open Go.Ev
theorem cBS_one (H:Heap) (c:UInt8) (K:Heap) (b:Nat) (h:getBlk H b=some [[.int .u8 c.toNat]]):cBS H (.sl b 0 1)=some (.str [c],H):=by
 simp [cBS,srcRows,h,rowsFit,optAll,byteOf]
end Go.Ev.YtmpfooibdekppaaGreatDoor
namespace Go.Ev.YtmpfooibdekppaaGreatDoor
set_option linter.unusedVariables false
set_option linter.unusedSimpArgs false
set_option linter.unusedSectionVars false
set_option linter.defProp false
set_option maxHeartbeats 1000000
open Go.Ev
def inR (n lo hi:Int):Bool:=decide (lo≤n) && decide (n≤hi)
theorem c14 (n lo hi:Int):run E (exec E) false 14 [.int .i64 n,.int .i64 lo,.int .i64 hi]=some (.bool (inR n lo hi)):=by
 rw [run_ent,e14]
 simp [inR]
 by_cases h:lo≤n <;> simp [h]
theorem c21 (n lo hi:Int):run E (exec E) false 21 [.int .i64 n,.int .i64 lo,.int .i64 hi]=some (.bool (inR n lo hi)):=by
 rw [run_ent,e21]
 simp [inR]
 by_cases h:lo≤n <;> simp [h]
def opArgs (op:Int):Int:=if op=1 then 2 else if inR op 3 6 then 1 else if inR op 14 29 then 2 else if inR op 0 34 then 0 else -1
theorem c136 (op:Int):run E (exec E) false 136 [.int .i64 op]=some (.int .i64 (opArgs op)):=by
 rw [run_ent,e136]
 simp [readA_int,readA_bool,readA_str,readA_list,readA_sl0,readA_sl,readA_agg,readA_tup,call_pure,c21,opArgs]
 by_cases h1:op=1
 ·subst h1; simp [inR]
 ·cases h2:inR op 3 6 <;> cases h3:inR op 14 29 <;> cases h4:inR op 0 34 <;> simp [h1]
theorem c158 (op:Int):run E (exec E) false 158 [.int .i64 op]=some (.int .i64 (opArgs op)):=by
 rw [run_ent,e158]
 simp [readA_int,readA_bool,readA_str,readA_list,readA_sl0,readA_sl,readA_agg,readA_tup,call_pure,c14,opArgs,j158_8,j158_9]
 by_cases h1:op=1
 ·subst h1; simp [inR]
 ·by_cases h2:op=3
  ·subst h2; simp [inR]
  ·by_cases h3:op=4
   ·subst h3; simp [inR]
   ·by_cases h4:op=5
    ·subst h4; simp [inR]
    ·by_cases h5:op=6
     ·subst h5; simp [inR]
     ·have:inR op 3 6=false:=by simp [inR]; omega
      have h29:inR op 14 29=(inR op 14 18 || inR op 19 29):=by
       simp only [inR]
       by_cases a1:14≤op <;> by_cases a2:op≤29 <;> by_cases a3:op≤18 <;> by_cases a4:19≤op <;> simp [a1,a2,a3,a4] <;> omega
      simp [h1,h2,h3,h4,h5,this,h29]
      cases inR op 14 18 <;> cases inR op 19 29 <;> cases inR op 0 34 <;> simp
def numBytes (s:List UInt8):Int:=s.foldl (fun n b=>256 * n + b.toNat) 0
def numFix (op n:Int):Int:=if op=1∧32767 < n then n - 65536 else n
theorem opArgs_le (op:Int):opArgs op≤2:=by
 unfold opArgs; split
 ·omega
 ·split
  ·omega
  ·split
   ·omega
   ·split <;> omega
theorem opArgs_ge (op:Int) : -1≤opArgs op:=by
 unfold opArgs; split
 ·omega
 ·split
  ·omega
  ·split
   ·omega
   ·split <;> omega
def opsGo (at_:Nat):List UInt8→Option (List SIns)
 | []=>some []
 | b :: rest=>
  let n:=opArgs b.toNat
  if n < 0∨(rest.length:Int) < n then none
  else (opsGo (at_ + 1 + n.toNat) (rest.drop n.toNat)).map (⟨at_,b.toNat,numFix b.toNat (numBytes (rest.take n.toNat))⟩ :: ·)
 termination_by s=>s.length
 decreasing_by simp; omega
theorem c159 (s:List UInt8) (op:Int) (h:s.length≤2):run E (exec E) false 159 [.str s,.int .i64 op]=some (.int .i64 (numFix op (numBytes s))):=by
 rw [run_ent,e159]
 match s,h with
 | [],_=>simp [numFix,numBytes]
 | [a],_=>
  have ha:=a.toNat_lt
  simp [ix,numFix,numBytes,j159_6,wrap_i64,(show ¬ (32767:Int) < a.toNat by omega),(show ¬ (32768:Int)≤a.toNat by omega),(show (a.toNat:Int)≤9223372036854775807 by omega),(show -9223372036854775808≤(a.toNat:Int) by omega)]
 | [a,b],_=>
  have ha:=a.toNat_lt
  have hb:=b.toNat_lt
  simp [ix,numFix,numBytes,j159_6]
  rw [wrap_i64 (n:=a.toNat) (by omega) (by omega),wrap_i64 (n:=b.toNat) (by omega) (by omega),wrap_i64 (n:=a.toNat * 256) (by omega) (by omega),wrap_i64 (n:=a.toNat * 256 + b.toNat) (by omega) (by omega)]
  have e:(a.toNat:Int) * 256 + b.toNat=256 * a.toNat + b.toNat:=by omega
  rw [e]
  by_cases h1:op=1
  ·by_cases h2:(32767:Int) < 256 * a.toNat + b.toNat
   ·simp [h1,h2,(show (32768:Int)≤256 * a.toNat + b.toNat by omega)]
    rw [wrap_i64 (by omega) (by omega)]
   ·simp [h1,h2,(show ¬ (32768:Int)≤256 * a.toNat + b.toNat by omega)]
  ·simp [h1]
theorem slS_mid {s:List UInt8} {a b:Int} (h0:0≤a) (h1:a≤b) (h2:b≤s.length):slS (.str s) (some (.int .i64 a)) (some (.int .i64 b)) none=some (.str ((s.take b.toNat).drop a.toNat)):=by
 simp [slS,bound,sliceStr,h0,h1,h2]
def opsRes:Option (List SIns)→D
 | some l=>.tup [.list (l.map SIns.row),.bool (decide (0 < l.length))]
 | none=>.tup [.list [],.bool false]
theorem c107_3 (s:List UInt8) (hs:s.length≤1000000):∀ (k at_:Nat) (acc:List SIns) (d:D) (H:Heap),s.length - at_≤k→at_≤s.length→acc.length≤at_→Acc 3 H d (acc.map SIns.row) →
  ∃ q,J E 107 3 [.str s,d,.int .i64 at_] H=some q∧readT true depth q.2 q.1=some (opsRes ((opsGo at_ (s.drop at_)).map (acc ++ ·)))
 | k,at_,acc,d,H,hk,hat,hlen,hA=>by
  rw [j107_3]
  by_cases hend:at_=s.length
  ·subst hend
   simp [hA.len,opsGo,opsRes,hA.read (SIns.plain acc)]
  ·have hlt:at_ < s.length:=by omega
   have hd:s.drop at_=s[at_] :: s.drop (at_ + 1):=List.drop_eq_getElem_cons hlt
   have hb:=s[at_].toNat_lt
   have h2:=opArgs_le s[at_].toNat
   have h3:=opArgs_ge s[at_].toNat
   have hrl:((s.drop (at_ + 1)).length:Int)=s.length - at_ - 1:=by simp; omega
   rw [hd,opsGo]
   simp only [hrl]
   have hw1:IntKind.wrap .i64 (at_ + 1)=at_ + 1:=wrap_i64 (by omega) (by omega)
   have hw2:IntKind.wrap .i64 (at_ + 1 + opArgs s[at_].toNat)=at_ + 1 + opArgs s[at_].toNat:=wrap_i64 (by omega) (by omega)
   have hw3:IntKind.wrap .i64 (s[at_].toNat:Int)=s[at_].toNat:=wrap_i64 (by omega) (by omega)
   simp only [readA_int,readA_bool,readA_str,readA_list,readA_sl0,readA_sl,readA_agg,readA_tup,lnS_str,Option.bind_some,bI_lss,asB_bool,ix_nat,List.getElem?_eq_getElem hlt,Option.map_some,cI_int,hw3,call_pure,optAll_cons,optAll_nil,readT_int,c158,bI_add,hw1,hw2,bI_gtr]
   have hlt':(at_:Int) < s.length:=by omega
   simp only [hlt',decide_true,cond_true]
   by_cases hn:opArgs s[at_].toNat < 0
   ·simp [hn,opsRes]
   ·simp only [hn,decide_false,cond_false,false_or]
    by_cases hg:(s.length:Int) < at_ + 1 + opArgs s[at_].toNat
    ·have:(s.length:Int) - at_ - 1 < opArgs s[at_].toNat:=by omega
     simp [hg,this,opsRes]
    ·have hg':¬ (s.length:Int) - at_ - 1 < opArgs s[at_].toNat:=by omega
     simp only [hg,hg',decide_false,cond_false,if_false]
     rw [slS_mid (by omega) (by omega) (by omega)]
     have harg:((s.take ((at_:Int) + 1 + opArgs s[at_].toNat).toNat).drop ((at_:Int) + 1).toNat)=(s.drop (at_ + 1)).take (opArgs s[at_].toNat).toNat:=by
      rw [List.take_drop]; congr 2; omega
     rw [harg]
     simp only [readA_int,readA_bool,readA_str,readA_list,readA_sl0,readA_sl,readA_agg,readA_tup,Option.bind_some,readT_str,optAll_cons,optAll_nil]
     rw [c159 _ _ (by simp; omega)]
     simp only [Option.bind_some]
     generalize hx:(⟨at_,s[at_].toNat,numFix s[at_].toNat (numBytes ((s.drop (at_ + 1)).take (opArgs s[at_].toNat).toNat))⟩:SIns)=x
     have hbld:bld [.int .i64 0,.int .i64 0,.int .i64 0] [(0,1,false),(1,1,false),(2,1,false)] [(0,.int .i64 at_),(1,.int .i64 s[at_].toNat),(2,.int .i64 (numFix s[at_].toNat (numBytes ((s.drop (at_ + 1)).take (opArgs s[at_].toNat).toNat))))]=some (.agg x.row):=by subst hx; rfl
     rw [hbld]
     simp only [Option.bind_some]
     rw [bsl_one (esz:=3) (by omega) rfl rfl rfl]
     simp only [Option.bind_some]
     obtain ⟨d',H',h4,h5,h6⟩:=app_one (eb:=24) (c:=x.row) hA rfl (by simp [maxLen]; omega)
     rw [show (D.agg x.row).cells=x.row from rfl,h4]
     simp only [Option.bind_some]
     have hnat:(at_:Int) + 1 + opArgs s[at_].toNat=((at_ + 1 + (opArgs s[at_].toNat).toNat:Nat):Int):=by omega
     rw [hnat]
     have:=c107_3 s hs (k - 1) (at_ + 1 + (opArgs s[at_].toNat).toNat) (acc++[x]) d' H' (by omega) (by omega) (by simp; omega) (by simpa using h5)
     obtain ⟨q,q1,q2⟩:=this
     refine ⟨q,q1,?_⟩
     rw [q2]
     congr 2
     rw [List.drop_drop]
     cases opsGo (at_ + 1 + (opArgs s[at_].toNat).toNat) (s.drop (at_ + 1 + (opArgs s[at_].toNat).toNat)) <;> simp
 termination_by k=>k
 decreasing_by omega
@[simp] theorem ix_at (s:List UInt8) (n:Int) (h0:0≤n) (h:n < s.length):ix (.str s) (.int .i64 n)=some (.int .u8 (s[n.toNat]'(by omega)).toNat):=ix_get h0 (by omega)
theorem c83_11 (s:List UInt8) (out:D) (at_ n:Int) (bx bb:Nat) (A O:Int) (hne:bx ≠ bb):∀ (k i:Nat) (l:List UInt8) (num:Int) (H:Heap),l.length - i=k→i≤l.length→l.length≤2→0≤num→num < 256 ^ i →
  getBlk H bx=some [[.int .i64 A,.int .i64 O,.int .i64 num]]→getBlk H bb=some (l.map fun c=>[.int .u8 c.toNat]) →
  ∃ H',H'.length=H.length∧(∀ b,b ≠ bx→getBlk H' b=getBlk H b)∧getBlk H' bx=some [[.int .i64 A,.int .i64 O,.int .i64 ((l.drop i).foldl (fun n b=>256 * n + (b.toNat:Int)) num)]] ∧
   J E 83 11 [.str s,out,.int .i64 at_,.ptr bx 0 0,.int .i64 n,.sl bb 0 l.length,.int .i64 l.length,.int .i64 i] H =
   J E 83 11 [.str s,out,.int .i64 at_,.ptr bx 0 0,.int .i64 n,.sl bb 0 l.length,.int .i64 l.length,.int .i64 l.length] H'
 | 0,i,l,num,H,hk,hi,hl,h0,hn,hx,hb=>by
  have:i=l.length:=by omega
  subst this
  exact ⟨H,rfl,fun _ _=>rfl,by simpa using hx,rfl⟩
 | k + 1,i,l,num,H,hk,hi,hl,h0,hn,hx,hb=>by
  have hlt:i < l.length:=by omega
  have hc:=l[i].toNat_lt
  have hnum:num≤256:=by
   have:i=0∨i=1:=by omega
   rcases this with rfl | rfl <;> simp at hn <;> omega
  obtain ⟨H',e1,e3,e4,e2⟩:=c83_11 s out at_ n bx bb A O hne k (i + 1) l (256 * num + (l[i].toNat:Int)) (H.set bx (some [[.int .i64 A,.int .i64 O,.int .i64 (256 * num + (l[i].toNat:Int))]])) (by omega) (by omega) hl (by omega) (by rw [Int.pow_succ]; omega) (getBlk_set_self (getBlk_lt' hx)) (by rw [getBlk_ne (Ne.symm hne)]; exact hb)
  refine ⟨H',by simpa using e1,fun b hb=>by rw [e3 b hb,getBlk_ne hb],by rw [e4,List.drop_eq_getElem_cons hlt]; rfl,?_⟩
  rw [← e2,j83_11]
  simp [ia,ld,st,getRow,rowLen,storeRow,part,D.cells,D.isCell,hx,hb,hlt]
  simp (disch:=omega) only [wrap_i64]
theorem c83_17 (s:List UInt8) (d:D) (at_ n:Int) (bx:Nat) (x:SIns) (acc:List SIns) (H:Heap) (hA:Acc 3 H d (acc.map SIns.row)) (hx:getBlk H bx=some [x.row]) (ha:acc.length≤1000) (hat:0≤at_∧at_≤1000) (hn:0≤n∧n≤1000) :
  ∃ d' H',J E 83 17 [.str s,d,.int .i64 at_,.ptr bx 0 0,.int .i64 n] H=J E 83 5 [.str s,d',.int .i64 (at_ + (1 + n))] H'∧Acc 3 H' d' ((acc++[x]).map SIns.row):=by
 obtain ⟨d',H',h4,h5,h6⟩:=app_one (eb:=24) (c:=x.row) hA rfl (by simp [maxLen]; omega)
 refine ⟨d',H',?_,by simpa using h5⟩
 rw [j83_17]
 rw [ld_ptr hx rfl,show part x.row (0,3,true)=some (.agg x.row) from rfl]
 simp only [Option.bind_some]
 rw [bsl_one (esz:=3) (by omega) rfl rfl rfl]
 simp only [Option.bind_some,show (D.agg x.row).cells=x.row from rfl,h4,bI_add]
 simp (disch:=omega) only [wrap_i64]
theorem c83_tail (s l:List UInt8) (d:D) (at_ A O:Nat) (n:Int) (bx bb:Nat) (hne:bx ≠ bb) (hl:l.length≤2) (acc:List SIns) (H:Heap) (hA:Acc 3 H d (acc.map SIns.row)) (hx:getBlk H bx=some [[.int .i64 A,.int .i64 O,.int .i64 0]]) (hd:∀ o n,d ≠ .sl bx o n)
  (hb:getBlk H bb=some (l.map fun c=>[.int .u8 c.toNat])) (ha:acc.length≤1000) (hat:at_≤1000) (hn:0≤n∧n≤1000) :
  ∃ d' H',J E 83 11 [.str s,d,.int .i64 at_,.ptr bx 0 0,.int .i64 n,.sl bb 0 l.length,.int .i64 l.length,.int .i64 (0:Nat)] H=J E 83 5 [.str s,d',.int .i64 (at_ + (1 + n))] H'∧Acc 3 H' d' ((acc++[(⟨A,O,numFix O (numBytes l)⟩:SIns)]).map SIns.row):=by
 obtain ⟨H',e1,e3,e4,e2⟩:=c83_11 s d at_ n bx bb A O hne l.length 0 l 0 H rfl (by omega) hl (by omega) (by simp) hx hb
 have hA':Acc 3 H' d (acc.map SIns.row):=⟨hA.1,hA.2.imp id fun ⟨h1,b,h2,h3⟩=>⟨h1,b,h2,by rw [e3 b fun e=>hd _ _ (e ▸ h2)]; exact h3⟩⟩
 simp only [List.drop_zero] at e4
 have hnum:([]:List UInt8).length=0→(l.foldl (fun n b=>256 * n + (b.toNat:Int)) 0)=numBytes l:=fun _=>rfl
 rw [hnum rfl] at e4
 have hr:0≤numBytes l∧numBytes l≤65535:=by
  match l,hl with
  | [],_=>simp [numBytes]
  | [a],_=>have:=a.toNat_lt; simp [numBytes]; omega
  | [a,b],_=>have:=a.toNat_lt; have:=b.toNat_lt; simp [numBytes]; omega
 rw [e2,j83_11]
 simp [readA_int,readA_bool,readA_str,readA_list,readA_sl0,readA_sl,readA_agg,readA_tup,ia,ld,st,getRow,rowLen,storeRow,part,D.cells,D.isCell,bld,fillC,bsl,fillR,slS,slL,sliceStr,bound,cut0,srcRows,rowsFit,call_pure,call_view,nilCheck,rInt,rStr,rBool,rByte,e4]
 by_cases h1:(O:Int)=1
 ·by_cases h2:32767 < numBytes l
  ·have h2':¬ numBytes l≤32767:=by omega
   simp only [h1,h2,decide_true,cond_true]
   rw [wrap_i64 (by omega) (by omega)]
   have hs:getBlk (H'.set bx (some [[D.int .i64 A,.int .i64 1,.int .i64 (numBytes l - 65536)]])) bx=some [SIns.row ⟨A,O,numFix O (numBytes l)⟩]:=by
    rw [getBlk_set_self (getBlk_lt' e4)]; simp [SIns.row,numFix,h1,h2]
   have hA2:Acc 3 (H'.set bx (some [[D.int .i64 A,.int .i64 1,.int .i64 (numBytes l - 65536)]])) d (acc.map SIns.row):=⟨hA'.1,hA'.2.imp id fun ⟨h1,b,h2,h3⟩=>⟨h1,b,h2,by rw [getBlk_ne fun e=>hd _ _ (e ▸ h2)]; exact h3⟩⟩
   have:=c83_17 s d at_ n bx ⟨A,O,numFix O (numBytes l)⟩ acc _ hA2 hs ha (by omega) hn
   rw [h1] at this
   simpa using this
  ·simp only [h1,h2,decide_true,decide_false,cond_true,cond_false]
   have:=c83_17 s d at_ n bx ⟨A,O,numFix O (numBytes l)⟩ acc _ hA' (by rw [e4]; simp [SIns.row,numFix,h1,h2]) ha (by omega) hn
   rw [h1] at this
   simpa using this
 ·simp only [h1,decide_false,cond_false]
  have:=c83_17 s d at_ n bx ⟨A,O,numFix O (numBytes l)⟩ acc _ hA' (by rw [e4]; simp [SIns.row,numFix,h1]) ha (by omega) hn
  simpa using this
theorem c83_5 (s:List UInt8) (hs:s.length≤120):∀ (k at_:Nat) (acc:List SIns) (d:D) (H:Heap),s.length - at_≤k→at_≤s.length→acc.length≤at_→Acc 3 H d (acc.map SIns.row) →
  match (opsGo at_ (s.drop at_)).map (acc ++ ·) with
  | some l=>∃ d' H',J E 83 5 [.str s,d,.int .i64 at_] H=some (.tup [d',.bool true],H')∧Acc 3 H' d' (l.map SIns.row)
  | none=>∃ H',J E 83 5 [.str s,d,.int .i64 at_] H=some (.tup [.sl0,.bool false],H')
 | k,at_,acc,d,H,hk,hat,hlen,hA=>by
  by_cases hend:at_=s.length
  ·subst hend
   rw [j83_5]
   simp only [List.drop_length,opsGo,Option.map_some,List.append_nil,lnS_str,Option.bind_some,bI_lss,asB_bool,Int.lt_irrefl,decide_false,cond_false,ret_two]
   exact ⟨d,H,rfl,hA⟩
  ·have hlt:at_ < s.length:=by omega
   have hd:s.drop at_=s[at_] :: s.drop (at_ + 1):=List.drop_eq_getElem_cons hlt
   have hb:=s[at_].toNat_lt
   have h2:=opArgs_le s[at_].toNat
   have h3:=opArgs_ge s[at_].toNat
   have hrl:((s.drop (at_ + 1)).length:Int)=s.length - at_ - 1:=by simp; omega
   rw [hd,opsGo,j83_5]
   simp only [hrl]
   have hw3:IntKind.wrap .i64 (s[at_].toNat:Int)=s[at_].toNat:=wrap_i64 (by omega) (by omega)
   have hw4:IntKind.wrap .i64 ((s.length:Int) - at_)=s.length - at_:=wrap_i64 (by omega) (by omega)
   simp [readA_int,readA_bool,readA_str,readA_list,readA_sl0,readA_sl,readA_agg,readA_tup,ix_nat,ia,ld,st,getRow,rowLen,storeRow,part,D.cells,D.isCell,bld,fillC,hlt,call_pure,c136,hw3,hw4]
   by_cases hn:opArgs s[at_].toNat < 0
   ·simp [hn]
   ·by_cases hg:(s.length:Int) - at_≤opArgs s[at_].toNat
    ·have:(s.length:Int) - at_ - 1 < opArgs s[at_].toNat:=by omega
     simp [hn,hg,this]
    ·have hg':¬ (s.length:Int) - at_ - 1 < opArgs s[at_].toNat:=by omega
     simp only [hn,hg,hg',decide_false,cond_false,if_false,or_self]
     rw [wrap_i64 (n:=(at_:Int) + 1) (by omega) (by omega),wrap_i64 (n:=(at_:Int) + 1 + _) (by omega) (by omega),slS_mid (by omega) (by omega) (by omega)]
     have harg:((s.take ((at_:Int) + 1 + opArgs s[at_].toNat).toNat).drop ((at_:Int) + 1).toNat)=(s.drop (at_ + 1)).take (opArgs s[at_].toNat).toNat:=by
      rw [List.take_drop]; congr 2; omega
     rw [harg,show s.drop (at_ + 1 + (opArgs s[at_].toNat).toNat)=(s.drop (at_ + 1)).drop (opArgs s[at_].toNat).toNat by rw [List.drop_drop]]
     generalize hl:(s.drop (at_ + 1)).take (opArgs s[at_].toNat).toNat=l
     have hll:l.length=(opArgs s[at_].toNat).toNat:=by rw [← hl]; simp; omega
     simp only [Option.bind_some,cSB,show l.length≤maxLen by (unfold maxLen; omega),if_true,lnL_sl]
     have hlen2:(H++[some [[D.int .i64 at_,.int .i64 s[at_].toNat,.int .i64 0]]]).length=H.length + 1:=by simp
     obtain ⟨d',H',e1,e2⟩:=c83_tail s l d at_ at_ s[at_].toNat (opArgs s[at_].toNat) H.length (H.length + 1) (by omega) (by omega) acc (H++[some [[D.int .i64 at_,.int .i64 s[at_].toNat,.int .i64 0]]]++[some (l.map fun c=>[.int .u8 c.toNat])])
      ((hA.app _).app _) (by simp) (fun o n e=>by
       rcases hA.2 with ⟨_,rfl⟩ | ⟨_,b,rfl,h⟩
       ·cases e
       ·cases e; have:=getBlk_lt' h; omega) (by rw [← hlen2]; exact getBlk_self _ _ _) (by omega) (by omega) (by omega)
     have hnat:(at_:Int) + (1 + opArgs s[at_].toNat)=((at_ + 1 + (opArgs s[at_].toNat).toNat:Nat):Int):=by omega
     rw [hnat] at e1
     have ih:=c83_5 s hs (k - 1) (at_ + 1 + (opArgs s[at_].toNat).toNat) _ d' H' (by omega) (by omega) (by simp; omega) e2
     rw [List.drop_drop,show at_ + 1 + (opArgs s[at_].toNat).toNat=at_ + 1 + (opArgs s[at_].toNat).toNat from rfl]
     simp only [hlen2] at e1 ⊢
     rw [← e1] at ih
     simpa [Function.comp_def] using ih
 termination_by k=>k
 decreasing_by omega
theorem c107 (s:List UInt8) (hs:s.length≤1000000):run E (exec E) true 107 [.str s]=some (opsRes (opsGo 0 s)):=by
 rw [run_ent,e107,bsl_zero _ _ _ rfl]
 obtain ⟨q,q1,q2⟩:=c107_3 s hs s.length 0 [] .sl0 [] (by omega) (by omega) (by simp) (Acc.nil _ _)
 simp only [Option.bind_some]
 simp only [Int.natCast_zero] at q1
 rw [q1]
 simp only [Option.bind_some,q2,List.drop_zero]
 cases opsGo 0 s <;> simp
def opsGet (s:List UInt8):Option (List SIns):=if 1≤s.length∧s.length≤120 then opsGo 0 s else none
def resIns:Option (List SIns)→D
 | some l=>.tup [.list (l.map SIns.row),.bool true]
 | none=>.tup [.list [],.bool false]
theorem opsGo_pos {s:List UInt8} {l:List SIns} {a:Nat} (h:opsGo a s=some l) (hs:s ≠ []):0 < l.length:=by
 cases s with
 | nil=>exact absurd rfl hs
 | cons b rest=>
  rw [opsGo] at h
  split at h
  ·cases h
  ·obtain ⟨l',_,rfl⟩:=Option.map_eq_some_iff.mp h
   simp
theorem opsGo_len:∀ {s:List UInt8} {l:List SIns} {a:Nat},opsGo a s=some l→l.length≤s.length
 | [],l,a,h=>by rw [opsGo] at h; cases h; simp
 | b :: rest,l,a,h=>by
  rw [opsGo] at h
  split at h
  ·cases h
  ·obtain ⟨l',h',rfl⟩:=Option.map_eq_some_iff.mp h
   have:=opsGo_len h'
   simp at this ⊢
   omega
 termination_by s=>s.length
 decreasing_by simp; omega
theorem c83 (s:List UInt8):match opsGet s with
  | some l=>∃ d H,ent E 83 [.str s] []=some (.tup [d,.bool true],H)∧Acc 3 H d (l.map SIns.row)
  | none=>∃ H,ent E 83 [.str s] []=some (.tup [.sl0,.bool false],H):=by
 rw [e83]
 simp only [readA_int,readA_bool,readA_str,readA_list,readA_sl0,readA_sl,readA_agg,readA_tup,lnS_str,Option.bind_some,call_pure,optAll_cons,optAll_nil,readT_int,c21,unOp_not,asB_bool]
 unfold opsGet
 by_cases h:1≤s.length∧s.length≤120
 ·rw [if_pos h,show inR (s.length:Int) 1 120=true by simp [inR]; omega]
  have:=c83_5 s (by omega) s.length 0 [] .sl0 [] (by omega) (by omega) (by simp) (Acc.nil _ _)
  simp only [Bool.not_true,cond_false]
  simpa using this
 ·rw [if_neg h,show inR (s.length:Int) 1 120=false by simp [inR]; omega]
  simp
end Go.Ev.YtmpfooibdekppaaGreatDoor
namespace Go.Ev.YtmpfooibdekppaaGreatDoor
set_option linter.unusedVariables false
set_option linter.unusedSimpArgs false
set_option linter.unusedSectionVars false
set_option linter.defProp false
set_option maxHeartbeats 1000000
open Go.Ev
end Go.Ev.YtmpfooibdekppaaGreatDoor
namespace Go.Ev.YtmpfooibdekppaaGreatDoor
set_option linter.unusedVariables false
set_option linter.unusedSimpArgs false
set_option linter.unusedSectionVars false
set_option linter.defProp false
set_option maxHeartbeats 1000000
open Go.Ev
theorem u8_wrap (n:Int):IntKind.wrap .u8 n=((u8 n).toNat:Int):=by
 have:(n % 256).toNat % 256=(n % 256).toNat:=by omega
 simp only [IntKind.wrap,IntKind.signed,IntKind.bits,u8,UInt8.toNat_ofNat',Nat.reducePow,this]
 have h:0≤n % 256:=by omega
 simp
 omega
theorem cBS_map (H:Heap) (s:List UInt8) (b:Nat) (h:getBlk H b=some (s.map rByte)):cBS H (.sl b 0 s.length)=some (.str s,H):=by
 have h1:∀ l:List UInt8,optAll byteOf (l.map rByte)=some l:=by
  intro l
  induction l with
  | nil=>rfl
  | cons a l ih=>
   have:byteOf (rByte a)=some a:=by simp [byteOf,rByte]
   rw [List.map_cons,optAll_cons,this,ih]; rfl
 simp [cBS,srcRows,h,rowsFit,h1]
theorem c115 (n:Int):run E (exec E) false 115 [.int .i64 n]=some (.str [u8 n]):=by
 rw [run_ent,e115]
 simp only [cI_int,u8_wrap,Option.bind_some]
 rw [bsl_one (esz:=1) (by omega) rfl rfl rfl]
 simp only [Option.bind_some,D.cells]
 have q:cBS ([]++[some [[D.int .u8 (u8 n).toNat]]]) (.sl ([]:Heap).length 0 1)=some (.str [u8 n],_):=cBS_one _ (u8 n) [] _ rfl
 rw [q]
 simp
theorem c95 (n:Int):run E (exec E) false 95 [.int .i64 n]=some (.str [u8 n]):=by
 rw [run_ent,e95]
 simp only [cI_int,u8_wrap,Option.bind_some]
 rw [bsl_one (esz:=1) (by omega) rfl rfl rfl]
 simp only [Option.bind_some,D.cells]
 have q:cBS ([]++[some [[D.int .u8 (u8 n).toNat]]]) (.sl ([]:Heap).length 0 1)=some (.str [u8 n],_):=cBS_one _ (u8 n) [] _ rfl
 rw [q]
 simp
theorem bI_shr8 (n:Int):bI .shr (.int .i64 n) (.int .u64 8)=some (.int .i64 (n / 256)):=by
 have:n.fdiv 256=n / 256:=Int.fdiv_eq_ediv_of_nonneg _ (by decide)
 simp [bI,binInt,IntKind.bits,this]
theorem c116 (n:Int):run E (exec E) false 116 [.int .i64 n]=some (.str [u8 (n / 256),u8 n]):=by
 rw [run_ent,e116,bI_shr8]
 simp only [readA_int,readA_bool,readA_str,readA_list,readA_sl0,readA_sl,readA_agg,readA_tup,call_pure,optAll_cons,optAll_nil,readT_int,Option.bind_some,c115]
 rw [bS_add _ _ (by simp)]
 simp
theorem numBytes_rng (s:List UInt8) (h:s.length≤2):0≤numBytes s∧numBytes s≤65535:=by
 match s,h with
 | [],_=>simp [numBytes]
 | [a],_=>have:=a.toNat_lt; simp [numBytes]; omega
 | [a,b],_=>have:=a.toNat_lt; have:=b.toNat_lt; simp [numBytes]; omega
def fair (x:SIns):Prop:=0≤opArgs x.Op ∧ -32768≤x.Num∧x.Num≤65535
theorem opsGo_fair:∀ {s:List UInt8} {l:List SIns} {a:Nat},opsGo a s=some l→∀ x ∈ l,fair x
 | [],l,a,h=>by rw [opsGo] at h; cases h; simp
 | b :: rest,l,a,h=>by
  rw [opsGo] at h
  have h2:=opArgs_le b.toNat
  split at h
  ·cases h
  ·rename_i hc
   obtain ⟨l',h',rfl⟩:=Option.map_eq_some_iff.mp h
   have ih:=opsGo_fair h'
   intro x hx
   rcases List.mem_cons.mp hx with rfl | hx
   ·have:=numBytes_rng (rest.take (opArgs b.toNat).toNat) (by simp; omega)
    refine ⟨by simp only; omega,?_⟩
    simp only [numFix]
    split <;> omega
   ·exact ih x hx
 termination_by s=>s.length
 decreasing_by simp; omega
theorem opsGet_fair {s:List UInt8} {l:List SIns} (h:opsGet s=some l):∀ x ∈ l,fair x:=by
 unfold opsGet at h
 split at h
 ·exact opsGo_fair h
 ·cases h
theorem p83 (s:List UInt8):run E (exec E) false 83 [.str s]=some (resIns (opsGet s)):=by
 have h:=c83 s
 cases hg:opsGet s with
 | none=>
  rw [hg] at h
  obtain ⟨H,h⟩:=h
  rw [run_ent,h]
  rfl
 | some l=>
  rw [hg] at h
  obtain ⟨d,H,h,hA⟩:=h
  rw [run_ent,h]
  simp [hA.read (SIns.plain l),resIns]
end Go.Ev.YtmpfooibdekppaaGreatDoor
namespace Go.Ev.YtmpfooibdekppaaGreatDoor
set_option linter.unusedVariables false
set_option linter.unusedSimpArgs false
set_option linter.unusedSectionVars false
set_option linter.defProp false
set_option maxHeartbeats 1000000
open Go.Ev
def idxFrom {α:Type} (p:α→Bool):Nat→List α→Int
 | _,[]=>-1
 | i,x :: r=>if p x=true then (i:Int) else idxFrom p (i + 1) r
def idxM {α:Type} (p:α→Bool) (l:List α):Int:=idxFrom p 0 l
theorem idxFrom_spec {α:Type} (p:α→Bool):∀ (i:Nat) (l:List α),(idxFrom p i l = -1∧l.any p=false)∨∃ k,∃ h:k < l.length,idxFrom p i l=((i + k:Nat):Int)∧p l[k]=true∧l.find? p=some l[k]∧l.any p=true
 | _,[]=>.inl ⟨rfl,rfl⟩
 | i,x :: r=>by
  by_cases hx:p x=true
  ·exact .inr ⟨0,by simp,by simp [idxFrom,hx],hx,by simp [hx],by simp [hx]⟩
  ·have hx':p x=false:=by simpa using hx
   rcases idxFrom_spec p (i + 1) r with ⟨h1,h2⟩ | ⟨k,h0,h1,h2,h3,h4⟩
   ·exact .inl ⟨by simp [idxFrom,hx',h1],by simp [hx',h2]⟩
   ·exact .inr ⟨k + 1,by simp [h0],by simp [idxFrom,hx',h1]; omega,by simpa using h2,by simp [hx',h3],by simp [hx',h4]⟩
theorem idxM_spec {α:Type} (p:α→Bool) (l:List α):(idxM p l = -1∧l.any p=false∧l.find? p=none)∨∃ k,∃ h:k < l.length,idxM p l=(k:Int)∧p l[k]=true∧l.find? p=some l[k]∧l.any p=true:=by
 rcases idxFrom_spec p 0 l with ⟨h1,h2⟩ | ⟨k,h0,h1,h2,h3,h4⟩
 ·refine .inl ⟨h1,h2,?_⟩
  rw [List.find?_eq_none]
  intro x hx e
  rw [List.any_eq_false] at h2
  exact h2 x hx e
 ·exact .inr ⟨k,h0,by simpa [idxM] using h1,h2,h3,h4⟩
theorem idxM_any {α:Type} (p:α→Bool) (l:List α):decide (0≤idxM p l)=l.any p:=by
 rcases idxM_spec p l with ⟨h1,h2,-⟩ | ⟨k,h0,h1,h2,h3,h4⟩
 ·rw [h1,h2]; rfl
 ·rw [h1,h4]; simp
theorem c132_2 (l:List Int) (hl:l.length≤140737488351232) (g:FuncId) (cs:List D) (p:Int→Bool) (H:Heap) (hg:∀ x ∈ l,∀ K,∃ K',callFn E (exec E) (modeT 132 g) g ([(.int .i64 x)]++cs) (H++K)=some (.bool (p x),H++K')):∀ i,i≤l.length→∀ K,∃ K',J E 132 2 [.list (l.map rInt),.fn g cs,.int .i64 l.length,.int .i64 i] (H++K)=some (.int .i64 (idxFrom p i (l.drop i)),H++K'):=by
 apply loop_up
 ·intro K
  rw [j132_2]
  simp only [bI_lss,Int.lt_irrefl,decide_false,Option.bind_some,asB_bool,cond_false,List.drop_length,idxFrom]
  exact ⟨_,rfl⟩
 ·intro i hi ih K
  have hlt:((i:Nat):Int) < (l.length:Int):=by omega
  obtain ⟨K1,e1⟩:=hg l[i] (List.getElem_mem hi) K
  rw [j132_2,List.drop_eq_getElem_cons hi,idxFrom]
  simp only [bI_lss,hlt,decide_true,Option.bind_some,asB_bool,cond_true]
  rw [ia_list (n:=(i:Int)) (esz:=1) (by omega) (by simpa using hi) (by simp [rInt])]
  simp only [Option.bind_some,ld_el,Int.toNat_natCast,List.getElem_map,show part (rInt (l[i])) (0,1,false)=some (.int .i64 l[i]) from rfl,asFn_fn,e1,asB_bool]
  cases hp:p l[i] with
  | true=>exact ⟨_,rfl⟩
  | false=>
   simp only [cond_false,bI_add,Option.bind_some]
   rw [wrap_i64 (n:=(i:Int) + 1) (by omega) (by omega)]
   exact ih K1
theorem c132 (l:List Int) (hl:l.length≤140737488351232) (g:FuncId) (cs:List D) (p:Int→Bool) (H:Heap) (hg:∀ x ∈ l,∀ K,∃ K',callFn E (exec E) (modeT 132 g) g ([(.int .i64 x)]++cs) (H++K)=some (.bool (p x),H++K')):∃ K',ent E 132 [.list (l.map rInt),.fn g cs] H=some (.int .i64 (idxM p l),H++K'):=by
 obtain ⟨K',e⟩:=c132_2 l hl g cs p H hg 0 (by omega) []
 rw [List.append_nil] at e
 rw [e132]
 simp only [lnL_list,List.length_map,Option.bind_some]
 exact ⟨K',e⟩
theorem c72 (l:List Int) (hl:l.length≤140737488351232) (g:FuncId) (cs:List D) (p:Int→Bool) (H:Heap) (hg:∀ x ∈ l,∀ K,∃ K',callFn E (exec E) (modeT 132 g) g ([(.int .i64 x)]++cs) (H++K)=some (.bool (p x),H++K')):∃ K',ent E 72 [.list (l.map rInt),.fn g cs] H=some (.bool (l.any p),H++K'):=by
 obtain ⟨K',e⟩:=c132 l hl g cs p H hg
 rw [e72]
 simp only [call_raw,e,Option.bind_some,bI_geq,idxM_any]
 exact ⟨K',rfl⟩
theorem c134_2 (l:List SField) (hl:l.length≤140737488351232) (g:FuncId) (cs:List D) (p:SField→Bool) (H:Heap) (hg:∀ x ∈ l,∀ K,∃ K',callFn E (exec E) (modeT 134 g) g ([(x).d]++cs) (H++K)=some (.bool (p x),H++K')):∀ i,i≤l.length→∀ K,∃ K',J E 134 2 [.list (l.map SField.row),.fn g cs,.int .i64 l.length,.int .i64 i] (H++K)=some (.int .i64 (idxFrom p i (l.drop i)),H++K'):=by
 apply loop_up
 ·intro K
  rw [j134_2]
  simp only [bI_lss,Int.lt_irrefl,decide_false,Option.bind_some,asB_bool,cond_false,List.drop_length,idxFrom]
  exact ⟨_,rfl⟩
 ·intro i hi ih K
  have hlt:((i:Nat):Int) < (l.length:Int):=by omega
  obtain ⟨K1,e1⟩:=hg l[i] (List.getElem_mem hi) K
  rw [j134_2,List.drop_eq_getElem_cons hi,idxFrom]
  simp only [bI_lss,hlt,decide_true,Option.bind_some,asB_bool,cond_true]
  rw [ia_list (n:=(i:Int)) (esz:=3) (by omega) (by simpa using hi) (by simp [SField.row])]
  simp only [Option.bind_some,ld_el,Int.toNat_natCast,List.getElem_map,show part (SField.row (l[i])) (0,3,true)=some (l[i]).d from rfl,asFn_fn,e1,asB_bool]
  cases hp:p l[i] with
  | true=>exact ⟨_,rfl⟩
  | false=>
   simp only [cond_false,bI_add,Option.bind_some]
   rw [wrap_i64 (n:=(i:Int) + 1) (by omega) (by omega)]
   exact ih K1
theorem c134 (l:List SField) (hl:l.length≤140737488351232) (g:FuncId) (cs:List D) (p:SField→Bool) (H:Heap) (hg:∀ x ∈ l,∀ K,∃ K',callFn E (exec E) (modeT 134 g) g ([(x).d]++cs) (H++K)=some (.bool (p x),H++K')):∃ K',ent E 134 [.list (l.map SField.row),.fn g cs] H=some (.int .i64 (idxM p l),H++K'):=by
 obtain ⟨K',e⟩:=c134_2 l hl g cs p H hg 0 (by omega) []
 rw [List.append_nil] at e
 rw [e134]
 simp only [lnL_list,List.length_map,Option.bind_some]
 exact ⟨K',e⟩
theorem c78 (l:List SField) (hl:l.length≤140737488351232) (g:FuncId) (cs:List D) (p:SField→Bool) (H:Heap) (hg:∀ x ∈ l,∀ K,∃ K',callFn E (exec E) (modeT 134 g) g ([(x).d]++cs) (H++K)=some (.bool (p x),H++K')):∃ K',ent E 78 [.list (l.map SField.row),.fn g cs] H=some (.bool (l.any p),H++K'):=by
 obtain ⟨K',e⟩:=c134 l hl g cs p H hg
 rw [e78]
 simp only [call_raw,e,Option.bind_some,bI_geq,idxM_any]
 exact ⟨K',rfl⟩
theorem c173_2 (l:List SKind) (hl:l.length≤140737488351232) (g:FuncId) (cs:List D) (p:SKind→Bool) (H:Heap) (hg:∀ x ∈ l,∀ K,∃ K',callFn E (exec E) (modeT 173 g) g ([(x).d]++cs) (H++K)=some (.bool (p x),H++K')):∀ i,i≤l.length→∀ K,∃ K',J E 173 2 [.list (l.map SKind.row),.fn g cs,.int .i64 l.length,.int .i64 i] (H++K)=some (.int .i64 (idxFrom p i (l.drop i)),H++K'):=by
 apply loop_up
 ·intro K
  rw [j173_2]
  simp only [bI_lss,Int.lt_irrefl,decide_false,Option.bind_some,asB_bool,cond_false,List.drop_length,idxFrom]
  exact ⟨_,rfl⟩
 ·intro i hi ih K
  have hlt:((i:Nat):Int) < (l.length:Int):=by omega
  obtain ⟨K1,e1⟩:=hg l[i] (List.getElem_mem hi) K
  rw [j173_2,List.drop_eq_getElem_cons hi,idxFrom]
  simp only [bI_lss,hlt,decide_true,Option.bind_some,asB_bool,cond_true]
  rw [ia_list (n:=(i:Int)) (esz:=2) (by omega) (by simpa using hi) (by simp [SKind.row])]
  simp only [Option.bind_some,ld_el,Int.toNat_natCast,List.getElem_map,show part (SKind.row (l[i])) (0,2,true)=some (l[i]).d from rfl,asFn_fn,e1,asB_bool]
  cases hp:p l[i] with
  | true=>exact ⟨_,rfl⟩
  | false=>
   simp only [cond_false,bI_add,Option.bind_some]
   rw [wrap_i64 (n:=(i:Int) + 1) (by omega) (by omega)]
   exact ih K1
theorem c173 (l:List SKind) (hl:l.length≤140737488351232) (g:FuncId) (cs:List D) (p:SKind→Bool) (H:Heap) (hg:∀ x ∈ l,∀ K,∃ K',callFn E (exec E) (modeT 173 g) g ([(x).d]++cs) (H++K)=some (.bool (p x),H++K')):∃ K',ent E 173 [.list (l.map SKind.row),.fn g cs] H=some (.int .i64 (idxM p l),H++K'):=by
 obtain ⟨K',e⟩:=c173_2 l hl g cs p H hg 0 (by omega) []
 rw [List.append_nil] at e
 rw [e173]
 simp only [lnL_list,List.length_map,Option.bind_some]
 exact ⟨K',e⟩
theorem c142 (l:List SKind) (hl:l.length≤140737488351232) (g:FuncId) (cs:List D) (p:SKind→Bool) (H:Heap) (hg:∀ x ∈ l,∀ K,∃ K',callFn E (exec E) (modeT 173 g) g ([(x).d]++cs) (H++K)=some (.bool (p x),H++K')):∃ K',ent E 142 [.list (l.map SKind.row),.fn g cs] H=some (.bool (l.any p),H++K'):=by
 obtain ⟨K',e⟩:=c173 l hl g cs p H hg
 rw [e142]
 simp only [call_raw,e,Option.bind_some,bI_geq,idxM_any]
 exact ⟨K',rfl⟩
theorem c135_2 (l:List SMethod) (hl:l.length≤140737488351232) (g:FuncId) (cs:List D) (p:SMethod→Bool) (H:Heap) (hg:∀ x ∈ l,∀ K,∃ K',callFn E (exec E) (modeT 135 g) g ([(x).d]++cs) (H++K)=some (.bool (p x),H++K')):∀ i,i≤l.length→∀ K,∃ K',J E 135 2 [.list (l.map SMethod.row),.fn g cs,.int .i64 l.length,.int .i64 i] (H++K)=some (.int .i64 (idxFrom p i (l.drop i)),H++K'):=by
 apply loop_up
 ·intro K
  rw [j135_2]
  simp only [bI_lss,Int.lt_irrefl,decide_false,Option.bind_some,asB_bool,cond_false,List.drop_length,idxFrom]
  exact ⟨_,rfl⟩
 ·intro i hi ih K
  have hlt:((i:Nat):Int) < (l.length:Int):=by omega
  obtain ⟨K1,e1⟩:=hg l[i] (List.getElem_mem hi) K
  rw [j135_2,List.drop_eq_getElem_cons hi,idxFrom]
  simp only [bI_lss,hlt,decide_true,Option.bind_some,asB_bool,cond_true]
  rw [ia_list (n:=(i:Int)) (esz:=8) (by omega) (by simpa using hi) (by simp [SMethod.row])]
  simp only [Option.bind_some,ld_el,Int.toNat_natCast,List.getElem_map,show part (SMethod.row (l[i])) (0,8,true)=some (l[i]).d from rfl,asFn_fn,e1,asB_bool]
  cases hp:p l[i] with
  | true=>exact ⟨_,rfl⟩
  | false=>
   simp only [cond_false,bI_add,Option.bind_some]
   rw [wrap_i64 (n:=(i:Int) + 1) (by omega) (by omega)]
   exact ih K1
theorem c135 (l:List SMethod) (hl:l.length≤140737488351232) (g:FuncId) (cs:List D) (p:SMethod→Bool) (H:Heap) (hg:∀ x ∈ l,∀ K,∃ K',callFn E (exec E) (modeT 135 g) g ([(x).d]++cs) (H++K)=some (.bool (p x),H++K')):∃ K',ent E 135 [.list (l.map SMethod.row),.fn g cs] H=some (.int .i64 (idxM p l),H++K'):=by
 obtain ⟨K',e⟩:=c135_2 l hl g cs p H hg 0 (by omega) []
 rw [List.append_nil] at e
 rw [e135]
 simp only [lnL_list,List.length_map,Option.bind_some]
 exact ⟨K',e⟩
theorem c81 (l:List SMethod) (hl:l.length≤140737488351232) (g:FuncId) (cs:List D) (p:SMethod→Bool) (H:Heap) (hg:∀ x ∈ l,∀ K,∃ K',callFn E (exec E) (modeT 135 g) g ([(x).d]++cs) (H++K)=some (.bool (p x),H++K')):∃ K',ent E 81 [.list (l.map SMethod.row),.fn g cs] H=some (.bool (l.any p),H++K'):=by
 obtain ⟨K',e⟩:=c135 l hl g cs p H hg
 rw [e81]
 simp only [call_raw,e,Option.bind_some,bI_geq,idxM_any]
 exact ⟨K',rfl⟩
theorem c140_2 (l:List SIns) (hl:l.length≤140737488351232) (g:FuncId) (cs:List D) (p:SIns→Bool) (H:Heap) (hg:∀ x ∈ l,∀ K,∃ K',callFn E (exec E) (modeT 140 g) g ([(x).d]++cs) (H++K)=some (.bool (p x),H++K')):∀ i,i≤l.length→∀ K,∃ K',J E 140 2 [.list (l.map SIns.row),.fn g cs,.int .i64 l.length,.int .i64 i] (H++K)=some (.int .i64 (idxFrom p i (l.drop i)),H++K'):=by
 apply loop_up
 ·intro K
  rw [j140_2]
  simp only [bI_lss,Int.lt_irrefl,decide_false,Option.bind_some,asB_bool,cond_false,List.drop_length,idxFrom]
  exact ⟨_,rfl⟩
 ·intro i hi ih K
  have hlt:((i:Nat):Int) < (l.length:Int):=by omega
  obtain ⟨K1,e1⟩:=hg l[i] (List.getElem_mem hi) K
  rw [j140_2,List.drop_eq_getElem_cons hi,idxFrom]
  simp only [bI_lss,hlt,decide_true,Option.bind_some,asB_bool,cond_true]
  rw [ia_list (n:=(i:Int)) (esz:=3) (by omega) (by simpa using hi) (by simp [SIns.row])]
  simp only [Option.bind_some,ld_el,Int.toNat_natCast,List.getElem_map,show part (SIns.row (l[i])) (0,3,true)=some (l[i]).d from rfl,asFn_fn,e1,asB_bool]
  cases hp:p l[i] with
  | true=>exact ⟨_,rfl⟩
  | false=>
   simp only [cond_false,bI_add,Option.bind_some]
   rw [wrap_i64 (n:=(i:Int) + 1) (by omega) (by omega)]
   exact ih K1
theorem c140 (l:List SIns) (hl:l.length≤140737488351232) (g:FuncId) (cs:List D) (p:SIns→Bool) (H:Heap) (hg:∀ x ∈ l,∀ K,∃ K',callFn E (exec E) (modeT 140 g) g ([(x).d]++cs) (H++K)=some (.bool (p x),H++K')):∃ K',ent E 140 [.list (l.map SIns.row),.fn g cs] H=some (.int .i64 (idxM p l),H++K'):=by
 obtain ⟨K',e⟩:=c140_2 l hl g cs p H hg 0 (by omega) []
 rw [List.append_nil] at e
 rw [e140]
 simp only [lnL_list,List.length_map,Option.bind_some]
 exact ⟨K',e⟩
end Go.Ev.YtmpfooibdekppaaGreatDoor
namespace Go.Ev.YtmpfooibdekppaaGreatDoor
set_option linter.unusedVariables false
set_option linter.unusedSimpArgs false
set_option linter.unusedSectionVars false
set_option linter.defProp false
set_option maxHeartbeats 1000000
open Go.Ev
def isLet (b:UInt8):Bool:=(decide ((97:Int)≤b.toNat) && decide ((b.toNat:Int)≤122)) || (decide ((65:Int)≤b.toNat) && decide ((b.toNat:Int)≤90))
def isDig (b:UInt8):Bool:=decide ((48:Int)≤b.toNat) && decide ((b.toNat:Int)≤57)
def isAl (b:UInt8):Bool:=isLet b || isDig b
def fstDig:List UInt8→Bool
 | []=>false
 | a :: _=>isDig a
def nameOk (s:List UInt8):Bool:=inR s.length 1 8 && s.all isAl && !(fstDig s)
theorem let_dig (b:UInt8) (h:isLet b=true):isDig b=false:=by
 cases hd:isDig b with
 | false=>rfl
 | true=>simp [isLet,isDig] at h hd; omega
theorem c112 (b:UInt8):run E (exec E) false 112 [.int .u8 b.toNat]=some (.bool (isLet b)):=by
 rw [run_ent,e112]
 simp only [bI_geq,bI_leq,Option.bind_some,asB_bool,isLet]
 by_cases h1:(97:Int)≤b.toNat <;> by_cases h2:(b.toNat:Int)≤122 <;> by_cases h3:(65:Int)≤b.toNat <;> by_cases h4:(b.toNat:Int)≤90 <;> simp [h1,h2,h3,h4]
theorem all_step (p:UInt8→Bool) (s:List UInt8) {i:Nat} (hi:i < s.length):(s.drop i).all p=(p s[i] && (s.drop (i + 1)).all p):=by
 rw [List.drop_eq_getElem_cons hi]; rfl
theorem c63_2 (s:List UInt8) (hs:s.length≤140737488351232) (H:Heap):∀ i,i≤s.length→J E 63 2 [.str s,.int .i64 i] H=some (.bool (inR s.length 1 8 && (s.drop i).all isAl && !(decide (i=0) && fstDig s)),H):=by
 refine loop_up (P:=fun i=>_) ?_ fun i hi ih=>?_
 ·rw [j63_2]
  simp [readA_int,readA_bool,readA_str,readA_list,readA_sl0,readA_sl,readA_agg,readA_tup,call_pure,c14]
  cases hr:inR s.length 1 8 with
  | false=>simp
  | true=>
   have:¬ s.length=0:=by simp [inR] at hr; omega
   have hne:¬ s=[]:=by rintro rfl; simp at this
   simp [hne]
 ·rw [j63_2]
  have hlt:((i:Nat):Int) < (s.length:Int):=by omega
  simp only [readA_int,readA_bool,readA_str,readA_list,readA_sl0,readA_sl,readA_agg,readA_tup,lnS_str,bI_lss,hlt,decide_true,cond_true,asB_bool,Option.bind_some,ix_nat,List.getElem?_eq_getElem hi,Option.map_some,call_pure,optAll_cons,optAll_nil,readT_int,c112,unOp_not,bI_eql,bI_gtr,bI_add]
  rw [wrap_i64 (n:=(i:Int) + 1) (by omega) (by omega)]
  rw [show (i:Int) + 1=((i + 1:Nat):Int) from rfl,ih,all_step isAl s hi]
  have hn:¬ i + 1=0:=by omega
  have hz:((i:Int)=0)↔i=0:=by omega
  cases hl:isLet s[i] with
  | true=>
   have:=let_dig _ hl
   by_cases h0:i=0
   ·subst h0
    have hh:fstDig s=isDig s[0]:=by cases s with | nil=>simp at hi | cons a t=>rfl
    by_cases h1:(s[0].toNat:Int) < 48 <;> simp [isAl,hl,this,hh,h1]
   ·by_cases h1:(s[i].toNat:Int) < 48 <;> simp [isAl,hl,hn,h0,h1]
  | false=>
   by_cases h0:i=0
   ·subst h0
    have hh:fstDig s=isDig s[0]:=by cases s with | nil=>simp at hi | cons a t=>rfl
    simp only [Bool.not_false,cond_true,Int.natCast_zero,decide_true,ret_one,isAl,hl,Bool.false_or,hh]
    cases isDig s[0] <;> simp
   ·have hd:isDig s[i]=(!decide ((s[i].toNat:Int) < 48) && !decide ((57:Int) < s[i].toNat)):=by
     simp only [isDig]
     by_cases h1:(48:Int)≤s[i].toNat <;> by_cases h2:(s[i].toNat:Int)≤57 <;> simp [h1,h2] <;> omega
    have hi0:¬ ((i:Int)=0):=by omega
    simp only [Bool.not_false,cond_true,hi0,decide_false,cond_false,isAl,hl,Bool.false_or,hd,h0,hn,Bool.false_and,Bool.not_false,Bool.and_true]
    by_cases h1:(s[i].toNat:Int) < 48 <;> by_cases h2:(57:Int) < s[i].toNat <;> simp [h1,h2]
theorem c63 (s:List UInt8) (hs:s.length≤140737488351232):run E (exec E) false 63 [.str s]=some (.bool (nameOk s)):=by
 rw [run_ent,e63]
 have:=c63_2 s hs [] 0 (by omega)
 simp only [Int.natCast_zero] at this
 rw [this]; simp [nameOk]
theorem c76_4 (s:List UInt8) (hs:s.length≤140737488351232) (H:Heap):∀ i,i≤s.length→J E 76 4 [.str s,.int .i64 s.length,.int .i64 i] H=some (.bool ((s.drop i).all isAl),H):=by
 refine loop_up (P:=fun i=>_) ?_ fun i hi ih=>?_
 ·rw [j76_4]; simp
 ·rw [j76_4]
  have hlt:((i:Nat):Int) < (s.length:Int):=by omega
  simp only [bI_lss,hlt,decide_true,cond_true,asB_bool,Option.bind_some,ix_nat,List.getElem?_eq_getElem hi,Option.map_some,bI_geq,bI_leq,unOp_not,bI_add,Bool.not_true,Bool.not_false,cond_false]
  rw [wrap_i64 (n:=(i:Int) + 1) (by omega) (by omega)]
  rw [show (i:Int) + 1=((i + 1:Nat):Int) from rfl,ih,all_step isAl s hi]
  simp only [isAl,isLet,isDig]
  by_cases h1:(97:Int)≤s[i].toNat <;> by_cases h2:(s[i].toNat:Int)≤122 <;> by_cases h3:(65:Int)≤s[i].toNat <;> by_cases h4:(s[i].toNat:Int)≤90 <;> by_cases h5:(48:Int)≤s[i].toNat <;> by_cases h6:(s[i].toNat:Int)≤57 <;> simp [h1,h2,h3,h4,h5,h6]
theorem c76 (s:List UInt8) (hs:s.length≤140737488351232):run E (exec E) false 76 [.str s]=some (.bool (nameOk s)):=by
 rw [run_ent,e76]
 simp only [readA_int,readA_bool,readA_str,readA_list,readA_sl0,readA_sl,readA_agg,readA_tup,lnS_str,Option.bind_some,call_pure,optAll_cons,optAll_nil,readT_int,c21,unOp_not,asB_bool]
 cases hr:inR s.length 1 8 with
 | false=>simp [nameOk,hr]
 | true=>
  have hl:0 < s.length:=by simp [inR] at hr; omega
  have:=c76_4 s hs [] 0 (by omega)
  simp only [Int.natCast_zero,List.drop_zero] at this
  obtain ⟨a,t,rfl⟩:∃ a t,s=a :: t:=by cases s with | nil=>simp at hl | cons a t=>exact ⟨a,t,rfl⟩
  have hx:ix (.str (a :: t)) (.int .i64 0)=some (.int .u8 a.toNat):=rfl
  simp only [Bool.not_true,cond_false,hx,Option.bind_some,bI_geq,bI_leq,asB_bool,this,nameOk,hr,fstDig,isDig]
  by_cases h5:(48:Int)≤a.toNat <;> by_cases h6:(a.toNat:Int)≤57 <;> simp [h5,h6]
def cutAt (c:UInt8):List UInt8→Option (List UInt8×List UInt8)
 | []=>none
 | b :: l=>if b=c then some ([],l) else (cutAt c l).map fun q=>(b :: q.1,q.2)
theorem cutAt_eq {c:UInt8}:∀ {s a r:List UInt8},cutAt c s=some (a,r)→s=a++c :: r∧c ∉ a
 | [],a,r,h=>by simp [cutAt] at h
 | b :: l,a,r,h=>by
  rw [cutAt] at h
  split at h
  ·rename_i hb; cases h; subst hb; simp
  ·rename_i hb
   obtain ⟨⟨a',r'⟩,h',e⟩:=Option.map_eq_some_iff.mp h
   cases e
   obtain ⟨e1,e2⟩:=cutAt_eq h'
   exact ⟨by rw [e1]; rfl,by simp [e2]; exact fun e=>hb e.symm⟩
theorem cutAt_none {c:UInt8}:∀ {s:List UInt8},cutAt c s=none→c ∉ s
 | [],h=>by simp
 | b :: l,h=>by
  rw [cutAt] at h
  split at h
  ·cases h
  ·rename_i hb
   have:=cutAt_none (Option.map_eq_none_iff.mp h)
   simp [this]; exact fun e=>hb e.symm
theorem cutAt_of {c:UInt8}:∀ {a:List UInt8} (r:List UInt8),c ∉ a→cutAt c (a++c :: r)=some (a,r)
 | [],r,_=>by simp [cutAt]
 | b :: a,r,h=>by
  have h1:¬ b=c:=fun e=>h (by simp [e])
  have h2:c ∉ a:=fun e=>h (by simp [e])
  simp [cutAt,h1,cutAt_of r h2]
theorem cutAt_not {c:UInt8} {s:List UInt8} (h:c ∉ s):cutAt c s=none:=by
 cases hc:cutAt c s with
 | none=>rfl
 | some q=>obtain ⟨a,r⟩:=q; have:=(cutAt_eq hc).1; rw [this] at h; simp at h
theorem indexByte_cut (c:UInt8):∀ s:List UInt8,Go.Lib.indexByte s c=match cutAt c s with | some (a,_)=>(a.length:Int) | none=>-1
 | []=>rfl
 | b :: l=>by
  have ih:=indexByte_cut c l
  rw [Go.Lib.indexByte,cutAt,ih]
  by_cases h:b=c
  ·simp [h]
  ·cases hc:cutAt c l with
   | none=>simp [h]
   | some q=>obtain ⟨a,r⟩:=q; simp [h] <;> omega
theorem c172 (s:List UInt8) (c:UInt8):run E (exec E) false 172 [.str s,.int .u8 c.toNat]=some (.int .i64 (Go.Lib.indexByte s c)):=by
 rw [run_ent,e172]
 have h:callFn E (exec E) .ext 183 [.str s,.int .u8 c.toNat] []=some (.int .i64 (Go.Lib.indexByte s c),[]):=by
  have e1:E.ext 183 [.str s,.int .u8 c.toNat]=some (.int .i64 (Go.Lib.indexByte s c)):=by
   show some (D.int .i64 (Go.Lib.indexByte s ((c.toNat:Int)).toNat.toUInt8))=_
   simp
  simp only [readA_int,readA_bool,readA_str,readA_list,readA_sl0,readA_sl,readA_agg,readA_tup,callFn,optAll_cons,optAll_nil,readT_str,readT_int,Option.bind_some,e1]
  rfl
 rw [h]; simp
theorem slS_to {s:List UInt8} {n:Int} (h0:0≤n) (h1:n≤s.length):slS (.str s) none (some (.int .i64 n)) none=some (.str (s.take n.toNat)):=by
 simp [slS,bound,sliceStr,h0,h1]
theorem slS_from {s:List UInt8} {n:Int} (h0:0≤n) (h1:n≤s.length):slS (.str s) (some (.int .i64 n)) none none=some (.str (s.drop n.toNat)):=by
 simp [slS,bound,sliceStr,h0,h1]
theorem c139 (s:List UInt8) (c:UInt8):run E (exec E) false 139 [.str s,.int .u8 c.toNat]=some (.int .i64 (Go.Lib.indexByte s c)):=by
 rw [run_ent,e139]
 simp [readA_int,readA_bool,readA_str,readA_list,readA_sl0,readA_sl,readA_agg,readA_tup,call_pure,c172]
theorem c181 (s:List UInt8) (c:UInt8):run E (exec E) false 181 [.str s,.str [c]]=some (.int .i64 (Go.Lib.indexByte s c)):=by
 rw [run_ent,e181]
 have hx:ix (.str [c]) (.int .i64 0)=some (.int .u8 c.toNat):=rfl
 simp only [lnS_str,Option.bind_some,bI_eql,List.length_singleton,asB_bool,show ¬ ((1:Nat):Int)=0 by decide,decide_false,cond_false,bS_eql]
 by_cases h:[c]=s
 ·subst h
  have:Go.Lib.indexByte [c] c=0:=by simp [Go.Lib.indexByte]
  simp [this]
 ·simp only [readA_int,readA_bool,readA_str,readA_list,readA_sl0,readA_sl,readA_agg,readA_tup,h,decide_false,cond_false,show ((1:Nat):Int)=1 from rfl,decide_true,cond_true,hx,Option.bind_some,call_pure,optAll_cons,optAll_nil,readT_str,readT_int,c172,ret_one]
def cutRes (c:UInt8) (s:List UInt8):D:=match cutAt c s with | some (a,r)=>.tup [.str a,.str r,.bool true] | none=>.tup [.str s,.str [],.bool false]
theorem c170 (s:List UInt8) (c:UInt8) (hs:s.length≤140737488351232):run E (exec E) false 170 [.str s,.str [c]]=some (cutRes c s):=by
 rw [run_ent,e170]
 simp only [readA_int,readA_bool,readA_str,readA_list,readA_sl0,readA_sl,readA_agg,readA_tup,call_pure,optAll_cons,optAll_nil,readT_str,Option.bind_some,c181,bI_geq,asB_bool,indexByte_cut,cutRes]
 cases hc:cutAt c s with
 | none=>simp
 | some q=>
  obtain ⟨a,r⟩:=q
  have e:=(cutAt_eq hc).1
  have hl:s.length=a.length + r.length + 1:=by rw [e]; simp; omega
  simp only [show (0:Int)≤(a.length:Int) by omega,decide_true,cond_true]
  rw [slS_to (by omega) (by omega)]
  simp only [Option.bind_some,lnS_str,List.length_singleton,bI_add]
  rw [wrap_i64 (n:=(a.length:Int) + ((1:Nat):Int)) (by omega) (by omega),slS_from (by omega) (by omega)]
  have e1:s.take ((a.length:Int)).toNat=a:=by rw [e]; simp
  have e2:s.drop ((a.length:Int) + ((1:Nat):Int)).toNat=r:=by
   rw [show ((a.length:Int) + ((1:Nat):Int)).toNat=a.length + 1 by omega,e]; simp
  rw [e1,e2]; simp
theorem c137 (s:List UInt8) (c:UInt8) (hs:s.length≤140737488351232):run E (exec E) false 137 [.str s,.str [c]]=some (cutRes c s):=by
 rw [run_ent,e137]
 simp only [readA_int,readA_bool,readA_str,readA_list,readA_sl0,readA_sl,readA_agg,readA_tup,call_pure,optAll_cons,optAll_nil,readT_str,Option.bind_some,c170 s c hs,cutRes]
 cases cutAt c s with
 | none=>simp
 | some q=>simp
theorem c182 (s:List UInt8) (c:UInt8):run E (exec E) false 182 [.str s,.str [c]]=some (.bool (decide (s.head? = some c))):=by
 rw [run_ent,e182]
 cases s with
 | nil=>simp
 | cons a t=>
  simp only [lnS_str,Option.bind_some,bI_geq,asB_bool,show ((([c]:List UInt8).length:Nat):Int)≤((a :: t).length:Int) by simp; omega,decide_true,cond_true]
  rw [slS_to (by simp) (by simp; omega)]
  simp
def cutPre (c:UInt8):List UInt8→D
 | []=>.tup [.str [],.bool false]
 | b :: r=>if b=c then .tup [.str r,.bool true] else .tup [.str (b :: r),.bool false]
theorem c171 (s:List UInt8) (c:UInt8):run E (exec E) false 171 [.str s,.str [c]]=some (cutPre c s):=by
 rw [run_ent,e171]
 simp only [readA_int,readA_bool,readA_str,readA_list,readA_sl0,readA_sl,readA_agg,readA_tup,call_pure,optAll_cons,optAll_nil,readT_str,Option.bind_some,c182,unOp_not,asB_bool]
 cases s with
 | nil=>simp [cutPre]
 | cons a t=>
  by_cases h:a=c
  ·subst h
   simp only [List.head?_cons,decide_true,Bool.not_true,cond_false,lnS_str,Option.bind_some]
   rw [slS_from (by simp) (by simp; omega)]
   simp [cutPre]
  ·simp [cutPre,h]
theorem c138 (s:List UInt8) (c:UInt8):run E (exec E) false 138 [.str s,.str [c]]=some (cutPre c s):=by
 rw [run_ent,e138]
 simp only [readA_int,readA_bool,readA_str,readA_list,readA_sl0,readA_sl,readA_agg,readA_tup,call_pure,optAll_cons,optAll_nil,readT_str,Option.bind_some,c171]
 cases s with
 | nil=>simp [cutPre]
 | cons a t=>by_cases h:a=c <;> simp [cutPre,h]
theorem c190 (s:List UInt8) (c:UInt8) (hs:s.length≤140737488351232):run E (exec E) false 190 [.str s,.str [c]]=some (.bool (decide (s.getLast? = some c))):=by
 rw [run_ent,e190]
 rcases List.eq_nil_or_concat s with rfl | ⟨t,a,rfl⟩
 ·simp
 ·simp only [List.concat_eq_append] at hs ⊢
  simp only [lnS_str,Option.bind_some,bI_geq,asB_bool,show ((([c]:List UInt8).length:Nat):Int)≤((t++[a]).length:Int) by simp; omega,decide_true,cond_true,bI_sub]
  rw [wrap_i64 (by simp <;> omega) (by simp at hs ⊢ <;> omega),slS_from (by simp) (by simp; omega)]
  simp
def cutSuf (c:UInt8) (s:List UInt8):D:=if s.getLast? = some c then .tup [.str s.dropLast,.bool true] else .tup [.str s,.bool false]
theorem c180 (s:List UInt8) (c:UInt8) (hs:s.length≤140737488351232):run E (exec E) false 180 [.str s,.str [c]]=some (cutSuf c s):=by
 rw [run_ent,e180]
 simp only [readA_int,readA_bool,readA_str,readA_list,readA_sl0,readA_sl,readA_agg,readA_tup,call_pure,optAll_cons,optAll_nil,readT_str,Option.bind_some,c190 s c hs,unOp_not,asB_bool,cutSuf]
 by_cases h:s.getLast? = some c
 ·rcases List.eq_nil_or_concat s with rfl | ⟨t,a,rfl⟩
  ·simp at h
  ·simp only [List.concat_eq_append] at hs h ⊢
   simp only [h,decide_true,Bool.not_true,cond_false,lnS_str,Option.bind_some,bI_sub,if_true]
   rw [wrap_i64 (by simp <;> omega) (by simp at hs ⊢ <;> omega),slS_to (by simp) (by simp; omega)]
   simp
 ·simp [h]
theorem c169 (s:List UInt8) (c:UInt8) (hs:s.length≤140737488351232):run E (exec E) false 169 [.str s,.str [c]]=some (cutSuf c s):=by
 rw [run_ent,e169]
 simp only [readA_int,readA_bool,readA_str,readA_list,readA_sl0,readA_sl,readA_agg,readA_tup,call_pure,optAll_cons,optAll_nil,readT_str,Option.bind_some,c180 s c hs,cutSuf]
 by_cases h:s.getLast? = some c <;> simp [h]
def clsName:List UInt8→Option (List UInt8)
 | []=>none
 | b :: r=>if b=76∧r.getLast? = some 59∧nameOk r.dropLast=true then some r.dropLast else none
def typeOk (s:List UInt8):Bool:=(clsName s).isSome || decide (s=[73])
theorem c133 (s:List UInt8) (hs:s.length≤140737488351232):∃ n,run E (exec E) false 133 [.str s]=some (.tup [.str n,.bool (clsName s).isSome])∧∀ m,clsName s=some m→n=m:=by
 rw [run_ent,e133]
 simp only [readA_int,readA_bool,readA_str,readA_list,readA_sl0,readA_sl,readA_agg,readA_tup,call_pure,optAll_cons,optAll_nil,readT_str,Option.bind_some,c138]
 cases s with
 | nil=>
  simp only [readA_int,readA_bool,readA_str,readA_list,readA_sl0,readA_sl,readA_agg,readA_tup,cutPre,extract_tup,List.getElem?_cons_zero,List.getElem?_cons_succ,Option.bind_some,readT_str]
  rw [c169 _ _ (by simp)]
  simp [cutSuf,clsName]
 | cons b r=>
  simp only [List.length_cons] at hs
  by_cases hb:b=76
  ·subst hb
   simp only [readA_int,readA_bool,readA_str,readA_list,readA_sl0,readA_sl,readA_agg,readA_tup,cutPre,if_true,extract_tup,List.getElem?_cons_zero,List.getElem?_cons_succ,Option.bind_some,readT_str]
   rw [c169 _ _ (by omega)]
   by_cases hl:r.getLast? = some 59
   ·simp only [readA_int,readA_bool,readA_str,readA_list,readA_sl0,readA_sl,readA_agg,readA_tup,cutSuf,hl,if_true,extract_tup,List.getElem?_cons_zero,List.getElem?_cons_succ,Option.bind_some,asB_bool,cond_true,readT_str]
    rw [c76 _ (by simp; omega)]
    cases hn:nameOk r.dropLast <;> simp [clsName,hl,hn]
   ·simp only [cutSuf,hl,if_false,extract_tup,List.getElem?_cons_zero,List.getElem?_cons_succ,Option.bind_some,asB_bool,cond_true,cond_false]
    simp [clsName,hl]
  ·simp only [readA_int,readA_bool,readA_str,readA_list,readA_sl0,readA_sl,readA_agg,readA_tup,cutPre,hb,if_false,extract_tup,List.getElem?_cons_zero,List.getElem?_cons_succ,Option.bind_some,readT_str]
   rw [c169 _ _ (by simp; omega)]
   by_cases hl:(b :: r).getLast? = some 59
   ·simp [cutSuf,hl,clsName,hb]
   ·simp [cutSuf,hl,clsName,hb]
theorem c77 (s:List UInt8) (hs:s.length≤140737488351232):run E (exec E) false 77 [.str s]=some (.bool (typeOk s)):=by
 rw [run_ent,e77]
 obtain ⟨n,h1,-⟩:=c133 s hs
 simp only [readA_int,readA_bool,readA_str,readA_list,readA_sl0,readA_sl,readA_agg,readA_tup,call_pure,optAll_cons,optAll_nil,readT_str,Option.bind_some,h1,extract_tup,List.getElem?_cons_zero,List.getElem?_cons_succ,asB_bool,typeOk]
 cases (clsName s).isSome <;> simp
def takeType:List UInt8→Option (List UInt8×List UInt8)
 | []=>none
 | b :: r=>if b=73 then some ([73],r) else if b=76 then match cutAt 59 r with | some (n,rest)=>if nameOk n=true then some (76 :: (n++[59]),rest) else none | none=>none else none
theorem takeType_eq {s t r:List UInt8} (h:takeType s=some (t,r)):s=t++r∧0 < t.length:=by
 cases s with
 | nil=>cases h
 | cons b l=>
  simp only [takeType] at h
  split at h
  ·rename_i hb; cases h; subst hb; simp
  ·split at h
   ·rename_i hb
    subst hb
    split at h
    ·rename_i n rest hc
     split at h
     ·cases h
      have:=(cutAt_eq hc).1
      rw [this]; simp
     ·cases h
    ·cases h
   ·cases h
def endOf (at_:Nat):Option (List UInt8×List UInt8)→Int
 | some (t,_)=>((at_ + t.length:Nat):Int)
 | none=>-1
theorem take_snoc {s:List UInt8} {k i:Nat} (hk:k≤i) (hi:i < s.length):(s.take (i + 1)).drop k=(s.take i).drop k++[s[i]]:=by
 rw [List.take_add_one,List.getElem?_eq_getElem hi,List.drop_append_of_le_length (by simp; omega)]; rfl
theorem c156_6 (s:List UInt8) (hs:s.length≤140737488351232) (at_:Nat) (H:Heap):∀ i,i≤s.length→at_ + 1≤i→J E 156 6 [.str s,.int .i64 at_,.int .i64 i] H=some (.int .i64 (match cutAt 59 (s.drop i) with | some (a,_)=>if nameOk ((s.take i).drop (at_ + 1)++a)=true then ((i + a.length + 1:Nat):Int) else -1 | none=>-1),H):=by
 refine loop_up (P:=fun i=>_) ?_ fun i hi ih hat=>?_
 ·intro hat
  rw [j156_6]
  simp [cutAt]
 ·rw [j156_6]
  have hlt:((i:Nat):Int) < (s.length:Int):=by omega
  simp only [lnS_str,bI_lss,hlt,decide_true,cond_true,asB_bool,Option.bind_some,ix_nat,List.getElem?_eq_getElem hi,Option.map_some,bI_eql,bI_add]
  rw [wrap_i64 (n:=(at_:Int) + 1) (by omega) (by omega),wrap_i64 (n:=(i:Int) + 1) (by omega) (by omega)]
  rw [List.drop_eq_getElem_cons hi]
  have hb:((s[i].toNat:Int)=59)↔s[i]=59:=by
   constructor
   ·intro h
    have:s[i].toNat=(59:UInt8).toNat:=by simpa using (by exact_mod_cast h:s[i].toNat=59)
    exact UInt8.toNat_inj.mp this
   ·intro h; rw [h]; rfl
  by_cases h:s[i]=59
  ·simp only [hb.mpr h,decide_true,cond_true]
   rw [slS_mid (by omega) (by omega) (by omega)]
   simp only [readA_int,readA_bool,readA_str,readA_list,readA_sl0,readA_sl,readA_agg,readA_tup,Option.bind_some,call_pure,optAll_cons,optAll_nil,readT_str]
   rw [c63 _ (by simp; omega)]
   rw [show ((i:Int)).toNat=i by omega,show ((at_:Int) + 1).toNat=at_ + 1 by omega]
   simp only [Option.bind_some,asB_bool,cutAt,h,if_true,List.append_nil]
   cases nameOk ((s.take i).drop (at_ + 1)) <;> simp
  ·have hb':¬ ((s[i].toNat:Int)=59):=fun e=>h (hb.mp e)
   simp only [hb',decide_false,cond_false]
   rw [show (i:Int) + 1=((i + 1:Nat):Int) from rfl,ih (by omega)]
   simp only [cutAt,h,if_false]
   cases hc:cutAt 59 (s.drop (i + 1)) with
   | none=>rfl
   | some q=>
    obtain ⟨a,r⟩:=q
    simp only [Option.map_some]
    rw [take_snoc (by omega) hi]
    simp only [List.append_assoc,List.singleton_append,List.length_cons]
    rw [show i + 1 + a.length + 1=i + (a.length + 1) + 1 by omega]
theorem byte_int (b:UInt8) (n:Nat) (hn:n < 256):((b.toNat:Int)=(n:Int))↔b=UInt8.ofNat n:=by
 constructor
 ·intro h
  have h:b.toNat=n:=by exact_mod_cast h
  rw [← h]; simp
 ·intro h; rw [h]; simp; omega
theorem c156 (s:List UInt8) (hs:s.length≤140737488351232) (at_:Nat) (hat:at_≤s.length):run E (exec E) false 156 [.str s,.int .i64 at_]=some (.int .i64 (endOf at_ (takeType (s.drop at_)))):=by
 rw [run_ent,e156]
 by_cases he:at_=s.length
 ·subst he
  simp [takeType,endOf]
 ·have hlt:at_ < s.length:=by omega
  have hlt':((at_:Nat):Int) < (s.length:Int):=by omega
  have h73:=byte_int s[at_] 73 (by omega)
  have h76:=byte_int s[at_] 76 (by omega)
  simp only [lnS_str,bI_lss,hlt',decide_true,cond_true,asB_bool,Option.bind_some,ix_nat,List.getElem?_eq_getElem hlt,Option.map_some,bI_eql,bI_add,bI_geq,bI_neq,show ¬ (s.length:Int)≤at_ by omega,decide_false,cond_false]
  rw [wrap_i64 (n:=(at_:Int) + 1) (by omega) (by omega),List.drop_eq_getElem_cons hlt]
  by_cases h1:s[at_]=73
  ·have:=h73.mpr h1
   have this:(s[at_].toNat:Int)=73:=this
   simp [this,takeType,h1,endOf]
  ·have n73:¬ ((s[at_].toNat:Int)=73):=fun e=>h1 (h73.mp e)
   simp only [n73,decide_false,cond_false]
   by_cases h2:s[at_]=76
   ·have e76:(s[at_].toNat:Int)=76:=h76.mpr h2
    simp only [e76,decide_true,Bool.not_true,cond_false]
    have:=c156_6 s hs at_ [] (at_ + 1) (by omega) (by omega)
    simp only [Int.natCast_add,Int.natCast_one] at this
    rw [this]
    have e0:(s.take (at_ + 1)).drop (at_ + 1)=[]:=by simp
    simp only [readA_int,readA_bool,readA_str,readA_list,readA_sl0,readA_sl,readA_agg,readA_tup,Option.bind_some,readT_int,takeType,h2,if_true,show ¬ (76:UInt8)=73 by decide,if_false,e0,List.nil_append]
    cases hc:cutAt 59 (s.drop (at_ + 1)) with
    | none=>rfl
    | some q=>
     obtain ⟨a,r⟩:=q
     simp only
     split
     ·simp only [endOf,List.length_cons,List.length_append,List.length_nil]
      congr 2; omega
     ·rfl
   ·have n76:¬ ((s[at_].toNat:Int)=76):=fun e=>h2 (h76.mp e)
    simp [n76,takeType,h1,h2,endOf]
theorem semi_name {a b:List UInt8}:nameOk (a++59 :: b)=false:=by
 have:isAl 59=false:=by decide
 simp [nameOk,this]
theorem takeType_full (s:List UInt8):decide (endOf 0 (takeType s)=(s.length:Int))=typeOk s:=by
 cases s with
 | nil=>simp [takeType,endOf,typeOk,clsName]
 | cons b r=>
  by_cases h1:b=73
  ·subst h1
   simp only [takeType,if_true,endOf,typeOk,clsName,show ¬ (73:UInt8)=76 by decide,false_and,if_false,Option.isSome_none,Bool.false_or]
   cases r <;> simp <;> omega
  ·by_cases h2:b=76
   ·subst h2
    simp only [takeType,show ¬ (76:UInt8)=73 by decide,if_false,if_true,typeOk,clsName,true_and,List.cons.injEq,false_and,decide_false,Bool.or_false]
    cases hc:cutAt 59 r with
    | none=>
     have hn:=cutAt_none hc
     have:¬ r.getLast? = some 59:=fun e=>hn (List.mem_of_getLast? e)
     have hx:¬ endOf 0 none=(((76:UInt8) :: r).length:Int):=by simp only [endOf,List.length_cons]; omega
     simp only [this,false_and,if_false,Option.isSome_none,hx,decide_false]
    | some q=>
     obtain ⟨a,t⟩:=q
     have e:=(cutAt_eq hc).1
     simp only
     cases t with
     | nil=>
      have e1:r.getLast? = some 59:=by rw [e]; simp
      have e2:r.dropLast=a:=by rw [e]; simp
      have e3:r.length=a.length + 1:=by rw [e]; simp
      simp only [e1,e2,true_and,List.length_cons,e3]
      by_cases hn:nameOk a=true
      ·simp [hn,endOf]
      ·simp [hn,endOf]; omega
     | cons c t=>
      have e2:r.dropLast=a++59 :: (c :: t).dropLast:=by rw [e]; simp [List.dropLast_append_of_ne_nil]
      have e3:r.length=a.length + t.length + 2:=by rw [e]; simp; omega
      simp only [e2,semi_name,Bool.false_eq_true,and_false,if_false,Option.isSome_none,List.length_cons,e3]
      split
      ·have hx:¬ endOf 0 (some (76 :: (a++[59]),c :: t))=((a.length + t.length + 2 + 1:Nat):Int):=by simp only [endOf,List.length_cons,List.length_append,List.length_nil]; omega
       simp only [hx,decide_false]
      ·have hx:¬ endOf 0 none=((a.length + t.length + 2 + 1:Nat):Int):=by simp only [endOf]; omega
       simp only [hx,decide_false]
   ·simp [takeType,h1,h2,endOf,typeOk,clsName]; omega
theorem c104 (s:List UInt8) (hs:s.length≤140737488351232):run E (exec E) false 104 [.str s]=some (.bool (typeOk s)):=by
 rw [run_ent,e104]
 have h:=c156 s hs 0 (by omega)
 simp only [Int.natCast_zero,List.drop_zero] at h
 cases s with
 | nil=>simp [typeOk,clsName]
 | cons b r=>
  simp only [readA_int,readA_bool,readA_str,readA_list,readA_sl0,readA_sl,readA_agg,readA_tup,lnS_str,Option.bind_some,bI_gtr,asB_bool,show (0:Int) < ((b :: r).length:Int) by simp <;> omega,decide_true,cond_true,call_pure,optAll_cons,optAll_nil,readT_str,readT_int,h,bI_eql,takeType_full,ret_one,readT_bool]
end Go.Ev.YtmpfooibdekppaaGreatDoor
