import Derived.Test.YtmljkoieihaomaaGreatD1
namespace Go.Ev.YtmljkoieihaomaaGreat
set_option linter.unusedVariables false
set_option linter.unusedSimpArgs false
set_option linter.unusedSectionVars false
set_option linter.defProp false
set_option maxHeartbeats 1000000
open Go.Ev
theorem cBS_one (H:Heap) (c:UInt8) (K:Heap) (b:Nat) (h:getBlk H b=some [[.int .u8 c.toNat]]):cBS H (.sl b 0 1)=some (.str [c],H):=by
 simp [cBS,srcRows,h,rowsFit,optAll,byteOf]
theorem j79_4c:∀ (f:Nat) (k:Int) (out:List UInt8) (H:Heap),k.toNat < f→0≤k→k≤1152921504606846977→out.length + k.toNat≤1152921504606846977→∃ H',J E 79 4 [.int .i64 k,.str out] H=some (.str (109 :: mdig f k.toNat out),H')
 | 0,k,out,H,hf,h0,h1,h2=>by omega
 | f + 1,k,out,H,hf,h0,h1,h2=>by
  rw [j79_4]
  by_cases hk:0 < k
  ·have e1:k.tmod 10=k % 10:=Int.tmod_eq_emod_of_nonneg h0
   have e2:k.tdiv 10=k / 10:=Int.tdiv_eq_ediv_of_nonneg h0
   have e3:(k % 10)=((k.toNat % 10:Nat):Int):=by omega
   have e4:(k / 10).toNat=k.toNat / 10:=by omega
   simp only [bI_gtr,Option.bind_some,asB_bool,hk,decide_true,cond_true,bI_rem _ _ _ (show (10:Int) ≠ 0 by decide),bI_quo _ _ _ (show (10:Int) ≠ 0 by decide),bI_add,e1,e2,cI_int]
   have e5:IntKind.wrap .u8 (IntKind.wrap .i64 (48 + k % 10))=((UInt8.ofNat (48 + k.toNat % 10)).toNat:Int):=by
    rw [wrap_i64 (by omega) (by omega),e3]
    have:(48 + k.toNat % 10) % 256=48 + k.toNat % 10:=by omega
    simp [IntKind.wrap,IntKind.signed,IntKind.bits,this]
    omega
   rw [e5,bsl_one (esz:=1) (by omega) rfl rfl rfl]
   simp only [Option.bind_some,D.cells]
   rw [cBS_one _ (UInt8.ofNat (48 + k.toNat % 10)) H H.length (by simp)]
   simp only [Option.bind_some]
   rw [bS_add _ _ (by simp; omega),wrap_i64 (n:=k / 10) (by omega) (by omega)]
   simp only [Option.bind_some]
   obtain ⟨H',h⟩:=j79_4c f (k / 10) (UInt8.ofNat (48 + k.toNat % 10) :: out) (H++[some [[.int .u8 (UInt8.ofNat (48 + k.toNat % 10)).toNat]]]) (by omega) (by omega) (by omega) (by simp; omega)
   refine ⟨H',?_⟩
   rw [show [UInt8.ofNat (48 + k.toNat % 10)]++out=UInt8.ofNat (48 + k.toNat % 10) :: out from rfl,h,e4,mdig,if_neg (by omega)]
  ·have:k=0:=by omega
   subst this
   refine ⟨H,?_⟩
   simp only [bI_gtr,Option.bind_some,asB_bool,Int.lt_irrefl,decide_false,cond_false]
   rw [bS_add _ _ (by simp; omega)]
   simp [mdig]
theorem c79 (k:Int) (h:k≤1152921504606846977):run E (exec E) false 79 [.int .i64 k]=some (.str (mtext k)):=by
 rw [run_ent,e79]
 by_cases hk:k≤0
 ·simp [hk,mtext]
 ·obtain ⟨H',h⟩:=j79_4c (k.toNat + 1) k [] [] (by omega) (by omega) h (by simp; omega)
  simp only [readA_int,readA_bool,readA_str,readA_list,readA_sl0,readA_sl,readA_agg,readA_tup,bI_leq,Option.bind_some,asB_bool,hk,decide_false,cond_false,h,mtext,if_false,readT_str]
theorem m81:MarkC E 81 rInt (fun k _=>k) (fun _=>1):=by
 refine mark_loop (fun x=>Nat.le_refl 1) (fun H d k=>by rw [e81]) (fun H k=>by rw [j81_2]; simp) (fun H b N k=>by rw [j81_2]; simp) fun lv H b N pre cs post B x k hN hNN m0 h0 h1=>?_
 have hlt:((pre.length:Nat):Int) < (N:Int):=by omega
 rw [j81_2]
 simp only [lnL_sl,Option.bind_some,bI_lss,asB_bool,hlt,decide_true,cond_true]
 rw [m0.ia (esz:=1) hN rfl]; simp only [fa_ptr,Nat.zero_add,Option.bind_some]
 obtain ⟨H1,c1,q0,m1⟩:=m0.set (f:=0) (v:=.int .i64 (k)) rfl rfl rfl rfl
 rw [q0]; simp only [Option.bind_some,bI_add]; rw [wrap_i64 (n:=k + 1) (by omega) (by omega)]
 try simp only [bI_add]
 rw [wrap_i64 (n:=((pre.length:Nat):Int) + 1) (by omega) (by omega)]; try simp only [Option.bind_some]
 refine ⟨H1,c1,?_,m1⟩
 have hk:k + 1=k + ((1:Nat):Int):=by simp
 rfl
theorem h90:HeldC E 90 rInt (fun k _=>k) (fun _=>1):=by
 refine held_loop (fun x=>Nat.le_refl 1) (fun H d k=>by rw [e90]) (fun H rows k=>by rw [j90_2]; simp) fun l0 i x k hi hx hn h0 h1=>?_
 have hlt:((i:Nat):Int) < (l0.length:Int):=by omega
 rw [j90_2]
 rw [Ev.ia_list (n:=(i:Int)) (by omega) (by simpa using hi) (by simp [rInt,rStr])]
 simp only [lnL_list,List.length_map,Option.bind_some,bI_lss,asB_bool,hlt,decide_true,cond_true,Int.toNat_natCast,List.getElem_map,hx,fa_el,ld_el,Nat.zero_add]
 simp only [rInt,rStr]
 rw [show part [.int .i64 (k)] (0,1,false)=some (.int .i64 (k)) from rfl]; simp only [Option.bind_some]
 simp only [bI_neq,decide_true,Bool.not_true,Option.bind_some,asB_bool,cond_false,bI_add]
 rw [wrap_i64 (n:=k + 1) (by omega) (by omega)]; try simp only [Option.bind_some]
 try simp only [bI_add]
 rw [wrap_i64 (n:=((i:Nat):Int) + 1) (by omega) (by omega)]; try simp only [Option.bind_some]
 have hk:k + 1=k + ((1:Nat):Int):=by simp
 rfl
theorem m80:MarkC E 80 SConst.row SConst.mark SConst.marks:=by
 refine mark_loop (fun x=>by simp only [SConst.marks]; omega) (fun H d k=>by rw [e80]) (fun H k=>by rw [j80_2]; simp) (fun H b N k=>by rw [j80_2]; simp) fun lv H b N pre cs post B x k hN hNN m0 h0 h1=>?_
 simp only [SConst.marks] at h1
 have hlt:((pre.length:Nat):Int) < (N:Int):=by omega
 rw [j80_2]
 simp only [lnL_sl,Option.bind_some,bI_lss,asB_bool,hlt,decide_true,cond_true]
 rw [m0.ia (esz:=4) hN rfl]; simp only [fa_ptr,Nat.zero_add,Option.bind_some]
 obtain ⟨H1,c1,q0,m1⟩:=m0.set (f:=0) (v:=.int .i64 (k)) rfl rfl rfl rfl
 rw [q0]; simp only [Option.bind_some,bI_add]; rw [wrap_i64 (n:=k + 1) (by omega) (by omega)]
 try simp only [readA_int,readA_bool,readA_str,readA_list,readA_sl0,readA_sl,readA_agg,readA_tup,call_pure,optAll_cons,optAll_nil,readT_int,Option.bind_some]
 rw [c79 _ (by omega)]; simp only [Option.bind_some]
 rw [m1.ia (esz:=4) hN rfl]; simp only [fa_ptr,Nat.zero_add,Option.bind_some]
 obtain ⟨H2,c2,q1,m2⟩:=m1.set (f:=1) (v:=.str (mtext (k + 1))) rfl rfl rfl rfl
 rw [q1]; simp only [Option.bind_some,bI_add]; rw [wrap_i64 (n:=k + 1 + 1) (by omega) (by omega)]
 rw [m2.ia (esz:=4) hN rfl]; simp only [fa_ptr,Nat.zero_add,Option.bind_some]
 obtain ⟨H3,c3,q2,m3⟩:=m2.set (f:=2) (v:=.int .i64 (k + 1 + 1)) rfl rfl rfl rfl
 rw [q2]; simp only [Option.bind_some,bI_add]; rw [wrap_i64 (n:=k + 1 + 1 + 1) (by omega) (by omega)]
 rw [m3.ia (esz:=4) hN rfl]; simp only [fa_ptr,Nat.zero_add,Option.bind_some]
 obtain ⟨H4,c4,q3,m4⟩:=m3.set (f:=3) (v:=.int .i64 (k + 1 + 1 + 1)) rfl rfl rfl rfl
 rw [q3]; simp only [Option.bind_some,bI_add]; rw [wrap_i64 (n:=k + 1 + 1 + 1 + 1) (by omega) (by omega)]
 try simp only [bI_add]
 rw [wrap_i64 (n:=((pre.length:Nat):Int) + 1) (by omega) (by omega)]; try simp only [Option.bind_some]
 refine ⟨H4,c4,?_,m4⟩
 have hk:k + 1 + 1 + 1 + 1=k + ((SConst.marks x:Nat):Int):=by simp only [SConst.marks]; omega
 first | rw [hk] | rfl
 rfl
theorem h89:HeldC E 89 SConst.row SConst.mark SConst.marks:=by
 refine held_loop (fun x=>by simp only [SConst.marks]; omega) (fun H d k=>by rw [e89]) (fun H rows k=>by rw [j89_2]; simp) fun l0 i x k hi hx hn h0 h1=>?_
 simp only [SConst.marks] at h1
 have hlt:((i:Nat):Int) < (l0.length:Int):=by omega
 rw [j89_2]
 rw [Ev.ia_list (n:=(i:Int)) (by omega) (by simpa using hi) (by simp [rInt,rStr])]
 simp only [lnL_list,List.length_map,Option.bind_some,bI_lss,asB_bool,hlt,decide_true,cond_true,Int.toNat_natCast,List.getElem_map,hx,fa_el,ld_el,Nat.zero_add]
 rw [show part (SConst.mark k x).row (0,1,false)=some (.int .i64 (k)) from rfl]; simp only [Option.bind_some]
 simp only [bI_neq,decide_true,Bool.not_true,Option.bind_some,asB_bool,cond_false,bI_add]
 rw [wrap_i64 (n:=k + 1) (by omega) (by omega)]; try simp only [Option.bind_some]
 try (rw [Ev.ia_list (n:=(i:Int)) (by omega) (by simpa using hi) (by simp [rInt,rStr])]; simp only [Option.bind_some,Int.toNat_natCast,List.getElem_map,hx,fa_el,ld_el,Nat.zero_add])
 rw [show part (SConst.mark k x).row (1,1,false)=some (.str (mtext (k + 1))) from rfl]; simp only [Option.bind_some]
 try simp only [readA_int,readA_bool,readA_str,readA_list,readA_sl0,readA_sl,readA_agg,readA_tup,call_pure,optAll_cons,optAll_nil,readT_int,Option.bind_some]
 rw [c79 _ (by omega)]; simp only [Option.bind_some,bS_neq,decide_true,Bool.not_true,asB_bool,cond_false,bI_add]
 rw [wrap_i64 (n:=k + 1 + 1) (by omega) (by omega)]; try simp only [Option.bind_some]
 try (rw [Ev.ia_list (n:=(i:Int)) (by omega) (by simpa using hi) (by simp [rInt,rStr])]; simp only [Option.bind_some,Int.toNat_natCast,List.getElem_map,hx,fa_el,ld_el,Nat.zero_add])
 rw [show part (SConst.mark k x).row (2,1,false)=some (.int .i64 (k + 1 + 1)) from rfl]; simp only [Option.bind_some]
 simp only [bI_neq,decide_true,Bool.not_true,Option.bind_some,asB_bool,cond_false,bI_add]
 rw [wrap_i64 (n:=k + 1 + 1 + 1) (by omega) (by omega)]; try simp only [Option.bind_some]
 try (rw [Ev.ia_list (n:=(i:Int)) (by omega) (by simpa using hi) (by simp [rInt,rStr])]; simp only [Option.bind_some,Int.toNat_natCast,List.getElem_map,hx,fa_el,ld_el,Nat.zero_add])
 rw [show part (SConst.mark k x).row (3,1,false)=some (.int .i64 (k + 1 + 1 + 1)) from rfl]; simp only [Option.bind_some]
 simp only [bI_neq,decide_true,Bool.not_true,Option.bind_some,asB_bool,cond_false,bI_add]
 rw [wrap_i64 (n:=k + 1 + 1 + 1 + 1) (by omega) (by omega)]; try simp only [Option.bind_some]
 try simp only [bI_add]
 rw [wrap_i64 (n:=((i:Nat):Int) + 1) (by omega) (by omega)]; try simp only [Option.bind_some]
 have hk:k + 1 + 1 + 1 + 1=k + ((SConst.marks x:Nat):Int):=by simp only [SConst.marks]; omega
 rw [hk]
 rfl
theorem m82:MarkC E 82 SField.row SField.mark SField.marks:=by
 refine mark_loop (fun x=>by simp only [SField.marks]; omega) (fun H d k=>by rw [e82]) (fun H k=>by rw [j82_2]; simp) (fun H b N k=>by rw [j82_2]; simp) fun lv H b N pre cs post B x k hN hNN m0 h0 h1=>?_
 simp only [SField.marks] at h1
 have hlt:((pre.length:Nat):Int) < (N:Int):=by omega
 rw [j82_2]
 simp only [lnL_sl,Option.bind_some,bI_lss,asB_bool,hlt,decide_true,cond_true]
 rw [m0.ia (esz:=3) hN rfl]; simp only [fa_ptr,Nat.zero_add,Option.bind_some]
 obtain ⟨H1,c1,q0,m1⟩:=m0.set (f:=0) (v:=.int .i64 (k)) rfl rfl rfl rfl
 rw [q0]; simp only [Option.bind_some,bI_add]; rw [wrap_i64 (n:=k + 1) (by omega) (by omega)]
 rw [m1.ia (esz:=3) hN rfl]; simp only [fa_ptr,Nat.zero_add,Option.bind_some]
 obtain ⟨H2,c2,q1,m2⟩:=m1.set (f:=1) (v:=.int .i64 (k + 1)) rfl rfl rfl rfl
 rw [q1]; simp only [Option.bind_some,bI_add]; rw [wrap_i64 (n:=k + 1 + 1) (by omega) (by omega)]
 rw [m2.ia (esz:=3) hN rfl]; simp only [fa_ptr,Nat.zero_add,Option.bind_some]
 obtain ⟨H3,c3,q2,m3⟩:=m2.set (f:=2) (v:=.int .i64 (k + 1 + 1)) rfl rfl rfl rfl
 rw [q2]; simp only [Option.bind_some,bI_add]; rw [wrap_i64 (n:=k + 1 + 1 + 1) (by omega) (by omega)]
 try simp only [bI_add]
 rw [wrap_i64 (n:=((pre.length:Nat):Int) + 1) (by omega) (by omega)]; try simp only [Option.bind_some]
 refine ⟨H3,c3,?_,m3⟩
 have hk:k + 1 + 1 + 1=k + ((SField.marks x:Nat):Int):=by simp only [SField.marks]; omega
 first | rw [hk] | rfl
 rfl
theorem h91:HeldC E 91 SField.row SField.mark SField.marks:=by
 refine held_loop (fun x=>by simp only [SField.marks]; omega) (fun H d k=>by rw [e91]) (fun H rows k=>by rw [j91_2]; simp) fun l0 i x k hi hx hn h0 h1=>?_
 simp only [SField.marks] at h1
 have hlt:((i:Nat):Int) < (l0.length:Int):=by omega
 rw [j91_2]
 rw [Ev.ia_list (n:=(i:Int)) (by omega) (by simpa using hi) (by simp [rInt,rStr])]
 simp only [lnL_list,List.length_map,Option.bind_some,bI_lss,asB_bool,hlt,decide_true,cond_true,Int.toNat_natCast,List.getElem_map,hx,fa_el,ld_el,Nat.zero_add]
 rw [show part (SField.mark k x).row (0,1,false)=some (.int .i64 (k)) from rfl]; simp only [Option.bind_some]
 simp only [bI_neq,decide_true,Bool.not_true,Option.bind_some,asB_bool,cond_false,bI_add]
 rw [wrap_i64 (n:=k + 1) (by omega) (by omega)]; try simp only [Option.bind_some]
 try (rw [Ev.ia_list (n:=(i:Int)) (by omega) (by simpa using hi) (by simp [rInt,rStr])]; simp only [Option.bind_some,Int.toNat_natCast,List.getElem_map,hx,fa_el,ld_el,Nat.zero_add])
 rw [show part (SField.mark k x).row (1,1,false)=some (.int .i64 (k + 1)) from rfl]; simp only [Option.bind_some]
 simp only [bI_neq,decide_true,Bool.not_true,Option.bind_some,asB_bool,cond_false,bI_add]
 rw [wrap_i64 (n:=k + 1 + 1) (by omega) (by omega)]; try simp only [Option.bind_some]
 try (rw [Ev.ia_list (n:=(i:Int)) (by omega) (by simpa using hi) (by simp [rInt,rStr])]; simp only [Option.bind_some,Int.toNat_natCast,List.getElem_map,hx,fa_el,ld_el,Nat.zero_add])
 rw [show part (SField.mark k x).row (2,1,false)=some (.int .i64 (k + 1 + 1)) from rfl]; simp only [Option.bind_some]
 simp only [bI_neq,decide_true,Bool.not_true,Option.bind_some,asB_bool,cond_false,bI_add]
 rw [wrap_i64 (n:=k + 1 + 1 + 1) (by omega) (by omega)]; try simp only [Option.bind_some]
 try simp only [bI_add]
 rw [wrap_i64 (n:=((i:Nat):Int) + 1) (by omega) (by omega)]; try simp only [Option.bind_some]
 have hk:k + 1 + 1 + 1=k + ((SField.marks x:Nat):Int):=by simp only [SField.marks]; omega
 rw [hk]
 rfl
theorem m153:MarkC E 153 STrap.row STrap.mark STrap.marks:=by
 refine mark_loop (fun x=>by simp only [STrap.marks]; omega) (fun H d k=>by rw [e153]) (fun H k=>by rw [j153_2]; simp) (fun H b N k=>by rw [j153_2]; simp) fun lv H b N pre cs post B x k hN hNN m0 h0 h1=>?_
 simp only [STrap.marks] at h1
 have hlt:((pre.length:Nat):Int) < (N:Int):=by omega
 rw [j153_2]
 simp only [lnL_sl,Option.bind_some,bI_lss,asB_bool,hlt,decide_true,cond_true]
 rw [m0.ia (esz:=4) hN rfl]; simp only [fa_ptr,Nat.zero_add,Option.bind_some]
 obtain ⟨H1,c1,q0,m1⟩:=m0.set (f:=0) (v:=.int .i64 (k)) rfl rfl rfl rfl
 rw [q0]; simp only [Option.bind_some,bI_add]; rw [wrap_i64 (n:=k + 1) (by omega) (by omega)]
 rw [m1.ia (esz:=4) hN rfl]; simp only [fa_ptr,Nat.zero_add,Option.bind_some]
 obtain ⟨H2,c2,q1,m2⟩:=m1.set (f:=1) (v:=.int .i64 (k + 1)) rfl rfl rfl rfl
 rw [q1]; simp only [Option.bind_some,bI_add]; rw [wrap_i64 (n:=k + 1 + 1) (by omega) (by omega)]
 rw [m2.ia (esz:=4) hN rfl]; simp only [fa_ptr,Nat.zero_add,Option.bind_some]
 obtain ⟨H3,c3,q2,m3⟩:=m2.set (f:=2) (v:=.int .i64 (k + 1 + 1)) rfl rfl rfl rfl
 rw [q2]; simp only [Option.bind_some,bI_add]; rw [wrap_i64 (n:=k + 1 + 1 + 1) (by omega) (by omega)]
 rw [m3.ia (esz:=4) hN rfl]; simp only [fa_ptr,Nat.zero_add,Option.bind_some]
 obtain ⟨H4,c4,q3,m4⟩:=m3.set (f:=3) (v:=.int .i64 (k + 1 + 1 + 1)) rfl rfl rfl rfl
 rw [q3]; simp only [Option.bind_some,bI_add]; rw [wrap_i64 (n:=k + 1 + 1 + 1 + 1) (by omega) (by omega)]
 try simp only [bI_add]
 rw [wrap_i64 (n:=((pre.length:Nat):Int) + 1) (by omega) (by omega)]; try simp only [Option.bind_some]
 refine ⟨H4,c4,?_,m4⟩
 have hk:k + 1 + 1 + 1 + 1=k + ((STrap.marks x:Nat):Int):=by simp only [STrap.marks]; omega
 first | rw [hk] | rfl
 rfl
theorem h155:HeldC E 155 STrap.row STrap.mark STrap.marks:=by
 refine held_loop (fun x=>by simp only [STrap.marks]; omega) (fun H d k=>by rw [e155]) (fun H rows k=>by rw [j155_2]; simp) fun l0 i x k hi hx hn h0 h1=>?_
 simp only [STrap.marks] at h1
 have hlt:((i:Nat):Int) < (l0.length:Int):=by omega
 rw [j155_2]
 rw [Ev.ia_list (n:=(i:Int)) (by omega) (by simpa using hi) (by simp [rInt,rStr])]
 simp only [lnL_list,List.length_map,Option.bind_some,bI_lss,asB_bool,hlt,decide_true,cond_true,Int.toNat_natCast,List.getElem_map,hx,fa_el,ld_el,Nat.zero_add]
 rw [show part (STrap.mark k x).row (0,1,false)=some (.int .i64 (k)) from rfl]; simp only [Option.bind_some]
 simp only [bI_neq,decide_true,Bool.not_true,Option.bind_some,asB_bool,cond_false,bI_add]
 rw [wrap_i64 (n:=k + 1) (by omega) (by omega)]; try simp only [Option.bind_some]
 try (rw [Ev.ia_list (n:=(i:Int)) (by omega) (by simpa using hi) (by simp [rInt,rStr])]; simp only [Option.bind_some,Int.toNat_natCast,List.getElem_map,hx,fa_el,ld_el,Nat.zero_add])
 rw [show part (STrap.mark k x).row (1,1,false)=some (.int .i64 (k + 1)) from rfl]; simp only [Option.bind_some]
 simp only [bI_neq,decide_true,Bool.not_true,Option.bind_some,asB_bool,cond_false,bI_add]
 rw [wrap_i64 (n:=k + 1 + 1) (by omega) (by omega)]; try simp only [Option.bind_some]
 try (rw [Ev.ia_list (n:=(i:Int)) (by omega) (by simpa using hi) (by simp [rInt,rStr])]; simp only [Option.bind_some,Int.toNat_natCast,List.getElem_map,hx,fa_el,ld_el,Nat.zero_add])
 rw [show part (STrap.mark k x).row (2,1,false)=some (.int .i64 (k + 1 + 1)) from rfl]; simp only [Option.bind_some]
 simp only [bI_neq,decide_true,Bool.not_true,Option.bind_some,asB_bool,cond_false,bI_add]
 rw [wrap_i64 (n:=k + 1 + 1 + 1) (by omega) (by omega)]; try simp only [Option.bind_some]
 try (rw [Ev.ia_list (n:=(i:Int)) (by omega) (by simpa using hi) (by simp [rInt,rStr])]; simp only [Option.bind_some,Int.toNat_natCast,List.getElem_map,hx,fa_el,ld_el,Nat.zero_add])
 rw [show part (STrap.mark k x).row (3,1,false)=some (.int .i64 (k + 1 + 1 + 1)) from rfl]; simp only [Option.bind_some]
 simp only [bI_neq,decide_true,Bool.not_true,Option.bind_some,asB_bool,cond_false,bI_add]
 rw [wrap_i64 (n:=k + 1 + 1 + 1 + 1) (by omega) (by omega)]; try simp only [Option.bind_some]
 try simp only [bI_add]
 rw [wrap_i64 (n:=((i:Nat):Int) + 1) (by omega) (by omega)]; try simp only [Option.bind_some]
 have hk:k + 1 + 1 + 1 + 1=k + ((STrap.marks x:Nat):Int):=by simp only [STrap.marks]; omega
 rw [hk]
 rfl
theorem m216:MarkC E 216 SKind.row SKind.mark SKind.marks:=by
 refine mark_loop (fun x=>by simp only [SKind.marks]; omega) (fun H d k=>by rw [e216]) (fun H k=>by rw [j216_2]; simp) (fun H b N k=>by rw [j216_2]; simp) fun lv H b N pre cs post B x k hN hNN m0 h0 h1=>?_
 simp only [SKind.marks] at h1
 have hlt:((pre.length:Nat):Int) < (N:Int):=by omega
 rw [j216_2]
 simp only [lnL_sl,Option.bind_some,bI_lss,asB_bool,hlt,decide_true,cond_true]
 rw [m0.ia (esz:=2) hN rfl]; simp only [fa_ptr,Nat.zero_add,Option.bind_some]
 obtain ⟨H1,c1,q0,m1⟩:=m0.set (f:=0) (v:=.int .i64 (k)) rfl rfl rfl rfl
 rw [q0]; simp only [Option.bind_some,bI_add]; rw [wrap_i64 (n:=k + 1) (by omega) (by omega)]
 rw [m1.ia (esz:=2) hN rfl]; simp only [fa_ptr,Nat.zero_add,Option.bind_some]
 obtain ⟨H2,c2,q1,m2⟩:=m1.set (f:=1) (v:=.int .i64 (k + 1)) rfl rfl rfl rfl
 rw [q1]; simp only [Option.bind_some,bI_add]; rw [wrap_i64 (n:=k + 1 + 1) (by omega) (by omega)]
 try simp only [bI_add]
 rw [wrap_i64 (n:=((pre.length:Nat):Int) + 1) (by omega) (by omega)]; try simp only [Option.bind_some]
 refine ⟨H2,c2,?_,m2⟩
 have hk:k + 1 + 1=k + ((SKind.marks x:Nat):Int):=by simp only [SKind.marks]; omega
 first | rw [hk] | rfl
 rfl
theorem h217:HeldC E 217 SKind.row SKind.mark SKind.marks:=by
 refine held_loop (fun x=>by simp only [SKind.marks]; omega) (fun H d k=>by rw [e217]) (fun H rows k=>by rw [j217_2]; simp) fun l0 i x k hi hx hn h0 h1=>?_
 simp only [SKind.marks] at h1
 have hlt:((i:Nat):Int) < (l0.length:Int):=by omega
 rw [j217_2]
 rw [Ev.ia_list (n:=(i:Int)) (by omega) (by simpa using hi) (by simp [rInt,rStr])]
 simp only [lnL_list,List.length_map,Option.bind_some,bI_lss,asB_bool,hlt,decide_true,cond_true,Int.toNat_natCast,List.getElem_map,hx,fa_el,ld_el,Nat.zero_add]
 rw [show part (SKind.mark k x).row (0,1,false)=some (.int .i64 (k)) from rfl]; simp only [Option.bind_some]
 simp only [bI_neq,decide_true,Bool.not_true,Option.bind_some,asB_bool,cond_false,bI_add]
 rw [wrap_i64 (n:=k + 1) (by omega) (by omega)]; try simp only [Option.bind_some]
 try (rw [Ev.ia_list (n:=(i:Int)) (by omega) (by simpa using hi) (by simp [rInt,rStr])]; simp only [Option.bind_some,Int.toNat_natCast,List.getElem_map,hx,fa_el,ld_el,Nat.zero_add])
 rw [show part (SKind.mark k x).row (1,1,false)=some (.int .i64 (k + 1)) from rfl]; simp only [Option.bind_some]
 simp only [bI_neq,decide_true,Bool.not_true,Option.bind_some,asB_bool,cond_false,bI_add]
 rw [wrap_i64 (n:=k + 1 + 1) (by omega) (by omega)]; try simp only [Option.bind_some]
 try simp only [bI_add]
 rw [wrap_i64 (n:=((i:Nat):Int) + 1) (by omega) (by omega)]; try simp only [Option.bind_some]
 have hk:k + 1 + 1=k + ((SKind.marks x:Nat):Int):=by simp only [SKind.marks]; omega
 rw [hk]
 rfl
theorem m154:MarkC E 154 SFrame.row SFrame.mark SFrame.marks:=by
 refine mark_loop (fun x=>by simp only [SFrame.marks]; omega) (fun H d k=>by rw [e154]) (fun H k=>by rw [j154_2]; simp) (fun H b N k=>by rw [j154_2]; simp) fun lv H b N pre cs post B x k hN hNN m0 h0 h1=>?_
 simp only [SFrame.marks] at h1
 have hlt:((pre.length:Nat):Int) < (N:Int):=by omega
 rw [j154_2]
 simp only [lnL_sl,Option.bind_some,bI_lss,asB_bool,hlt,decide_true,cond_true]
 rw [m0.ia (esz:=3) hN rfl]; simp only [fa_ptr,Nat.zero_add,Option.bind_some]
 obtain ⟨H1,c1,q0,m1⟩:=m0.set (f:=0) (v:=.int .i64 (k)) rfl rfl rfl rfl
 rw [q0]; simp only [Option.bind_some,bI_add]; rw [wrap_i64 (n:=k + 1) (by omega) (by omega)]
 rw [m1.ia (esz:=3) hN rfl]; simp only [fa_ptr,Nat.zero_add,Option.bind_some]
 obtain ⟨d1,D1,l1,r1,n1,u1⟩:=m1.get (f:=1) rfl rfl
 rw [l1]; simp only [Option.bind_some,call_raw]
 obtain ⟨H2,q1,R1,L1,F1⟩:=m216 _ _ _ _ _ (k + 1) r1 n1 (by omega) (by omega)
 rw [q1]; simp only [Option.bind_some]
 have m2:=u1 L1 F1 R1
 rw [m2.ia (esz:=3) hN rfl]; simp only [fa_ptr,Nat.zero_add,Option.bind_some]
 obtain ⟨d2,D2,l2,r2,n2,u2⟩:=m2.get (f:=2) rfl rfl
 rw [l2]; simp only [Option.bind_some,call_raw]
 obtain ⟨H3,q2,R2,L2,F2⟩:=m216 _ _ _ _ _ (k + 1 + (mkN SKind.marks x.Locals:Nat)) r2 n2 (by omega) (by omega)
 rw [q2]; simp only [Option.bind_some]
 have m3:=u2 L2 F2 R2
 try simp only [bI_add]
 rw [wrap_i64 (n:=((pre.length:Nat):Int) + 1) (by omega) (by omega)]; try simp only [Option.bind_some]
 refine ⟨H3,c1,?_,m3⟩
 have hk:k + 1 + (mkN SKind.marks x.Locals:Nat) + (mkN SKind.marks x.Stack:Nat)=k + ((SFrame.marks x:Nat):Int):=by simp only [SFrame.marks]; omega
 first | rw [hk] | rfl
 rfl
theorem h156:HeldC E 156 SFrame.row SFrame.mark SFrame.marks:=by
 refine held_loop (fun x=>by simp only [SFrame.marks]; omega) (fun H d k=>by rw [e156]) (fun H rows k=>by rw [j156_2]; simp) fun l0 i x k hi hx hn h0 h1=>?_
 simp only [SFrame.marks] at h1
 have hlt:((i:Nat):Int) < (l0.length:Int):=by omega
 rw [j156_2]
 rw [Ev.ia_list (n:=(i:Int)) (by omega) (by simpa using hi) (by simp [rInt,rStr])]
 simp only [lnL_list,List.length_map,Option.bind_some,bI_lss,asB_bool,hlt,decide_true,cond_true,Int.toNat_natCast,List.getElem_map,hx,fa_el,ld_el,Nat.zero_add]
 rw [show part (SFrame.mark k x).row (0,1,false)=some (.int .i64 (k)) from rfl]; simp only [Option.bind_some]
 simp only [bI_neq,decide_true,Bool.not_true,Option.bind_some,asB_bool,cond_false,bI_add]
 rw [wrap_i64 (n:=k + 1) (by omega) (by omega)]; try simp only [Option.bind_some]
 try (rw [Ev.ia_list (n:=(i:Int)) (by omega) (by simpa using hi) (by simp [rInt,rStr])]; simp only [Option.bind_some,Int.toNat_natCast,List.getElem_map,hx,fa_el,ld_el,Nat.zero_add])
 rw [show part (SFrame.mark k x).row (1,1,false)=some (.list ((mkL SKind.mark SKind.marks (k + 1) x.Locals).map SKind.row)) from rfl]; simp only [Option.bind_some]
 simp only [readA_int,readA_bool,readA_str,readA_list,readA_sl0,readA_sl,readA_agg,readA_tup,call_pure,optAll_cons,optAll_nil,readT_int,readT_list9,Option.bind_some]; rw [h217 _ _ (by omega) (by omega)]; simp only [Option.bind_some,bI_lss,asB_bool,show ¬ k + 1 + ((mkN SKind.marks x.Locals:Nat):Int) < 0 by omega,decide_false,cond_false]
 try (rw [Ev.ia_list (n:=(i:Int)) (by omega) (by simpa using hi) (by simp [rInt,rStr])]; simp only [Option.bind_some,Int.toNat_natCast,List.getElem_map,hx,fa_el,ld_el,Nat.zero_add])
 rw [show part (SFrame.mark k x).row (2,1,false)=some (.list ((mkL SKind.mark SKind.marks (k + 1 + (mkN SKind.marks x.Locals:Nat)) x.Stack).map SKind.row)) from rfl]; simp only [Option.bind_some]
 simp only [readA_int,readA_bool,readA_str,readA_list,readA_sl0,readA_sl,readA_agg,readA_tup,call_pure,optAll_cons,optAll_nil,readT_int,readT_list9,Option.bind_some]; rw [h217 _ _ (by omega) (by omega)]; simp only [Option.bind_some,bI_lss,asB_bool,show ¬ k + 1 + (mkN SKind.marks x.Locals:Nat) + ((mkN SKind.marks x.Stack:Nat):Int) < 0 by omega,decide_false,cond_false]
 try simp only [bI_add]
 rw [wrap_i64 (n:=((i:Nat):Int) + 1) (by omega) (by omega)]; try simp only [Option.bind_some]
 have hk:k + 1 + (mkN SKind.marks x.Locals:Nat) + (mkN SKind.marks x.Stack:Nat)=k + ((SFrame.marks x:Nat):Int):=by simp only [SFrame.marks]; omega
 rw [hk]
 rfl
theorem m83:MarkC E 83 SMethod.row SMethod.mark SMethod.marks:=by
 refine mark_loop (fun x=>by simp only [SMethod.marks]; omega) (fun H d k=>by rw [e83]) (fun H k=>by rw [j83_2]; simp) (fun H b N k=>by rw [j83_2]; simp) fun lv H b N pre cs post B x k hN hNN m0 h0 h1=>?_
 simp only [SMethod.marks] at h1
 have hlt:((pre.length:Nat):Int) < (N:Int):=by omega
 rw [j83_2]
 simp only [lnL_sl,Option.bind_some,bI_lss,asB_bool,hlt,decide_true,cond_true]
 rw [m0.ia (esz:=8) hN rfl]; simp only [fa_ptr,Nat.zero_add,Option.bind_some]
 obtain ⟨H1,c1,q0,m1⟩:=m0.set (f:=0) (v:=.int .i64 (k)) rfl rfl rfl rfl
 rw [q0]; simp only [Option.bind_some,bI_add]; rw [wrap_i64 (n:=k + 1) (by omega) (by omega)]
 rw [m1.ia (esz:=8) hN rfl]; simp only [fa_ptr,Nat.zero_add,Option.bind_some]
 obtain ⟨H2,c2,q1,m2⟩:=m1.set (f:=1) (v:=.int .i64 (k + 1)) rfl rfl rfl rfl
 rw [q1]; simp only [Option.bind_some,bI_add]; rw [wrap_i64 (n:=k + 1 + 1) (by omega) (by omega)]
 rw [m2.ia (esz:=8) hN rfl]; simp only [fa_ptr,Nat.zero_add,Option.bind_some]
 obtain ⟨H3,c3,q2,m3⟩:=m2.set (f:=2) (v:=.int .i64 (k + 1 + 1)) rfl rfl rfl rfl
 rw [q2]; simp only [Option.bind_some,bI_add]; rw [wrap_i64 (n:=k + 1 + 1 + 1) (by omega) (by omega)]
 rw [m3.ia (esz:=8) hN rfl]; simp only [fa_ptr,Nat.zero_add,Option.bind_some]
 obtain ⟨H4,c4,q3,m4⟩:=m3.set (f:=3) (v:=.int .i64 (k + 1 + 1 + 1)) rfl rfl rfl rfl
 rw [q3]; simp only [Option.bind_some,bI_add]; rw [wrap_i64 (n:=k + 1 + 1 + 1 + 1) (by omega) (by omega)]
 rw [m4.ia (esz:=8) hN rfl]; simp only [fa_ptr,Nat.zero_add,Option.bind_some]
 obtain ⟨H5,c5,q4,m5⟩:=m4.set (f:=4) (v:=.int .i64 (k + 1 + 1 + 1 + 1)) rfl rfl rfl rfl
 rw [q4]; simp only [Option.bind_some,bI_add]; rw [wrap_i64 (n:=k + 1 + 1 + 1 + 1 + 1) (by omega) (by omega)]
 try simp only [readA_int,readA_bool,readA_str,readA_list,readA_sl0,readA_sl,readA_agg,readA_tup,call_pure,optAll_cons,optAll_nil,readT_int,Option.bind_some]
 rw [c79 _ (by omega)]; simp only [Option.bind_some]
 rw [m5.ia (esz:=8) hN rfl]; simp only [fa_ptr,Nat.zero_add,Option.bind_some]
 obtain ⟨H6,c6,q5,m6⟩:=m5.set (f:=5) (v:=.str (mtext (k + 1 + 1 + 1 + 1 + 1))) rfl rfl rfl rfl
 rw [q5]; simp only [Option.bind_some,bI_add]; rw [wrap_i64 (n:=k + 1 + 1 + 1 + 1 + 1 + 1) (by omega) (by omega)]
 rw [m6.ia (esz:=8) hN rfl]; simp only [fa_ptr,Nat.zero_add,Option.bind_some]
 obtain ⟨d6,D6,l6,r6,n6,u6⟩:=m6.get (f:=6) rfl rfl
 rw [l6]; simp only [Option.bind_some,call_raw]
 obtain ⟨H7,q6,R6,L6,F6⟩:=m153 _ _ _ _ _ (k + 1 + 1 + 1 + 1 + 1 + 1) r6 n6 (by omega) (by omega)
 rw [q6]; simp only [Option.bind_some]
 have m7:=u6 L6 F6 R6
 rw [m7.ia (esz:=8) hN rfl]; simp only [fa_ptr,Nat.zero_add,Option.bind_some]
 obtain ⟨d7,D7,l7,r7,n7,u7⟩:=m7.get (f:=7) rfl rfl
 rw [l7]; simp only [Option.bind_some,call_raw]
 obtain ⟨H8,q7,R7,L7,F7⟩:=m154 _ _ _ _ _ (k + 1 + 1 + 1 + 1 + 1 + 1 + (mkN STrap.marks x.Traps:Nat)) r7 n7 (by omega) (by omega)
 rw [q7]; simp only [Option.bind_some]
 have m8:=u7 L7 F7 R7
 try simp only [bI_add]
 rw [wrap_i64 (n:=((pre.length:Nat):Int) + 1) (by omega) (by omega)]; try simp only [Option.bind_some]
 refine ⟨H8,c6,?_,m8⟩
 have hk:k + 1 + 1 + 1 + 1 + 1 + 1 + (mkN STrap.marks x.Traps:Nat) + (mkN SFrame.marks x.Frames:Nat)=k + ((SMethod.marks x:Nat):Int):=by simp only [SMethod.marks]; omega
 first | rw [hk] | rfl
 rfl
theorem h92:HeldC E 92 SMethod.row SMethod.mark SMethod.marks:=by
 refine held_loop (fun x=>by simp only [SMethod.marks]; omega) (fun H d k=>by rw [e92]) (fun H rows k=>by rw [j92_2]; simp) fun l0 i x k hi hx hn h0 h1=>?_
 simp only [SMethod.marks] at h1
 have hlt:((i:Nat):Int) < (l0.length:Int):=by omega
 rw [j92_2]
 rw [Ev.ia_list (n:=(i:Int)) (by omega) (by simpa using hi) (by simp [rInt,rStr])]
 simp only [lnL_list,List.length_map,Option.bind_some,bI_lss,asB_bool,hlt,decide_true,cond_true,Int.toNat_natCast,List.getElem_map,hx,fa_el,ld_el,Nat.zero_add]
 rw [show part (SMethod.mark k x).row (0,1,false)=some (.int .i64 (k)) from rfl]; simp only [Option.bind_some]
 simp only [bI_neq,decide_true,Bool.not_true,Option.bind_some,asB_bool,cond_false,bI_add]
 rw [wrap_i64 (n:=k + 1) (by omega) (by omega)]; try simp only [Option.bind_some]
 try (rw [Ev.ia_list (n:=(i:Int)) (by omega) (by simpa using hi) (by simp [rInt,rStr])]; simp only [Option.bind_some,Int.toNat_natCast,List.getElem_map,hx,fa_el,ld_el,Nat.zero_add])
 rw [show part (SMethod.mark k x).row (1,1,false)=some (.int .i64 (k + 1)) from rfl]; simp only [Option.bind_some]
 simp only [bI_neq,decide_true,Bool.not_true,Option.bind_some,asB_bool,cond_false,bI_add]
 rw [wrap_i64 (n:=k + 1 + 1) (by omega) (by omega)]; try simp only [Option.bind_some]
 try (rw [Ev.ia_list (n:=(i:Int)) (by omega) (by simpa using hi) (by simp [rInt,rStr])]; simp only [Option.bind_some,Int.toNat_natCast,List.getElem_map,hx,fa_el,ld_el,Nat.zero_add])
 rw [show part (SMethod.mark k x).row (2,1,false)=some (.int .i64 (k + 1 + 1)) from rfl]; simp only [Option.bind_some]
 simp only [bI_neq,decide_true,Bool.not_true,Option.bind_some,asB_bool,cond_false,bI_add]
 rw [wrap_i64 (n:=k + 1 + 1 + 1) (by omega) (by omega)]; try simp only [Option.bind_some]
 try (rw [Ev.ia_list (n:=(i:Int)) (by omega) (by simpa using hi) (by simp [rInt,rStr])]; simp only [Option.bind_some,Int.toNat_natCast,List.getElem_map,hx,fa_el,ld_el,Nat.zero_add])
 rw [show part (SMethod.mark k x).row (3,1,false)=some (.int .i64 (k + 1 + 1 + 1)) from rfl]; simp only [Option.bind_some]
 simp only [bI_neq,decide_true,Bool.not_true,Option.bind_some,asB_bool,cond_false,bI_add]
 rw [wrap_i64 (n:=k + 1 + 1 + 1 + 1) (by omega) (by omega)]; try simp only [Option.bind_some]
 try (rw [Ev.ia_list (n:=(i:Int)) (by omega) (by simpa using hi) (by simp [rInt,rStr])]; simp only [Option.bind_some,Int.toNat_natCast,List.getElem_map,hx,fa_el,ld_el,Nat.zero_add])
 rw [show part (SMethod.mark k x).row (4,1,false)=some (.int .i64 (k + 1 + 1 + 1 + 1)) from rfl]; simp only [Option.bind_some]
 simp only [bI_neq,decide_true,Bool.not_true,Option.bind_some,asB_bool,cond_false,bI_add]
 rw [wrap_i64 (n:=k + 1 + 1 + 1 + 1 + 1) (by omega) (by omega)]; try simp only [Option.bind_some]
 try (rw [Ev.ia_list (n:=(i:Int)) (by omega) (by simpa using hi) (by simp [rInt,rStr])]; simp only [Option.bind_some,Int.toNat_natCast,List.getElem_map,hx,fa_el,ld_el,Nat.zero_add])
 rw [show part (SMethod.mark k x).row (5,1,false)=some (.str (mtext (k + 1 + 1 + 1 + 1 + 1))) from rfl]; simp only [Option.bind_some]
 try simp only [readA_int,readA_bool,readA_str,readA_list,readA_sl0,readA_sl,readA_agg,readA_tup,call_pure,optAll_cons,optAll_nil,readT_int,Option.bind_some]
 rw [c79 _ (by omega)]; simp only [Option.bind_some,bS_neq,decide_true,Bool.not_true,asB_bool,cond_false,bI_add]
 rw [wrap_i64 (n:=k + 1 + 1 + 1 + 1 + 1 + 1) (by omega) (by omega)]; try simp only [Option.bind_some]
 try (rw [Ev.ia_list (n:=(i:Int)) (by omega) (by simpa using hi) (by simp [rInt,rStr])]; simp only [Option.bind_some,Int.toNat_natCast,List.getElem_map,hx,fa_el,ld_el,Nat.zero_add])
 rw [show part (SMethod.mark k x).row (6,1,false)=some (.list ((mkL STrap.mark STrap.marks (k + 1 + 1 + 1 + 1 + 1 + 1) x.Traps).map STrap.row)) from rfl]; simp only [Option.bind_some]
 simp only [readA_int,readA_bool,readA_str,readA_list,readA_sl0,readA_sl,readA_agg,readA_tup,call_pure,optAll_cons,optAll_nil,readT_int,readT_list9,Option.bind_some]; rw [h155 _ _ (by omega) (by omega)]; simp only [Option.bind_some,bI_lss,asB_bool,show ¬ k + 1 + 1 + 1 + 1 + 1 + 1 + ((mkN STrap.marks x.Traps:Nat):Int) < 0 by omega,decide_false,cond_false]
 try (rw [Ev.ia_list (n:=(i:Int)) (by omega) (by simpa using hi) (by simp [rInt,rStr])]; simp only [Option.bind_some,Int.toNat_natCast,List.getElem_map,hx,fa_el,ld_el,Nat.zero_add])
 rw [show part (SMethod.mark k x).row (7,1,false)=some (.list ((mkL SFrame.mark SFrame.marks (k + 1 + 1 + 1 + 1 + 1 + 1 + (mkN STrap.marks x.Traps:Nat)) x.Frames).map SFrame.row)) from rfl]; simp only [Option.bind_some]
 simp only [readA_int,readA_bool,readA_str,readA_list,readA_sl0,readA_sl,readA_agg,readA_tup,call_pure,optAll_cons,optAll_nil,readT_int,readT_list9,Option.bind_some]; rw [h156 _ _ (by omega) (by omega)]; simp only [Option.bind_some,bI_lss,asB_bool,show ¬ k + 1 + 1 + 1 + 1 + 1 + 1 + (mkN STrap.marks x.Traps:Nat) + ((mkN SFrame.marks x.Frames:Nat):Int) < 0 by omega,decide_false,cond_false]
 try simp only [bI_add]
 rw [wrap_i64 (n:=((i:Nat):Int) + 1) (by omega) (by omega)]; try simp only [Option.bind_some]
 have hk:k + 1 + 1 + 1 + 1 + 1 + 1 + (mkN STrap.marks x.Traps:Nat) + (mkN SFrame.marks x.Frames:Nat)=k + ((SMethod.marks x:Nat):Int):=by simp only [SMethod.marks]; omega
 rw [hk]
 rfl
theorem m30:MarkC E 30 SFile.row SFile.mark SFile.marks:=by
 refine mark_loop (fun x=>by simp only [SFile.marks]; omega) (fun H d k=>by rw [e30]) (fun H k=>by rw [j30_2]; simp) (fun H b N k=>by rw [j30_2]; simp) fun lv H b N pre cs post B x k hN hNN m0 h0 h1=>?_
 simp only [SFile.marks] at h1
 have hlt:((pre.length:Nat):Int) < (N:Int):=by omega
 rw [j30_2]
 simp only [lnL_sl,Option.bind_some,bI_lss,asB_bool,hlt,decide_true,cond_true]
 try simp only [readA_int,readA_bool,readA_str,readA_list,readA_sl0,readA_sl,readA_agg,readA_tup,call_pure,optAll_cons,optAll_nil,readT_int,Option.bind_some]
 rw [c79 _ (by omega)]; simp only [Option.bind_some]
 rw [m0.ia (esz:=2) hN rfl]; simp only [fa_ptr,Nat.zero_add,Option.bind_some]
 obtain ⟨H1,c1,q0,m1⟩:=m0.set (f:=0) (v:=.str (mtext (k))) rfl rfl rfl rfl
 rw [q0]; simp only [Option.bind_some,bI_add]; rw [wrap_i64 (n:=k + 1) (by omega) (by omega)]
 try simp only [readA_int,readA_bool,readA_str,readA_list,readA_sl0,readA_sl,readA_agg,readA_tup,call_pure,optAll_cons,optAll_nil,readT_int,Option.bind_some]
 rw [c79 _ (by omega)]; simp only [Option.bind_some]
 rw [m1.ia (esz:=2) hN rfl]; simp only [fa_ptr,Nat.zero_add,Option.bind_some]
 obtain ⟨H2,c2,q1,m2⟩:=m1.set (f:=1) (v:=.str (mtext (k + 1))) rfl rfl rfl rfl
 rw [q1]; simp only [Option.bind_some,bI_add]; rw [wrap_i64 (n:=k + 1 + 1) (by omega) (by omega)]
 try simp only [bI_add]
 rw [wrap_i64 (n:=((pre.length:Nat):Int) + 1) (by omega) (by omega)]; try simp only [Option.bind_some]
 refine ⟨H2,c2,?_,m2⟩
 have hk:k + 1 + 1=k + ((SFile.marks x:Nat):Int):=by simp only [SFile.marks]; omega
 first | rw [hk] | rfl
 rfl
theorem h87:HeldC E 87 SFile.row SFile.mark SFile.marks:=by
 refine held_loop (fun x=>by simp only [SFile.marks]; omega) (fun H d k=>by rw [e87]) (fun H rows k=>by rw [j87_2]; simp) fun l0 i x k hi hx hn h0 h1=>?_
 simp only [SFile.marks] at h1
 have hlt:((i:Nat):Int) < (l0.length:Int):=by omega
 rw [j87_2]
 rw [Ev.ia_list (n:=(i:Int)) (by omega) (by simpa using hi) (by simp [rInt,rStr])]
 simp only [lnL_list,List.length_map,Option.bind_some,bI_lss,asB_bool,hlt,decide_true,cond_true,Int.toNat_natCast,List.getElem_map,hx,fa_el,ld_el,Nat.zero_add]
 rw [show part (SFile.mark k x).row (0,1,false)=some (.str (mtext (k))) from rfl]; simp only [Option.bind_some]
 try simp only [readA_int,readA_bool,readA_str,readA_list,readA_sl0,readA_sl,readA_agg,readA_tup,call_pure,optAll_cons,optAll_nil,readT_int,Option.bind_some]
 rw [c79 _ (by omega)]; simp only [Option.bind_some,bS_neq,decide_true,Bool.not_true,asB_bool,cond_false,bI_add]
 rw [wrap_i64 (n:=k + 1) (by omega) (by omega)]; try simp only [Option.bind_some]
 try (rw [Ev.ia_list (n:=(i:Int)) (by omega) (by simpa using hi) (by simp [rInt,rStr])]; simp only [Option.bind_some,Int.toNat_natCast,List.getElem_map,hx,fa_el,ld_el,Nat.zero_add])
 rw [show part (SFile.mark k x).row (1,1,false)=some (.str (mtext (k + 1))) from rfl]; simp only [Option.bind_some]
 try simp only [readA_int,readA_bool,readA_str,readA_list,readA_sl0,readA_sl,readA_agg,readA_tup,call_pure,optAll_cons,optAll_nil,readT_int,Option.bind_some]
 rw [c79 _ (by omega)]; simp only [Option.bind_some,bS_neq,decide_true,Bool.not_true,asB_bool,cond_false,bI_add]
 rw [wrap_i64 (n:=k + 1 + 1) (by omega) (by omega)]; try simp only [Option.bind_some]
 try simp only [bI_add]
 rw [wrap_i64 (n:=((i:Nat):Int) + 1) (by omega) (by omega)]; try simp only [Option.bind_some]
 have hk:k + 1 + 1=k + ((SFile.marks x:Nat):Int):=by simp only [SFile.marks]; omega
 rw [hk]
 rfl
theorem m31:MarkC E 31 SWay.row SWay.mark SWay.marks:=by
 refine mark_loop (fun x=>by simp only [SWay.marks]; omega) (fun H d k=>by rw [e31]) (fun H k=>by rw [j31_2]; simp) (fun H b N k=>by rw [j31_2]; simp) fun lv H b N pre cs post B x k hN hNN m0 h0 h1=>?_
 simp only [SWay.marks] at h1
 have hlt:((pre.length:Nat):Int) < (N:Int):=by omega
 rw [j31_2]
 simp only [lnL_sl,Option.bind_some,bI_lss,asB_bool,hlt,decide_true,cond_true]
 try simp only [readA_int,readA_bool,readA_str,readA_list,readA_sl0,readA_sl,readA_agg,readA_tup,call_pure,optAll_cons,optAll_nil,readT_int,Option.bind_some]
 rw [c79 _ (by omega)]; simp only [Option.bind_some]
 rw [m0.ia (esz:=2) hN rfl]; simp only [fa_ptr,Nat.zero_add,Option.bind_some]
 obtain ⟨H1,c1,q0,m1⟩:=m0.set (f:=0) (v:=.str (mtext (k))) rfl rfl rfl rfl
 rw [q0]; simp only [Option.bind_some,bI_add]; rw [wrap_i64 (n:=k + 1) (by omega) (by omega)]
 rw [m1.ia (esz:=2) hN rfl]; simp only [fa_ptr,Nat.zero_add,Option.bind_some]
 obtain ⟨H2,c2,q1,m2⟩:=m1.set (f:=1) (v:=.int .i64 (k + 1)) rfl rfl rfl rfl
 rw [q1]; simp only [Option.bind_some,bI_add]; rw [wrap_i64 (n:=k + 1 + 1) (by omega) (by omega)]
 try simp only [bI_add]
 rw [wrap_i64 (n:=((pre.length:Nat):Int) + 1) (by omega) (by omega)]; try simp only [Option.bind_some]
 refine ⟨H2,c2,?_,m2⟩
 have hk:k + 1 + 1=k + ((SWay.marks x:Nat):Int):=by simp only [SWay.marks]; omega
 first | rw [hk] | rfl
 rfl
theorem h88:HeldC E 88 SWay.row SWay.mark SWay.marks:=by
 refine held_loop (fun x=>by simp only [SWay.marks]; omega) (fun H d k=>by rw [e88]) (fun H rows k=>by rw [j88_2]; simp) fun l0 i x k hi hx hn h0 h1=>?_
 simp only [SWay.marks] at h1
 have hlt:((i:Nat):Int) < (l0.length:Int):=by omega
 rw [j88_2]
 rw [Ev.ia_list (n:=(i:Int)) (by omega) (by simpa using hi) (by simp [rInt,rStr])]
 simp only [lnL_list,List.length_map,Option.bind_some,bI_lss,asB_bool,hlt,decide_true,cond_true,Int.toNat_natCast,List.getElem_map,hx,fa_el,ld_el,Nat.zero_add]
 rw [show part (SWay.mark k x).row (0,1,false)=some (.str (mtext (k))) from rfl]; simp only [Option.bind_some]
 try simp only [readA_int,readA_bool,readA_str,readA_list,readA_sl0,readA_sl,readA_agg,readA_tup,call_pure,optAll_cons,optAll_nil,readT_int,Option.bind_some]
 rw [c79 _ (by omega)]; simp only [Option.bind_some,bS_neq,decide_true,Bool.not_true,asB_bool,cond_false,bI_add]
 rw [wrap_i64 (n:=k + 1) (by omega) (by omega)]; try simp only [Option.bind_some]
 try (rw [Ev.ia_list (n:=(i:Int)) (by omega) (by simpa using hi) (by simp [rInt,rStr])]; simp only [Option.bind_some,Int.toNat_natCast,List.getElem_map,hx,fa_el,ld_el,Nat.zero_add])
 rw [show part (SWay.mark k x).row (1,1,false)=some (.int .i64 (k + 1)) from rfl]; simp only [Option.bind_some]
 simp only [bI_neq,decide_true,Bool.not_true,Option.bind_some,asB_bool,cond_false,bI_add]
 rw [wrap_i64 (n:=k + 1 + 1) (by omega) (by omega)]; try simp only [Option.bind_some]
 try simp only [bI_add]
 rw [wrap_i64 (n:=((i:Nat):Int) + 1) (by omega) (by omega)]; try simp only [Option.bind_some]
 have hk:k + 1 + 1=k + ((SWay.marks x:Nat):Int):=by simp only [SWay.marks]; omega
 rw [hk]
 rfl
theorem m11:MarkC E 11 SLoader.row SLoader.mark SLoader.marks:=by
 refine mark_loop (fun x=>by simp only [SLoader.marks]; omega) (fun H d k=>by rw [e11]) (fun H k=>by rw [j11_2]; simp) (fun H b N k=>by rw [j11_2]; simp) fun lv H b N pre cs post B x k hN hNN m0 h0 h1=>?_
 simp only [SLoader.marks] at h1
 have hlt:((pre.length:Nat):Int) < (N:Int):=by omega
 rw [j11_2]
 simp only [lnL_sl,Option.bind_some,bI_lss,asB_bool,hlt,decide_true,cond_true]
 rw [m0.ia (esz:=3) hN rfl]; simp only [fa_ptr,Nat.zero_add,Option.bind_some]
 obtain ⟨d0,D0,l0,r0,n0,u0⟩:=m0.get (f:=0) rfl rfl
 rw [l0]; simp only [Option.bind_some,call_raw]
 obtain ⟨H1,q0,R0,L0,F0⟩:=m30 _ _ _ _ _ (k) r0 n0 (by omega) (by omega)
 rw [q0]; simp only [Option.bind_some]
 have m1:=u0 L0 F0 R0
 rw [m1.ia (esz:=3) hN rfl]; simp only [fa_ptr,Nat.zero_add,Option.bind_some]
 obtain ⟨d1,D1,l1,r1,n1,u1⟩:=m1.get (f:=1) rfl rfl
 rw [l1]; simp only [Option.bind_some,call_raw]
 obtain ⟨H2,q1,R1,L1,F1⟩:=m31 _ _ _ _ _ (k + (mkN SFile.marks x.Files:Nat)) r1 n1 (by omega) (by omega)
 rw [q1]; simp only [Option.bind_some]
 have m2:=u1 L1 F1 R1
 rw [m2.ia (esz:=3) hN rfl]; simp only [fa_ptr,Nat.zero_add,Option.bind_some]
 obtain ⟨H3,c3,q2,m3⟩:=m2.set (f:=2) (v:=.int .i64 (k + (mkN SFile.marks x.Files:Nat) + (mkN SWay.marks x.Ways:Nat))) rfl rfl rfl rfl
 rw [q2]; simp only [Option.bind_some,bI_add]; rw [wrap_i64 (n:=k + (mkN SFile.marks x.Files:Nat) + (mkN SWay.marks x.Ways:Nat) + 1) (by omega) (by omega)]
 try simp only [bI_add]
 rw [wrap_i64 (n:=((pre.length:Nat):Int) + 1) (by omega) (by omega)]; try simp only [Option.bind_some]
 refine ⟨H3,c3,?_,m3⟩
 have hk:k + (mkN SFile.marks x.Files:Nat) + (mkN SWay.marks x.Ways:Nat) + 1=k + ((SLoader.marks x:Nat):Int):=by simp only [SLoader.marks]; omega
 first | rw [hk] | rfl
 rfl
theorem h35:HeldC E 35 SLoader.row SLoader.mark SLoader.marks:=by
 refine held_loop (fun x=>by simp only [SLoader.marks]; omega) (fun H d k=>by rw [e35]) (fun H rows k=>by rw [j35_2]; simp) fun l0 i x k hi hx hn h0 h1=>?_
 simp only [SLoader.marks] at h1
 have hlt:((i:Nat):Int) < (l0.length:Int):=by omega
 rw [j35_2]
 rw [Ev.ia_list (n:=(i:Int)) (by omega) (by simpa using hi) (by simp [rInt,rStr])]
 simp only [lnL_list,List.length_map,Option.bind_some,bI_lss,asB_bool,hlt,decide_true,cond_true,Int.toNat_natCast,List.getElem_map,hx,fa_el,ld_el,Nat.zero_add]
 rw [show part (SLoader.mark k x).row (0,1,false)=some (.list ((mkL SFile.mark SFile.marks (k) x.Files).map SFile.row)) from rfl]; simp only [Option.bind_some]
 simp only [readA_int,readA_bool,readA_str,readA_list,readA_sl0,readA_sl,readA_agg,readA_tup,call_pure,optAll_cons,optAll_nil,readT_int,readT_list9,Option.bind_some]; rw [h87 _ _ (by omega) (by omega)]; simp only [Option.bind_some,bI_lss,asB_bool,show ¬ k + ((mkN SFile.marks x.Files:Nat):Int) < 0 by omega,decide_false,cond_false]
 try (rw [Ev.ia_list (n:=(i:Int)) (by omega) (by simpa using hi) (by simp [rInt,rStr])]; simp only [Option.bind_some,Int.toNat_natCast,List.getElem_map,hx,fa_el,ld_el,Nat.zero_add])
 rw [show part (SLoader.mark k x).row (1,1,false)=some (.list ((mkL SWay.mark SWay.marks (k + (mkN SFile.marks x.Files:Nat)) x.Ways).map SWay.row)) from rfl]; simp only [Option.bind_some]
 simp only [readA_int,readA_bool,readA_str,readA_list,readA_sl0,readA_sl,readA_agg,readA_tup,call_pure,optAll_cons,optAll_nil,readT_int,readT_list9,Option.bind_some]; rw [h88 _ _ (by omega) (by omega)]; simp only [Option.bind_some,bI_lss,asB_bool,show ¬ k + (mkN SFile.marks x.Files:Nat) + ((mkN SWay.marks x.Ways:Nat):Int) < 0 by omega,decide_false,cond_false]
 try (rw [Ev.ia_list (n:=(i:Int)) (by omega) (by simpa using hi) (by simp [rInt,rStr])]; simp only [Option.bind_some,Int.toNat_natCast,List.getElem_map,hx,fa_el,ld_el,Nat.zero_add])
 rw [show part (SLoader.mark k x).row (2,1,false)=some (.int .i64 (k + (mkN SFile.marks x.Files:Nat) + (mkN SWay.marks x.Ways:Nat))) from rfl]; simp only [Option.bind_some]
 simp only [bI_neq,decide_true,Bool.not_true,Option.bind_some,asB_bool,cond_false,bI_add]
 rw [wrap_i64 (n:=k + (mkN SFile.marks x.Files:Nat) + (mkN SWay.marks x.Ways:Nat) + 1) (by omega) (by omega)]; try simp only [Option.bind_some]
 try simp only [bI_add]
 rw [wrap_i64 (n:=((i:Nat):Int) + 1) (by omega) (by omega)]; try simp only [Option.bind_some]
 have hk:k + (mkN SFile.marks x.Files:Nat) + (mkN SWay.marks x.Ways:Nat) + 1=k + ((SLoader.marks x:Nat):Int):=by simp only [SLoader.marks]; omega
 rw [hk]
 rfl
theorem m33:MarkC E 33 SKnown.row SKnown.mark SKnown.marks:=by
 refine mark_loop (fun x=>by simp only [SKnown.marks]; omega) (fun H d k=>by rw [e33]) (fun H k=>by rw [j33_2]; simp) (fun H b N k=>by rw [j33_2]; simp) fun lv H b N pre cs post B x k hN hNN m0 h0 h1=>?_
 simp only [SKnown.marks] at h1
 have hlt:((pre.length:Nat):Int) < (N:Int):=by omega
 rw [j33_2]
 simp only [lnL_sl,Option.bind_some,bI_lss,asB_bool,hlt,decide_true,cond_true]
 rw [m0.ia (esz:=3) hN rfl]; simp only [fa_ptr,Nat.zero_add,Option.bind_some]
 obtain ⟨H1,c1,q0,m1⟩:=m0.set (f:=0) (v:=.int .i64 (k)) rfl rfl rfl rfl
 rw [q0]; simp only [Option.bind_some,bI_add]; rw [wrap_i64 (n:=k + 1) (by omega) (by omega)]
 try simp only [readA_int,readA_bool,readA_str,readA_list,readA_sl0,readA_sl,readA_agg,readA_tup,call_pure,optAll_cons,optAll_nil,readT_int,Option.bind_some]
 rw [c79 _ (by omega)]; simp only [Option.bind_some]
 rw [m1.ia (esz:=3) hN rfl]; simp only [fa_ptr,Nat.zero_add,Option.bind_some]
 obtain ⟨H2,c2,q1,m2⟩:=m1.set (f:=1) (v:=.str (mtext (k + 1))) rfl rfl rfl rfl
 rw [q1]; simp only [Option.bind_some,bI_add]; rw [wrap_i64 (n:=k + 1 + 1) (by omega) (by omega)]
 rw [m2.ia (esz:=3) hN rfl]; simp only [fa_ptr,Nat.zero_add,Option.bind_some]
 obtain ⟨H3,c3,q2,m3⟩:=m2.set (f:=2) (v:=.int .i64 (k + 1 + 1)) rfl rfl rfl rfl
 rw [q2]; simp only [Option.bind_some,bI_add]; rw [wrap_i64 (n:=k + 1 + 1 + 1) (by omega) (by omega)]
 try simp only [bI_add]
 rw [wrap_i64 (n:=((pre.length:Nat):Int) + 1) (by omega) (by omega)]; try simp only [Option.bind_some]
 refine ⟨H3,c3,?_,m3⟩
 have hk:k + 1 + 1 + 1=k + ((SKnown.marks x:Nat):Int):=by simp only [SKnown.marks]; omega
 first | rw [hk] | rfl
 rfl
theorem h37:HeldC E 37 SKnown.row SKnown.mark SKnown.marks:=by
 refine held_loop (fun x=>by simp only [SKnown.marks]; omega) (fun H d k=>by rw [e37]) (fun H rows k=>by rw [j37_2]; simp) fun l0 i x k hi hx hn h0 h1=>?_
 simp only [SKnown.marks] at h1
 have hlt:((i:Nat):Int) < (l0.length:Int):=by omega
 rw [j37_2]
 rw [Ev.ia_list (n:=(i:Int)) (by omega) (by simpa using hi) (by simp [rInt,rStr])]
 simp only [lnL_list,List.length_map,Option.bind_some,bI_lss,asB_bool,hlt,decide_true,cond_true,Int.toNat_natCast,List.getElem_map,hx,fa_el,ld_el,Nat.zero_add]
 rw [show part (SKnown.mark k x).row (0,1,false)=some (.int .i64 (k)) from rfl]; simp only [Option.bind_some]
 simp only [bI_neq,decide_true,Bool.not_true,Option.bind_some,asB_bool,cond_false,bI_add]
 rw [wrap_i64 (n:=k + 1) (by omega) (by omega)]; try simp only [Option.bind_some]
 try (rw [Ev.ia_list (n:=(i:Int)) (by omega) (by simpa using hi) (by simp [rInt,rStr])]; simp only [Option.bind_some,Int.toNat_natCast,List.getElem_map,hx,fa_el,ld_el,Nat.zero_add])
 rw [show part (SKnown.mark k x).row (1,1,false)=some (.str (mtext (k + 1))) from rfl]; simp only [Option.bind_some]
 try simp only [readA_int,readA_bool,readA_str,readA_list,readA_sl0,readA_sl,readA_agg,readA_tup,call_pure,optAll_cons,optAll_nil,readT_int,Option.bind_some]
 rw [c79 _ (by omega)]; simp only [Option.bind_some,bS_neq,decide_true,Bool.not_true,asB_bool,cond_false,bI_add]
 rw [wrap_i64 (n:=k + 1 + 1) (by omega) (by omega)]; try simp only [Option.bind_some]
 try (rw [Ev.ia_list (n:=(i:Int)) (by omega) (by simpa using hi) (by simp [rInt,rStr])]; simp only [Option.bind_some,Int.toNat_natCast,List.getElem_map,hx,fa_el,ld_el,Nat.zero_add])
 rw [show part (SKnown.mark k x).row (2,1,false)=some (.int .i64 (k + 1 + 1)) from rfl]; simp only [Option.bind_some]
 simp only [bI_neq,decide_true,Bool.not_true,Option.bind_some,asB_bool,cond_false,bI_add]
 rw [wrap_i64 (n:=k + 1 + 1 + 1) (by omega) (by omega)]; try simp only [Option.bind_some]
 try simp only [bI_add]
 rw [wrap_i64 (n:=((i:Nat):Int) + 1) (by omega) (by omega)]; try simp only [Option.bind_some]
 have hk:k + 1 + 1 + 1=k + ((SKnown.marks x:Nat):Int):=by simp only [SKnown.marks]; omega
 rw [hk]
 rfl
theorem m34:MarkC E 34 SBond.row SBond.mark SBond.marks:=by
 refine mark_loop (fun x=>by simp only [SBond.marks]; omega) (fun H d k=>by rw [e34]) (fun H k=>by rw [j34_2]; simp) (fun H b N k=>by rw [j34_2]; simp) fun lv H b N pre cs post B x k hN hNN m0 h0 h1=>?_
 simp only [SBond.marks] at h1
 have hlt:((pre.length:Nat):Int) < (N:Int):=by omega
 rw [j34_2]
 simp only [lnL_sl,Option.bind_some,bI_lss,asB_bool,hlt,decide_true,cond_true]
 try simp only [readA_int,readA_bool,readA_str,readA_list,readA_sl0,readA_sl,readA_agg,readA_tup,call_pure,optAll_cons,optAll_nil,readT_int,Option.bind_some]
 rw [c79 _ (by omega)]; simp only [Option.bind_some]
 rw [m0.ia (esz:=3) hN rfl]; simp only [fa_ptr,Nat.zero_add,Option.bind_some]
 obtain ⟨H1,c1,q0,m1⟩:=m0.set (f:=0) (v:=.str (mtext (k))) rfl rfl rfl rfl
 rw [q0]; simp only [Option.bind_some,bI_add]; rw [wrap_i64 (n:=k + 1) (by omega) (by omega)]
 rw [m1.ia (esz:=3) hN rfl]; simp only [fa_ptr,Nat.zero_add,Option.bind_some]
 obtain ⟨d1,D1,l1,r1,n1,u1⟩:=m1.get (f:=1) rfl rfl
 rw [l1]; simp only [Option.bind_some,call_raw]
 obtain ⟨H2,q1,R1,L1,F1⟩:=m81 _ _ _ _ _ (k + 1) r1 n1 (by omega) (by omega)
 rw [q1]; simp only [Option.bind_some]
 have m2:=u1 L1 F1 R1
 rw [m2.ia (esz:=3) hN rfl]; simp only [fa_ptr,Nat.zero_add,Option.bind_some]
 obtain ⟨H3,c3,q2,m3⟩:=m2.set (f:=2) (v:=.int .i64 (k + 1 + (mkN (fun _=>1) x.Loaders:Nat))) rfl rfl rfl rfl
 rw [q2]; simp only [Option.bind_some,bI_add]; rw [wrap_i64 (n:=k + 1 + (mkN (fun _=>1) x.Loaders:Nat) + 1) (by omega) (by omega)]
 try simp only [bI_add]
 rw [wrap_i64 (n:=((pre.length:Nat):Int) + 1) (by omega) (by omega)]; try simp only [Option.bind_some]
 refine ⟨H3,c3,?_,m3⟩
 have hk:k + 1 + (mkN (fun _=>1) x.Loaders:Nat) + 1=k + ((SBond.marks x:Nat):Int):=by simp only [SBond.marks]; omega
 first | rw [hk] | rfl
 rfl
theorem h38:HeldC E 38 SBond.row SBond.mark SBond.marks:=by
 refine held_loop (fun x=>by simp only [SBond.marks]; omega) (fun H d k=>by rw [e38]) (fun H rows k=>by rw [j38_2]; simp) fun l0 i x k hi hx hn h0 h1=>?_
 simp only [SBond.marks] at h1
 have hlt:((i:Nat):Int) < (l0.length:Int):=by omega
 rw [j38_2]
 rw [Ev.ia_list (n:=(i:Int)) (by omega) (by simpa using hi) (by simp [rInt,rStr])]
 simp only [lnL_list,List.length_map,Option.bind_some,bI_lss,asB_bool,hlt,decide_true,cond_true,Int.toNat_natCast,List.getElem_map,hx,fa_el,ld_el,Nat.zero_add]
 rw [show part (SBond.mark k x).row (0,1,false)=some (.str (mtext (k))) from rfl]; simp only [Option.bind_some]
 try simp only [readA_int,readA_bool,readA_str,readA_list,readA_sl0,readA_sl,readA_agg,readA_tup,call_pure,optAll_cons,optAll_nil,readT_int,Option.bind_some]
 rw [c79 _ (by omega)]; simp only [Option.bind_some,bS_neq,decide_true,Bool.not_true,asB_bool,cond_false,bI_add]
 rw [wrap_i64 (n:=k + 1) (by omega) (by omega)]; try simp only [Option.bind_some]
 try (rw [Ev.ia_list (n:=(i:Int)) (by omega) (by simpa using hi) (by simp [rInt,rStr])]; simp only [Option.bind_some,Int.toNat_natCast,List.getElem_map,hx,fa_el,ld_el,Nat.zero_add])
 rw [show part (SBond.mark k x).row (1,1,false)=some (.list ((mkL (fun k _=>k) (fun _=>1) (k + 1) x.Loaders).map rInt)) from rfl]; simp only [Option.bind_some]
 simp only [readA_int,readA_bool,readA_str,readA_list,readA_sl0,readA_sl,readA_agg,readA_tup,call_pure,optAll_cons,optAll_nil,readT_int,readT_list9,Option.bind_some]; rw [h90 _ _ (by omega) (by omega)]; simp only [Option.bind_some,bI_lss,asB_bool,show ¬ k + 1 + ((mkN (fun _=>1) x.Loaders:Nat):Int) < 0 by omega,decide_false,cond_false]
 try (rw [Ev.ia_list (n:=(i:Int)) (by omega) (by simpa using hi) (by simp [rInt,rStr])]; simp only [Option.bind_some,Int.toNat_natCast,List.getElem_map,hx,fa_el,ld_el,Nat.zero_add])
 rw [show part (SBond.mark k x).row (2,1,false)=some (.int .i64 (k + 1 + (mkN (fun _=>1) x.Loaders:Nat))) from rfl]; simp only [Option.bind_some]
 simp only [bI_neq,decide_true,Bool.not_true,Option.bind_some,asB_bool,cond_false,bI_add]
 rw [wrap_i64 (n:=k + 1 + (mkN (fun _=>1) x.Loaders:Nat) + 1) (by omega) (by omega)]; try simp only [Option.bind_some]
 try simp only [bI_add]
 rw [wrap_i64 (n:=((i:Nat):Int) + 1) (by omega) (by omega)]; try simp only [Option.bind_some]
 have hk:k + 1 + (mkN (fun _=>1) x.Loaders:Nat) + 1=k + ((SBond.marks x:Nat):Int):=by simp only [SBond.marks]; omega
 rw [hk]
 rfl
theorem m84:MarkC E 84 SSlot.row SSlot.mark SSlot.marks:=by
 refine mark_loop (fun x=>by simp only [SSlot.marks]; omega) (fun H d k=>by rw [e84]) (fun H k=>by rw [j84_2]; simp) (fun H b N k=>by rw [j84_2]; simp) fun lv H b N pre cs post B x k hN hNN m0 h0 h1=>?_
 simp only [SSlot.marks] at h1
 have hlt:((pre.length:Nat):Int) < (N:Int):=by omega
 rw [j84_2]
 simp only [lnL_sl,Option.bind_some,bI_lss,asB_bool,hlt,decide_true,cond_true]
 rw [m0.ia (esz:=2) hN rfl]; simp only [fa_ptr,Nat.zero_add,Option.bind_some]
 obtain ⟨H1,c1,q0,m1⟩:=m0.set (f:=0) (v:=.int .i64 (k)) rfl rfl rfl rfl
 rw [q0]; simp only [Option.bind_some,bI_add]; rw [wrap_i64 (n:=k + 1) (by omega) (by omega)]
 rw [m1.ia (esz:=2) hN rfl]; simp only [fa_ptr,Nat.zero_add,Option.bind_some]
 obtain ⟨H2,c2,q1,m2⟩:=m1.set (f:=1) (v:=.int .i64 (k + 1)) rfl rfl rfl rfl
 rw [q1]; simp only [Option.bind_some,bI_add]; rw [wrap_i64 (n:=k + 1 + 1) (by omega) (by omega)]
 try simp only [bI_add]
 rw [wrap_i64 (n:=((pre.length:Nat):Int) + 1) (by omega) (by omega)]; try simp only [Option.bind_some]
 refine ⟨H2,c2,?_,m2⟩
 have hk:k + 1 + 1=k + ((SSlot.marks x:Nat):Int):=by simp only [SSlot.marks]; omega
 first | rw [hk] | rfl
 rfl
theorem h93:HeldC E 93 SSlot.row SSlot.mark SSlot.marks:=by
 refine held_loop (fun x=>by simp only [SSlot.marks]; omega) (fun H d k=>by rw [e93]) (fun H rows k=>by rw [j93_2]; simp) fun l0 i x k hi hx hn h0 h1=>?_
 simp only [SSlot.marks] at h1
 have hlt:((i:Nat):Int) < (l0.length:Int):=by omega
 rw [j93_2]
 rw [Ev.ia_list (n:=(i:Int)) (by omega) (by simpa using hi) (by simp [rInt,rStr])]
 simp only [lnL_list,List.length_map,Option.bind_some,bI_lss,asB_bool,hlt,decide_true,cond_true,Int.toNat_natCast,List.getElem_map,hx,fa_el,ld_el,Nat.zero_add]
 rw [show part (SSlot.mark k x).row (0,1,false)=some (.int .i64 (k)) from rfl]; simp only [Option.bind_some]
 simp only [bI_neq,decide_true,Bool.not_true,Option.bind_some,asB_bool,cond_false,bI_add]
 rw [wrap_i64 (n:=k + 1) (by omega) (by omega)]; try simp only [Option.bind_some]
 try (rw [Ev.ia_list (n:=(i:Int)) (by omega) (by simpa using hi) (by simp [rInt,rStr])]; simp only [Option.bind_some,Int.toNat_natCast,List.getElem_map,hx,fa_el,ld_el,Nat.zero_add])
 rw [show part (SSlot.mark k x).row (1,1,false)=some (.int .i64 (k + 1)) from rfl]; simp only [Option.bind_some]
 simp only [bI_neq,decide_true,Bool.not_true,Option.bind_some,asB_bool,cond_false,bI_add]
 rw [wrap_i64 (n:=k + 1 + 1) (by omega) (by omega)]; try simp only [Option.bind_some]
 try simp only [bI_add]
 rw [wrap_i64 (n:=((i:Nat):Int) + 1) (by omega) (by omega)]; try simp only [Option.bind_some]
 have hk:k + 1 + 1=k + ((SSlot.marks x:Nat):Int):=by simp only [SSlot.marks]; omega
 rw [hk]
 rfl
theorem m85:MarkC E 85 SRow.row SRow.mark SRow.marks:=by
 refine mark_loop (fun x=>by simp only [SRow.marks]; omega) (fun H d k=>by rw [e85]) (fun H k=>by rw [j85_2]; simp) (fun H b N k=>by rw [j85_2]; simp) fun lv H b N pre cs post B x k hN hNN m0 h0 h1=>?_
 simp only [SRow.marks] at h1
 have hlt:((pre.length:Nat):Int) < (N:Int):=by omega
 rw [j85_2]
 simp only [lnL_sl,Option.bind_some,bI_lss,asB_bool,hlt,decide_true,cond_true]
 try simp only [readA_int,readA_bool,readA_str,readA_list,readA_sl0,readA_sl,readA_agg,readA_tup,call_pure,optAll_cons,optAll_nil,readT_int,Option.bind_some]
 rw [c79 _ (by omega)]; simp only [Option.bind_some]
 rw [m0.ia (esz:=4) hN rfl]; simp only [fa_ptr,Nat.zero_add,Option.bind_some]
 obtain ⟨H1,c1,q0,m1⟩:=m0.set (f:=0) (v:=.str (mtext (k))) rfl rfl rfl rfl
 rw [q0]; simp only [Option.bind_some,bI_add]; rw [wrap_i64 (n:=k + 1) (by omega) (by omega)]
 try simp only [readA_int,readA_bool,readA_str,readA_list,readA_sl0,readA_sl,readA_agg,readA_tup,call_pure,optAll_cons,optAll_nil,readT_int,Option.bind_some]
 rw [c79 _ (by omega)]; simp only [Option.bind_some]
 rw [m1.ia (esz:=4) hN rfl]; simp only [fa_ptr,Nat.zero_add,Option.bind_some]
 obtain ⟨H2,c2,q1,m2⟩:=m1.set (f:=1) (v:=.str (mtext (k + 1))) rfl rfl rfl rfl
 rw [q1]; simp only [Option.bind_some,bI_add]; rw [wrap_i64 (n:=k + 1 + 1) (by omega) (by omega)]
 rw [m2.ia (esz:=4) hN rfl]; simp only [fa_ptr,Nat.zero_add,Option.bind_some]
 obtain ⟨H3,c3,q2,m3⟩:=m2.set (f:=2) (v:=.int .i64 (k + 1 + 1)) rfl rfl rfl rfl
 rw [q2]; simp only [Option.bind_some,bI_add]; rw [wrap_i64 (n:=k + 1 + 1 + 1) (by omega) (by omega)]
 rw [m3.ia (esz:=4) hN rfl]; simp only [fa_ptr,Nat.zero_add,Option.bind_some]
 obtain ⟨H4,c4,q3,m4⟩:=m3.set (f:=3) (v:=.int .i64 (k + 1 + 1 + 1)) rfl rfl rfl rfl
 rw [q3]; simp only [Option.bind_some,bI_add]; rw [wrap_i64 (n:=k + 1 + 1 + 1 + 1) (by omega) (by omega)]
 try simp only [bI_add]
 rw [wrap_i64 (n:=((pre.length:Nat):Int) + 1) (by omega) (by omega)]; try simp only [Option.bind_some]
 refine ⟨H4,c4,?_,m4⟩
 have hk:k + 1 + 1 + 1 + 1=k + ((SRow.marks x:Nat):Int):=by simp only [SRow.marks]; omega
 first | rw [hk] | rfl
 rfl
theorem h94:HeldC E 94 SRow.row SRow.mark SRow.marks:=by
 refine held_loop (fun x=>by simp only [SRow.marks]; omega) (fun H d k=>by rw [e94]) (fun H rows k=>by rw [j94_2]; simp) fun l0 i x k hi hx hn h0 h1=>?_
 simp only [SRow.marks] at h1
 have hlt:((i:Nat):Int) < (l0.length:Int):=by omega
 rw [j94_2]
 rw [Ev.ia_list (n:=(i:Int)) (by omega) (by simpa using hi) (by simp [rInt,rStr])]
 simp only [lnL_list,List.length_map,Option.bind_some,bI_lss,asB_bool,hlt,decide_true,cond_true,Int.toNat_natCast,List.getElem_map,hx,fa_el,ld_el,Nat.zero_add]
 rw [show part (SRow.mark k x).row (0,1,false)=some (.str (mtext (k))) from rfl]; simp only [Option.bind_some]
 try simp only [readA_int,readA_bool,readA_str,readA_list,readA_sl0,readA_sl,readA_agg,readA_tup,call_pure,optAll_cons,optAll_nil,readT_int,Option.bind_some]
 rw [c79 _ (by omega)]; simp only [Option.bind_some,bS_neq,decide_true,Bool.not_true,asB_bool,cond_false,bI_add]
 rw [wrap_i64 (n:=k + 1) (by omega) (by omega)]; try simp only [Option.bind_some]
 try (rw [Ev.ia_list (n:=(i:Int)) (by omega) (by simpa using hi) (by simp [rInt,rStr])]; simp only [Option.bind_some,Int.toNat_natCast,List.getElem_map,hx,fa_el,ld_el,Nat.zero_add])
 rw [show part (SRow.mark k x).row (1,1,false)=some (.str (mtext (k + 1))) from rfl]; simp only [Option.bind_some]
 try simp only [readA_int,readA_bool,readA_str,readA_list,readA_sl0,readA_sl,readA_agg,readA_tup,call_pure,optAll_cons,optAll_nil,readT_int,Option.bind_some]
 rw [c79 _ (by omega)]; simp only [Option.bind_some,bS_neq,decide_true,Bool.not_true,asB_bool,cond_false,bI_add]
 rw [wrap_i64 (n:=k + 1 + 1) (by omega) (by omega)]; try simp only [Option.bind_some]
 try (rw [Ev.ia_list (n:=(i:Int)) (by omega) (by simpa using hi) (by simp [rInt,rStr])]; simp only [Option.bind_some,Int.toNat_natCast,List.getElem_map,hx,fa_el,ld_el,Nat.zero_add])
 rw [show part (SRow.mark k x).row (2,1,false)=some (.int .i64 (k + 1 + 1)) from rfl]; simp only [Option.bind_some]
 simp only [bI_neq,decide_true,Bool.not_true,Option.bind_some,asB_bool,cond_false,bI_add]
 rw [wrap_i64 (n:=k + 1 + 1 + 1) (by omega) (by omega)]; try simp only [Option.bind_some]
 try (rw [Ev.ia_list (n:=(i:Int)) (by omega) (by simpa using hi) (by simp [rInt,rStr])]; simp only [Option.bind_some,Int.toNat_natCast,List.getElem_map,hx,fa_el,ld_el,Nat.zero_add])
 rw [show part (SRow.mark k x).row (3,1,false)=some (.int .i64 (k + 1 + 1 + 1)) from rfl]; simp only [Option.bind_some]
 simp only [bI_neq,decide_true,Bool.not_true,Option.bind_some,asB_bool,cond_false,bI_add]
 rw [wrap_i64 (n:=k + 1 + 1 + 1 + 1) (by omega) (by omega)]; try simp only [Option.bind_some]
 try simp only [bI_add]
 rw [wrap_i64 (n:=((i:Nat):Int) + 1) (by omega) (by omega)]; try simp only [Option.bind_some]
 have hk:k + 1 + 1 + 1 + 1=k + ((SRow.marks x:Nat):Int):=by simp only [SRow.marks]; omega
 rw [hk]
 rfl
theorem m86:MarkC E 86 SVal.row SVal.mark SVal.marks:=by
 refine mark_loop (fun x=>by simp only [SVal.marks]; omega) (fun H d k=>by rw [e86]) (fun H k=>by rw [j86_2]; simp) (fun H b N k=>by rw [j86_2]; simp) fun lv H b N pre cs post B x k hN hNN m0 h0 h1=>?_
 simp only [SVal.marks] at h1
 have hlt:((pre.length:Nat):Int) < (N:Int):=by omega
 rw [j86_2]
 simp only [lnL_sl,Option.bind_some,bI_lss,asB_bool,hlt,decide_true,cond_true]
 rw [m0.ia (esz:=2) hN rfl]; simp only [fa_ptr,Nat.zero_add,Option.bind_some]
 obtain ⟨H1,c1,q0,m1⟩:=m0.set (f:=0) (v:=.int .i64 (k)) rfl rfl rfl rfl
 rw [q0]; simp only [Option.bind_some,bI_add]; rw [wrap_i64 (n:=k + 1) (by omega) (by omega)]
 rw [m1.ia (esz:=2) hN rfl]; simp only [fa_ptr,Nat.zero_add,Option.bind_some]
 obtain ⟨H2,c2,q1,m2⟩:=m1.set (f:=1) (v:=.int .i64 (k + 1)) rfl rfl rfl rfl
 rw [q1]; simp only [Option.bind_some,bI_add]; rw [wrap_i64 (n:=k + 1 + 1) (by omega) (by omega)]
 try simp only [bI_add]
 rw [wrap_i64 (n:=((pre.length:Nat):Int) + 1) (by omega) (by omega)]; try simp only [Option.bind_some]
 refine ⟨H2,c2,?_,m2⟩
 have hk:k + 1 + 1=k + ((SVal.marks x:Nat):Int):=by simp only [SVal.marks]; omega
 first | rw [hk] | rfl
 rfl
theorem h95:HeldC E 95 SVal.row SVal.mark SVal.marks:=by
 refine held_loop (fun x=>by simp only [SVal.marks]; omega) (fun H d k=>by rw [e95]) (fun H rows k=>by rw [j95_2]; simp) fun l0 i x k hi hx hn h0 h1=>?_
 simp only [SVal.marks] at h1
 have hlt:((i:Nat):Int) < (l0.length:Int):=by omega
 rw [j95_2]
 rw [Ev.ia_list (n:=(i:Int)) (by omega) (by simpa using hi) (by simp [rInt,rStr])]
 simp only [lnL_list,List.length_map,Option.bind_some,bI_lss,asB_bool,hlt,decide_true,cond_true,Int.toNat_natCast,List.getElem_map,hx,fa_el,ld_el,Nat.zero_add]
 rw [show part (SVal.mark k x).row (0,1,false)=some (.int .i64 (k)) from rfl]; simp only [Option.bind_some]
 simp only [bI_neq,decide_true,Bool.not_true,Option.bind_some,asB_bool,cond_false,bI_add]
 rw [wrap_i64 (n:=k + 1) (by omega) (by omega)]; try simp only [Option.bind_some]
 try (rw [Ev.ia_list (n:=(i:Int)) (by omega) (by simpa using hi) (by simp [rInt,rStr])]; simp only [Option.bind_some,Int.toNat_natCast,List.getElem_map,hx,fa_el,ld_el,Nat.zero_add])
 rw [show part (SVal.mark k x).row (1,1,false)=some (.int .i64 (k + 1)) from rfl]; simp only [Option.bind_some]
 simp only [bI_neq,decide_true,Bool.not_true,Option.bind_some,asB_bool,cond_false,bI_add]
 rw [wrap_i64 (n:=k + 1 + 1) (by omega) (by omega)]; try simp only [Option.bind_some]
 try simp only [bI_add]
 rw [wrap_i64 (n:=((i:Nat):Int) + 1) (by omega) (by omega)]; try simp only [Option.bind_some]
 have hk:k + 1 + 1=k + ((SVal.marks x:Nat):Int):=by simp only [SVal.marks]; omega
 rw [hk]
 rfl
theorem m32:MarkC E 32 SCls.row SCls.mark SCls.marks:=by
 refine mark_loop (fun x=>by simp only [SCls.marks]; omega) (fun H d k=>by rw [e32]) (fun H k=>by rw [j32_2]; simp) (fun H b N k=>by rw [j32_2]; simp) fun lv H b N pre cs post B x k hN hNN m0 h0 h1=>?_
 simp only [SCls.marks] at h1
 have hlt:((pre.length:Nat):Int) < (N:Int):=by omega
 rw [j32_2]
 simp only [lnL_sl,Option.bind_some,bI_lss,asB_bool,hlt,decide_true,cond_true]
 try simp only [readA_int,readA_bool,readA_str,readA_list,readA_sl0,readA_sl,readA_agg,readA_tup,call_pure,optAll_cons,optAll_nil,readT_int,Option.bind_some]
 rw [c79 _ (by omega)]; simp only [Option.bind_some]
 rw [m0.ia (esz:=16) hN rfl]; simp only [fa_ptr,Nat.zero_add,Option.bind_some]
 obtain ⟨H1,c1,q0,m1⟩:=m0.set (f:=0) (v:=.str (mtext (k))) rfl rfl rfl rfl
 rw [q0]; simp only [Option.bind_some,bI_add]; rw [wrap_i64 (n:=k + 1) (by omega) (by omega)]
 rw [m1.ia (esz:=16) hN rfl]; simp only [fa_ptr,Nat.zero_add,Option.bind_some]
 obtain ⟨H2,c2,q1,m2⟩:=m1.set (f:=1) (v:=.int .i64 (k + 1)) rfl rfl rfl rfl
 rw [q1]; simp only [Option.bind_some,bI_add]; rw [wrap_i64 (n:=k + 1 + 1) (by omega) (by omega)]
 rw [m2.ia (esz:=16) hN rfl]; simp only [fa_ptr,Nat.zero_add,Option.bind_some]
 obtain ⟨d2,D2,l2,r2,n2,u2⟩:=m2.get (f:=2) rfl rfl
 rw [l2]; simp only [Option.bind_some,call_raw]
 obtain ⟨H3,q2,R2,L2,F2⟩:=m80 _ _ _ _ _ (k + 1 + 1) r2 n2 (by omega) (by omega)
 rw [q2]; simp only [Option.bind_some]
 have m3:=u2 L2 F2 R2
 rw [m3.ia (esz:=16) hN rfl]; simp only [fa_ptr,Nat.zero_add,Option.bind_some]
 obtain ⟨H4,c4,q3,m4⟩:=m3.set (f:=3) (v:=.int .i64 (k + 1 + 1 + (mkN SConst.marks x.File.Pool:Nat))) rfl rfl rfl rfl
 rw [q3]; simp only [Option.bind_some,bI_add]; rw [wrap_i64 (n:=k + 1 + 1 + (mkN SConst.marks x.File.Pool:Nat) + 1) (by omega) (by omega)]
 rw [m4.ia (esz:=16) hN rfl]; simp only [fa_ptr,Nat.zero_add,Option.bind_some]
 obtain ⟨H5,c5,q4,m5⟩:=m4.set (f:=4) (v:=.int .i64 (k + 1 + 1 + (mkN SConst.marks x.File.Pool:Nat) + 1)) rfl rfl rfl rfl
 rw [q4]; simp only [Option.bind_some,bI_add]; rw [wrap_i64 (n:=k + 1 + 1 + (mkN SConst.marks x.File.Pool:Nat) + 1 + 1) (by omega) (by omega)]
 rw [m5.ia (esz:=16) hN rfl]; simp only [fa_ptr,Nat.zero_add,Option.bind_some]
 obtain ⟨H6,c6,q5,m6⟩:=m5.set (f:=5) (v:=.int .i64 (k + 1 + 1 + (mkN SConst.marks x.File.Pool:Nat) + 1 + 1)) rfl rfl rfl rfl
 rw [q5]; simp only [Option.bind_some,bI_add]; rw [wrap_i64 (n:=k + 1 + 1 + (mkN SConst.marks x.File.Pool:Nat) + 1 + 1 + 1) (by omega) (by omega)]
 rw [m6.ia (esz:=16) hN rfl]; simp only [fa_ptr,Nat.zero_add,Option.bind_some]
 obtain ⟨d6,D6,l6,r6,n6,u6⟩:=m6.get (f:=6) rfl rfl
 rw [l6]; simp only [Option.bind_some,call_raw]
 obtain ⟨H7,q6,R6,L6,F6⟩:=m81 _ _ _ _ _ (k + 1 + 1 + (mkN SConst.marks x.File.Pool:Nat) + 1 + 1 + 1) r6 n6 (by omega) (by omega)
 rw [q6]; simp only [Option.bind_some]
 have m7:=u6 L6 F6 R6
 rw [m7.ia (esz:=16) hN rfl]; simp only [fa_ptr,Nat.zero_add,Option.bind_some]
 obtain ⟨d7,D7,l7,r7,n7,u7⟩:=m7.get (f:=7) rfl rfl
 rw [l7]; simp only [Option.bind_some,call_raw]
 obtain ⟨H8,q7,R7,L7,F7⟩:=m82 _ _ _ _ _ (k + 1 + 1 + (mkN SConst.marks x.File.Pool:Nat) + 1 + 1 + 1 + (mkN (fun _=>1) x.File.Faces:Nat)) r7 n7 (by omega) (by omega)
 rw [q7]; simp only [Option.bind_some]
 have m8:=u7 L7 F7 R7
 rw [m8.ia (esz:=16) hN rfl]; simp only [fa_ptr,Nat.zero_add,Option.bind_some]
 obtain ⟨d8,D8,l8,r8,n8,u8⟩:=m8.get (f:=8) rfl rfl
 rw [l8]; simp only [Option.bind_some,call_raw]
 obtain ⟨H9,q8,R8,L8,F8⟩:=m83 _ _ _ _ _ (k + 1 + 1 + (mkN SConst.marks x.File.Pool:Nat) + 1 + 1 + 1 + (mkN (fun _=>1) x.File.Faces:Nat) + (mkN SField.marks x.File.Fields:Nat)) r8 n8 (by omega) (by omega)
 rw [q8]; simp only [Option.bind_some]
 have m9:=u8 L8 F8 R8
 rw [m9.ia (esz:=16) hN rfl]; simp only [fa_ptr,Nat.zero_add,Option.bind_some]
 obtain ⟨H10,c10,q9,m10⟩:=m9.set (f:=9) (v:=.int .i64 (k + 1 + 1 + (mkN SConst.marks x.File.Pool:Nat) + 1 + 1 + 1 + (mkN (fun _=>1) x.File.Faces:Nat) + (mkN SField.marks x.File.Fields:Nat) + (mkN SMethod.marks x.File.Methods:Nat))) rfl rfl rfl rfl
 rw [q9]; simp only [Option.bind_some,bI_add]; rw [wrap_i64 (n:=k + 1 + 1 + (mkN SConst.marks x.File.Pool:Nat) + 1 + 1 + 1 + (mkN (fun _=>1) x.File.Faces:Nat) + (mkN SField.marks x.File.Fields:Nat) + (mkN SMethod.marks x.File.Methods:Nat) + 1) (by omega) (by omega)]
 rw [m10.ia (esz:=16) hN rfl]; simp only [fa_ptr,Nat.zero_add,Option.bind_some]
 obtain ⟨d10,D10,l10,r10,n10,u10⟩:=m10.get (f:=10) rfl rfl
 rw [l10]; simp only [Option.bind_some,call_raw]
 obtain ⟨H11,q10,R10,L10,F10⟩:=m81 _ _ _ _ _ (k + 1 + 1 + (mkN SConst.marks x.File.Pool:Nat) + 1 + 1 + 1 + (mkN (fun _=>1) x.File.Faces:Nat) + (mkN SField.marks x.File.Fields:Nat) + (mkN SMethod.marks x.File.Methods:Nat) + 1) r10 n10 (by omega) (by omega)
 rw [q10]; simp only [Option.bind_some]
 have m11:=u10 L10 F10 R10
 rw [m11.ia (esz:=16) hN rfl]; simp only [fa_ptr,Nat.zero_add,Option.bind_some]
 obtain ⟨H12,c12,q11,m12⟩:=m11.set (f:=11) (v:=.int .i64 (k + 1 + 1 + (mkN SConst.marks x.File.Pool:Nat) + 1 + 1 + 1 + (mkN (fun _=>1) x.File.Faces:Nat) + (mkN SField.marks x.File.Fields:Nat) + (mkN SMethod.marks x.File.Methods:Nat) + 1 + (mkN (fun _=>1) x.Faces:Nat))) rfl rfl rfl rfl
 rw [q11]; simp only [Option.bind_some,bI_add]; rw [wrap_i64 (n:=k + 1 + 1 + (mkN SConst.marks x.File.Pool:Nat) + 1 + 1 + 1 + (mkN (fun _=>1) x.File.Faces:Nat) + (mkN SField.marks x.File.Fields:Nat) + (mkN SMethod.marks x.File.Methods:Nat) + 1 + (mkN (fun _=>1) x.Faces:Nat) + 1) (by omega) (by omega)]
 rw [m12.ia (esz:=16) hN rfl]; simp only [fa_ptr,Nat.zero_add,Option.bind_some]
 obtain ⟨H13,c13,q12,m13⟩:=m12.set (f:=12) (v:=.int .i64 (k + 1 + 1 + (mkN SConst.marks x.File.Pool:Nat) + 1 + 1 + 1 + (mkN (fun _=>1) x.File.Faces:Nat) + (mkN SField.marks x.File.Fields:Nat) + (mkN SMethod.marks x.File.Methods:Nat) + 1 + (mkN (fun _=>1) x.Faces:Nat) + 1)) rfl rfl rfl rfl
 rw [q12]; simp only [Option.bind_some,bI_add]; rw [wrap_i64 (n:=k + 1 + 1 + (mkN SConst.marks x.File.Pool:Nat) + 1 + 1 + 1 + (mkN (fun _=>1) x.File.Faces:Nat) + (mkN SField.marks x.File.Fields:Nat) + (mkN SMethod.marks x.File.Methods:Nat) + 1 + (mkN (fun _=>1) x.Faces:Nat) + 1 + 1) (by omega) (by omega)]
 rw [m13.ia (esz:=16) hN rfl]; simp only [fa_ptr,Nat.zero_add,Option.bind_some]
 obtain ⟨d13,D13,l13,r13,n13,u13⟩:=m13.get (f:=13) rfl rfl
 rw [l13]; simp only [Option.bind_some,call_raw]
 obtain ⟨H14,q13,R13,L13,F13⟩:=m84 _ _ _ _ _ (k + 1 + 1 + (mkN SConst.marks x.File.Pool:Nat) + 1 + 1 + 1 + (mkN (fun _=>1) x.File.Faces:Nat) + (mkN SField.marks x.File.Fields:Nat) + (mkN SMethod.marks x.File.Methods:Nat) + 1 + (mkN (fun _=>1) x.Faces:Nat) + 1 + 1) r13 n13 (by omega) (by omega)
 rw [q13]; simp only [Option.bind_some]
 have m14:=u13 L13 F13 R13
 rw [m14.ia (esz:=16) hN rfl]; simp only [fa_ptr,Nat.zero_add,Option.bind_some]
 obtain ⟨d14,D14,l14,r14,n14,u14⟩:=m14.get (f:=14) rfl rfl
 rw [l14]; simp only [Option.bind_some,call_raw]
 obtain ⟨H15,q14,R14,L14,F14⟩:=m85 _ _ _ _ _ (k + 1 + 1 + (mkN SConst.marks x.File.Pool:Nat) + 1 + 1 + 1 + (mkN (fun _=>1) x.File.Faces:Nat) + (mkN SField.marks x.File.Fields:Nat) + (mkN SMethod.marks x.File.Methods:Nat) + 1 + (mkN (fun _=>1) x.Faces:Nat) + 1 + 1 + (mkN SSlot.marks x.Slots:Nat)) r14 n14 (by omega) (by omega)
 rw [q14]; simp only [Option.bind_some]
 have m15:=u14 L14 F14 R14
 rw [m15.ia (esz:=16) hN rfl]; simp only [fa_ptr,Nat.zero_add,Option.bind_some]
 obtain ⟨d15,D15,l15,r15,n15,u15⟩:=m15.get (f:=15) rfl rfl
 rw [l15]; simp only [Option.bind_some,call_raw]
 obtain ⟨H16,q15,R15,L15,F15⟩:=m86 _ _ _ _ _ (k + 1 + 1 + (mkN SConst.marks x.File.Pool:Nat) + 1 + 1 + 1 + (mkN (fun _=>1) x.File.Faces:Nat) + (mkN SField.marks x.File.Fields:Nat) + (mkN SMethod.marks x.File.Methods:Nat) + 1 + (mkN (fun _=>1) x.Faces:Nat) + 1 + 1 + (mkN SSlot.marks x.Slots:Nat) + (mkN SRow.marks x.Rows:Nat)) r15 n15 (by omega) (by omega)
 rw [q15]; simp only [Option.bind_some]
 have m16:=u15 L15 F15 R15
 try simp only [bI_add]
 rw [wrap_i64 (n:=((pre.length:Nat):Int) + 1) (by omega) (by omega)]; try simp only [Option.bind_some]
 refine ⟨H16,c13,?_,m16⟩
 have hk:k + 1 + 1 + (mkN SConst.marks x.File.Pool:Nat) + 1 + 1 + 1 + (mkN (fun _=>1) x.File.Faces:Nat) + (mkN SField.marks x.File.Fields:Nat) + (mkN SMethod.marks x.File.Methods:Nat) + 1 + (mkN (fun _=>1) x.Faces:Nat) + 1 + 1 + (mkN SSlot.marks x.Slots:Nat) + (mkN SRow.marks x.Rows:Nat) + (mkN SVal.marks x.Statics:Nat)=k + ((SCls.marks x:Nat):Int):=by simp only [SCls.marks]; omega
 first | rw [hk] | rfl
 rfl
theorem h36:HeldC E 36 SCls.row SCls.mark SCls.marks:=by
 refine held_loop (fun x=>by simp only [SCls.marks]; omega) (fun H d k=>by rw [e36]) (fun H rows k=>by rw [j36_2]; simp) fun l0 i x k hi hx hn h0 h1=>?_
 simp only [SCls.marks] at h1
 have hlt:((i:Nat):Int) < (l0.length:Int):=by omega
 rw [j36_2]
 rw [Ev.ia_list (n:=(i:Int)) (by omega) (by simpa using hi) (by simp [rInt,rStr])]
 simp only [lnL_list,List.length_map,Option.bind_some,bI_lss,asB_bool,hlt,decide_true,cond_true,Int.toNat_natCast,List.getElem_map,hx,fa_el,ld_el,Nat.zero_add]
 rw [show part (SCls.mark k x).row (0,1,false)=some (.str (mtext (k))) from rfl]; simp only [Option.bind_some]
 try simp only [readA_int,readA_bool,readA_str,readA_list,readA_sl0,readA_sl,readA_agg,readA_tup,call_pure,optAll_cons,optAll_nil,readT_int,Option.bind_some]
 rw [c79 _ (by omega)]; simp only [Option.bind_some,bS_neq,decide_true,Bool.not_true,asB_bool,cond_false,bI_add]
 rw [wrap_i64 (n:=k + 1) (by omega) (by omega)]; try simp only [Option.bind_some]
 try (rw [Ev.ia_list (n:=(i:Int)) (by omega) (by simpa using hi) (by simp [rInt,rStr])]; simp only [Option.bind_some,Int.toNat_natCast,List.getElem_map,hx,fa_el,ld_el,Nat.zero_add])
 rw [show part (SCls.mark k x).row (1,1,false)=some (.int .i64 (k + 1)) from rfl]; simp only [Option.bind_some]
 simp only [bI_neq,decide_true,Bool.not_true,Option.bind_some,asB_bool,cond_false,bI_add]
 rw [wrap_i64 (n:=k + 1 + 1) (by omega) (by omega)]; try simp only [Option.bind_some]
 try (rw [Ev.ia_list (n:=(i:Int)) (by omega) (by simpa using hi) (by simp [rInt,rStr])]; simp only [Option.bind_some,Int.toNat_natCast,List.getElem_map,hx,fa_el,ld_el,Nat.zero_add])
 rw [show part (SCls.mark k x).row (2,1,false)=some (.list ((mkL SConst.mark SConst.marks (k + 1 + 1) x.File.Pool).map SConst.row)) from rfl]; simp only [Option.bind_some]
 simp only [readA_int,readA_bool,readA_str,readA_list,readA_sl0,readA_sl,readA_agg,readA_tup,call_pure,optAll_cons,optAll_nil,readT_int,readT_list9,Option.bind_some]; rw [h89 _ _ (by omega) (by omega)]; simp only [Option.bind_some,bI_lss,asB_bool,show ¬ k + 1 + 1 + ((mkN SConst.marks x.File.Pool:Nat):Int) < 0 by omega,decide_false,cond_false]
 try (rw [Ev.ia_list (n:=(i:Int)) (by omega) (by simpa using hi) (by simp [rInt,rStr])]; simp only [Option.bind_some,Int.toNat_natCast,List.getElem_map,hx,fa_el,ld_el,Nat.zero_add])
 rw [show part (SCls.mark k x).row (3,1,false)=some (.int .i64 (k + 1 + 1 + (mkN SConst.marks x.File.Pool:Nat))) from rfl]; simp only [Option.bind_some]
 simp only [bI_neq,decide_true,Bool.not_true,Option.bind_some,asB_bool,cond_false,bI_add]
 rw [wrap_i64 (n:=k + 1 + 1 + (mkN SConst.marks x.File.Pool:Nat) + 1) (by omega) (by omega)]; try simp only [Option.bind_some]
 try (rw [Ev.ia_list (n:=(i:Int)) (by omega) (by simpa using hi) (by simp [rInt,rStr])]; simp only [Option.bind_some,Int.toNat_natCast,List.getElem_map,hx,fa_el,ld_el,Nat.zero_add])
 rw [show part (SCls.mark k x).row (4,1,false)=some (.int .i64 (k + 1 + 1 + (mkN SConst.marks x.File.Pool:Nat) + 1)) from rfl]; simp only [Option.bind_some]
 simp only [bI_neq,decide_true,Bool.not_true,Option.bind_some,asB_bool,cond_false,bI_add]
 rw [wrap_i64 (n:=k + 1 + 1 + (mkN SConst.marks x.File.Pool:Nat) + 1 + 1) (by omega) (by omega)]; try simp only [Option.bind_some]
 try (rw [Ev.ia_list (n:=(i:Int)) (by omega) (by simpa using hi) (by simp [rInt,rStr])]; simp only [Option.bind_some,Int.toNat_natCast,List.getElem_map,hx,fa_el,ld_el,Nat.zero_add])
 rw [show part (SCls.mark k x).row (5,1,false)=some (.int .i64 (k + 1 + 1 + (mkN SConst.marks x.File.Pool:Nat) + 1 + 1)) from rfl]; simp only [Option.bind_some]
 simp only [bI_neq,decide_true,Bool.not_true,Option.bind_some,asB_bool,cond_false,bI_add]
 rw [wrap_i64 (n:=k + 1 + 1 + (mkN SConst.marks x.File.Pool:Nat) + 1 + 1 + 1) (by omega) (by omega)]; try simp only [Option.bind_some]
 try (rw [Ev.ia_list (n:=(i:Int)) (by omega) (by simpa using hi) (by simp [rInt,rStr])]; simp only [Option.bind_some,Int.toNat_natCast,List.getElem_map,hx,fa_el,ld_el,Nat.zero_add])
 rw [show part (SCls.mark k x).row (6,1,false)=some (.list ((mkL (fun k _=>k) (fun _=>1) (k + 1 + 1 + (mkN SConst.marks x.File.Pool:Nat) + 1 + 1 + 1) x.File.Faces).map rInt)) from rfl]; simp only [Option.bind_some]
 simp only [readA_int,readA_bool,readA_str,readA_list,readA_sl0,readA_sl,readA_agg,readA_tup,call_pure,optAll_cons,optAll_nil,readT_int,readT_list9,Option.bind_some]; rw [h90 _ _ (by omega) (by omega)]; simp only [Option.bind_some,bI_lss,asB_bool,show ¬ k + 1 + 1 + (mkN SConst.marks x.File.Pool:Nat) + 1 + 1 + 1 + ((mkN (fun _=>1) x.File.Faces:Nat):Int) < 0 by omega,decide_false,cond_false]
 try (rw [Ev.ia_list (n:=(i:Int)) (by omega) (by simpa using hi) (by simp [rInt,rStr])]; simp only [Option.bind_some,Int.toNat_natCast,List.getElem_map,hx,fa_el,ld_el,Nat.zero_add])
 rw [show part (SCls.mark k x).row (7,1,false)=some (.list ((mkL SField.mark SField.marks (k + 1 + 1 + (mkN SConst.marks x.File.Pool:Nat) + 1 + 1 + 1 + (mkN (fun _=>1) x.File.Faces:Nat)) x.File.Fields).map SField.row)) from rfl]; simp only [Option.bind_some]
 simp only [readA_int,readA_bool,readA_str,readA_list,readA_sl0,readA_sl,readA_agg,readA_tup,call_pure,optAll_cons,optAll_nil,readT_int,readT_list9,Option.bind_some]; rw [h91 _ _ (by omega) (by omega)]; simp only [Option.bind_some,bI_lss,asB_bool,show ¬ k + 1 + 1 + (mkN SConst.marks x.File.Pool:Nat) + 1 + 1 + 1 + (mkN (fun _=>1) x.File.Faces:Nat) + ((mkN SField.marks x.File.Fields:Nat):Int) < 0 by omega,decide_false,cond_false]
 try (rw [Ev.ia_list (n:=(i:Int)) (by omega) (by simpa using hi) (by simp [rInt,rStr])]; simp only [Option.bind_some,Int.toNat_natCast,List.getElem_map,hx,fa_el,ld_el,Nat.zero_add])
 rw [show part (SCls.mark k x).row (8,1,false)=some (.list ((mkL SMethod.mark SMethod.marks (k + 1 + 1 + (mkN SConst.marks x.File.Pool:Nat) + 1 + 1 + 1 + (mkN (fun _=>1) x.File.Faces:Nat) + (mkN SField.marks x.File.Fields:Nat)) x.File.Methods).map SMethod.row)) from rfl]; simp only [Option.bind_some]
 simp only [readA_int,readA_bool,readA_str,readA_list,readA_sl0,readA_sl,readA_agg,readA_tup,call_pure,optAll_cons,optAll_nil,readT_int,readT_list9,Option.bind_some]; rw [h92 _ _ (by omega) (by omega)]; simp only [Option.bind_some,bI_lss,asB_bool,show ¬ k + 1 + 1 + (mkN SConst.marks x.File.Pool:Nat) + 1 + 1 + 1 + (mkN (fun _=>1) x.File.Faces:Nat) + (mkN SField.marks x.File.Fields:Nat) + ((mkN SMethod.marks x.File.Methods:Nat):Int) < 0 by omega,decide_false,cond_false]
 try (rw [Ev.ia_list (n:=(i:Int)) (by omega) (by simpa using hi) (by simp [rInt,rStr])]; simp only [Option.bind_some,Int.toNat_natCast,List.getElem_map,hx,fa_el,ld_el,Nat.zero_add])
 rw [show part (SCls.mark k x).row (9,1,false)=some (.int .i64 (k + 1 + 1 + (mkN SConst.marks x.File.Pool:Nat) + 1 + 1 + 1 + (mkN (fun _=>1) x.File.Faces:Nat) + (mkN SField.marks x.File.Fields:Nat) + (mkN SMethod.marks x.File.Methods:Nat))) from rfl]; simp only [Option.bind_some]
 simp only [bI_neq,decide_true,Bool.not_true,Option.bind_some,asB_bool,cond_false,bI_add]
 rw [wrap_i64 (n:=k + 1 + 1 + (mkN SConst.marks x.File.Pool:Nat) + 1 + 1 + 1 + (mkN (fun _=>1) x.File.Faces:Nat) + (mkN SField.marks x.File.Fields:Nat) + (mkN SMethod.marks x.File.Methods:Nat) + 1) (by omega) (by omega)]; try simp only [Option.bind_some]
 try (rw [Ev.ia_list (n:=(i:Int)) (by omega) (by simpa using hi) (by simp [rInt,rStr])]; simp only [Option.bind_some,Int.toNat_natCast,List.getElem_map,hx,fa_el,ld_el,Nat.zero_add])
 rw [show part (SCls.mark k x).row (10,1,false)=some (.list ((mkL (fun k _=>k) (fun _=>1) (k + 1 + 1 + (mkN SConst.marks x.File.Pool:Nat) + 1 + 1 + 1 + (mkN (fun _=>1) x.File.Faces:Nat) + (mkN SField.marks x.File.Fields:Nat) + (mkN SMethod.marks x.File.Methods:Nat) + 1) x.Faces).map rInt)) from rfl]; simp only [Option.bind_some]
 simp only [readA_int,readA_bool,readA_str,readA_list,readA_sl0,readA_sl,readA_agg,readA_tup,call_pure,optAll_cons,optAll_nil,readT_int,readT_list9,Option.bind_some]; rw [h90 _ _ (by omega) (by omega)]; simp only [Option.bind_some,bI_lss,asB_bool,show ¬ k + 1 + 1 + (mkN SConst.marks x.File.Pool:Nat) + 1 + 1 + 1 + (mkN (fun _=>1) x.File.Faces:Nat) + (mkN SField.marks x.File.Fields:Nat) + (mkN SMethod.marks x.File.Methods:Nat) + 1 + ((mkN (fun _=>1) x.Faces:Nat):Int) < 0 by omega,decide_false,cond_false]
 try (rw [Ev.ia_list (n:=(i:Int)) (by omega) (by simpa using hi) (by simp [rInt,rStr])]; simp only [Option.bind_some,Int.toNat_natCast,List.getElem_map,hx,fa_el,ld_el,Nat.zero_add])
 rw [show part (SCls.mark k x).row (11,1,false)=some (.int .i64 (k + 1 + 1 + (mkN SConst.marks x.File.Pool:Nat) + 1 + 1 + 1 + (mkN (fun _=>1) x.File.Faces:Nat) + (mkN SField.marks x.File.Fields:Nat) + (mkN SMethod.marks x.File.Methods:Nat) + 1 + (mkN (fun _=>1) x.Faces:Nat))) from rfl]; simp only [Option.bind_some]
 simp only [bI_neq,decide_true,Bool.not_true,Option.bind_some,asB_bool,cond_false,bI_add]
 rw [wrap_i64 (n:=k + 1 + 1 + (mkN SConst.marks x.File.Pool:Nat) + 1 + 1 + 1 + (mkN (fun _=>1) x.File.Faces:Nat) + (mkN SField.marks x.File.Fields:Nat) + (mkN SMethod.marks x.File.Methods:Nat) + 1 + (mkN (fun _=>1) x.Faces:Nat) + 1) (by omega) (by omega)]; try simp only [Option.bind_some]
 try (rw [Ev.ia_list (n:=(i:Int)) (by omega) (by simpa using hi) (by simp [rInt,rStr])]; simp only [Option.bind_some,Int.toNat_natCast,List.getElem_map,hx,fa_el,ld_el,Nat.zero_add])
 rw [show part (SCls.mark k x).row (12,1,false)=some (.int .i64 (k + 1 + 1 + (mkN SConst.marks x.File.Pool:Nat) + 1 + 1 + 1 + (mkN (fun _=>1) x.File.Faces:Nat) + (mkN SField.marks x.File.Fields:Nat) + (mkN SMethod.marks x.File.Methods:Nat) + 1 + (mkN (fun _=>1) x.Faces:Nat) + 1)) from rfl]; simp only [Option.bind_some]
 simp only [bI_neq,decide_true,Bool.not_true,Option.bind_some,asB_bool,cond_false,bI_add]
 rw [wrap_i64 (n:=k + 1 + 1 + (mkN SConst.marks x.File.Pool:Nat) + 1 + 1 + 1 + (mkN (fun _=>1) x.File.Faces:Nat) + (mkN SField.marks x.File.Fields:Nat) + (mkN SMethod.marks x.File.Methods:Nat) + 1 + (mkN (fun _=>1) x.Faces:Nat) + 1 + 1) (by omega) (by omega)]; try simp only [Option.bind_some]
 try (rw [Ev.ia_list (n:=(i:Int)) (by omega) (by simpa using hi) (by simp [rInt,rStr])]; simp only [Option.bind_some,Int.toNat_natCast,List.getElem_map,hx,fa_el,ld_el,Nat.zero_add])
 rw [show part (SCls.mark k x).row (13,1,false)=some (.list ((mkL SSlot.mark SSlot.marks (k + 1 + 1 + (mkN SConst.marks x.File.Pool:Nat) + 1 + 1 + 1 + (mkN (fun _=>1) x.File.Faces:Nat) + (mkN SField.marks x.File.Fields:Nat) + (mkN SMethod.marks x.File.Methods:Nat) + 1 + (mkN (fun _=>1) x.Faces:Nat) + 1 + 1) x.Slots).map SSlot.row)) from rfl]; simp only [Option.bind_some]
 simp only [readA_int,readA_bool,readA_str,readA_list,readA_sl0,readA_sl,readA_agg,readA_tup,call_pure,optAll_cons,optAll_nil,readT_int,readT_list9,Option.bind_some]; rw [h93 _ _ (by omega) (by omega)]; simp only [Option.bind_some,bI_lss,asB_bool,show ¬ k + 1 + 1 + (mkN SConst.marks x.File.Pool:Nat) + 1 + 1 + 1 + (mkN (fun _=>1) x.File.Faces:Nat) + (mkN SField.marks x.File.Fields:Nat) + (mkN SMethod.marks x.File.Methods:Nat) + 1 + (mkN (fun _=>1) x.Faces:Nat) + 1 + 1 + ((mkN SSlot.marks x.Slots:Nat):Int) < 0 by omega,decide_false,cond_false]
 try (rw [Ev.ia_list (n:=(i:Int)) (by omega) (by simpa using hi) (by simp [rInt,rStr])]; simp only [Option.bind_some,Int.toNat_natCast,List.getElem_map,hx,fa_el,ld_el,Nat.zero_add])
 rw [show part (SCls.mark k x).row (14,1,false)=some (.list ((mkL SRow.mark SRow.marks (k + 1 + 1 + (mkN SConst.marks x.File.Pool:Nat) + 1 + 1 + 1 + (mkN (fun _=>1) x.File.Faces:Nat) + (mkN SField.marks x.File.Fields:Nat) + (mkN SMethod.marks x.File.Methods:Nat) + 1 + (mkN (fun _=>1) x.Faces:Nat) + 1 + 1 + (mkN SSlot.marks x.Slots:Nat)) x.Rows).map SRow.row)) from rfl]; simp only [Option.bind_some]
 simp only [readA_int,readA_bool,readA_str,readA_list,readA_sl0,readA_sl,readA_agg,readA_tup,call_pure,optAll_cons,optAll_nil,readT_int,readT_list9,Option.bind_some]; rw [h94 _ _ (by omega) (by omega)]; simp only [Option.bind_some,bI_lss,asB_bool,show ¬ k + 1 + 1 + (mkN SConst.marks x.File.Pool:Nat) + 1 + 1 + 1 + (mkN (fun _=>1) x.File.Faces:Nat) + (mkN SField.marks x.File.Fields:Nat) + (mkN SMethod.marks x.File.Methods:Nat) + 1 + (mkN (fun _=>1) x.Faces:Nat) + 1 + 1 + (mkN SSlot.marks x.Slots:Nat) + ((mkN SRow.marks x.Rows:Nat):Int) < 0 by omega,decide_false,cond_false]
 try (rw [Ev.ia_list (n:=(i:Int)) (by omega) (by simpa using hi) (by simp [rInt,rStr])]; simp only [Option.bind_some,Int.toNat_natCast,List.getElem_map,hx,fa_el,ld_el,Nat.zero_add])
 rw [show part (SCls.mark k x).row (15,1,false)=some (.list ((mkL SVal.mark SVal.marks (k + 1 + 1 + (mkN SConst.marks x.File.Pool:Nat) + 1 + 1 + 1 + (mkN (fun _=>1) x.File.Faces:Nat) + (mkN SField.marks x.File.Fields:Nat) + (mkN SMethod.marks x.File.Methods:Nat) + 1 + (mkN (fun _=>1) x.Faces:Nat) + 1 + 1 + (mkN SSlot.marks x.Slots:Nat) + (mkN SRow.marks x.Rows:Nat)) x.Statics).map SVal.row)) from rfl]; simp only [Option.bind_some]
 simp only [readA_int,readA_bool,readA_str,readA_list,readA_sl0,readA_sl,readA_agg,readA_tup,call_pure,optAll_cons,optAll_nil,readT_int,readT_list9,Option.bind_some]; rw [h95 _ _ (by omega) (by omega)]; simp only [Option.bind_some,bI_lss,asB_bool,show ¬ k + 1 + 1 + (mkN SConst.marks x.File.Pool:Nat) + 1 + 1 + 1 + (mkN (fun _=>1) x.File.Faces:Nat) + (mkN SField.marks x.File.Fields:Nat) + (mkN SMethod.marks x.File.Methods:Nat) + 1 + (mkN (fun _=>1) x.Faces:Nat) + 1 + 1 + (mkN SSlot.marks x.Slots:Nat) + (mkN SRow.marks x.Rows:Nat) + ((mkN SVal.marks x.Statics:Nat):Int) < 0 by omega,decide_false,cond_false]
 try simp only [bI_add]
 rw [wrap_i64 (n:=((i:Nat):Int) + 1) (by omega) (by omega)]; try simp only [Option.bind_some]
 have hk:k + 1 + 1 + (mkN SConst.marks x.File.Pool:Nat) + 1 + 1 + 1 + (mkN (fun _=>1) x.File.Faces:Nat) + (mkN SField.marks x.File.Fields:Nat) + (mkN SMethod.marks x.File.Methods:Nat) + 1 + (mkN (fun _=>1) x.Faces:Nat) + 1 + 1 + (mkN SSlot.marks x.Slots:Nat) + (mkN SRow.marks x.Rows:Nat) + (mkN SVal.marks x.Statics:Nat)=k + ((SCls.marks x:Nat):Int):=by simp only [SCls.marks]; omega
 rw [hk]
 rfl
theorem v12:MarkV E 12 SWorld.row SWorld.vmark SWorld.vmarks:=by
 refine mark_val (fun x=>rfl) fun lv H cs B x k hc m0 h0 h1=>?_
 simp only [SWorld.vmarks] at h1
 rw [e12,alloc_eq _ (D.agg cs).cells _ hc,show (D.agg cs).cells=cs from rfl]; simp only [fa_ptr,Nat.zero_add,Option.bind_some]
 obtain ⟨d0,D0,l0,r0,n0,u0⟩:=m0.get (f:=0) rfl rfl
 simp only [List.length_nil] at l0
 simp only [l0,fa_ptr,Nat.zero_add,Option.bind_some,call_raw]
 obtain ⟨H1,q0,R0,L0,F0⟩:=m11 _ _ _ _ _ (k) r0 n0 (by omega) (by omega)
 simp only [q0,Option.bind_some]
 have m1:=u0 L0 F0 R0
 obtain ⟨d1,D1,l1,r1,n1,u1⟩:=m1.get (f:=1) rfl rfl
 simp only [List.length_nil] at l1
 simp only [l1,fa_ptr,Nat.zero_add,Option.bind_some,call_raw]
 obtain ⟨H2,q1,R1,L1,F1⟩:=m32 _ _ _ _ _ (k + (mkN SLoader.marks x.Loaders:Nat)) r1 n1 (by omega) (by omega)
 simp only [q1,Option.bind_some]
 have m2:=u1 L1 F1 R1
 obtain ⟨d2,D2,l2,r2,n2,u2⟩:=m2.get (f:=2) rfl rfl
 simp only [List.length_nil] at l2
 simp only [l2,fa_ptr,Nat.zero_add,Option.bind_some,call_raw]
 obtain ⟨H3,q2,R2,L2,F2⟩:=m33 _ _ _ _ _ (k + (mkN SLoader.marks x.Loaders:Nat) + (mkN SCls.marks x.Classes:Nat)) r2 n2 (by omega) (by omega)
 simp only [q2,Option.bind_some]
 have m3:=u2 L2 F2 R2
 obtain ⟨d3,D3,l3,r3,n3,u3⟩:=m3.get (f:=3) rfl rfl
 simp only [List.length_nil] at l3
 simp only [l3,fa_ptr,Nat.zero_add,Option.bind_some,call_raw]
 obtain ⟨H4,q3,R3,L3,F3⟩:=m34 _ _ _ _ _ (k + (mkN SLoader.marks x.Loaders:Nat) + (mkN SCls.marks x.Classes:Nat) + (mkN SKnown.marks x.Known:Nat)) r3 n3 (by omega) (by omega)
 simp only [q3,Option.bind_some]
 have m4:=u3 L3 F3 R3
 refine ⟨H4,?_,m4⟩
 have hk:k + (mkN SLoader.marks x.Loaders:Nat) + (mkN SCls.marks x.Classes:Nat) + (mkN SKnown.marks x.Known:Nat) + (mkN SBond.marks x.Bonds:Nat)=k + ((SWorld.vmarks x:Nat):Int):=by simp only [SWorld.vmarks]; omega
 rw [hk]
 rfl
theorem h13 (x:SWorld) (k:Int) (h0:0 < k) (h1:k + x.vmarks≤1152921504606846976):run E (exec E) false 13 [(x.vmark k).d,.int .i64 k]=some (.int .i64 (k + x.vmarks)):=by
 simp only [SWorld.vmarks] at h1
 rw [run_ent,e13,alloc_eq _ _ _ rfl]
 rw [show ([]:Heap)++[some [D.cells (x.vmark k).d]]=[some [(x.vmark k).row]] from rfl,show ([]:Heap).length=0 from rfl]
 have ha:∀ f,ld false 1 [some [(x.vmark k).row]] (.ptr 0 0 f)=(x.vmark k).row[f]?:=fun f=>rfl
 simp only [fa_ptr,Nat.zero_add,Option.bind_some,ha]
 rw [show (x.vmark k).row[0]? = some (.list ((mkL SLoader.mark SLoader.marks (k) x.Loaders).map SLoader.row)) from rfl]; simp only [Option.bind_some]
 rw [pure_call (ds:=[.list ((mkL SLoader.mark SLoader.marks (k) x.Loaders).map SLoader.row),.int .i64 (k)]) (by simp only [readA_int,readA_bool,readA_str,readA_list,readA_sl0,readA_sl,readA_agg,readA_tup,optAll_cons,optAll_nil,readT_int,readT_list9,Option.bind_some]) (h35 x.Loaders (k) (by omega) (by omega))]
 simp only [fa_ptr,Nat.zero_add,ha,Option.bind_some,bI_lss,asB_bool,show ¬ k + ((mkN SLoader.marks x.Loaders:Nat):Int) < 0 by omega,decide_false,cond_false]
 rw [show (x.vmark k).row[1]? = some (.list ((mkL SCls.mark SCls.marks (k + (mkN SLoader.marks x.Loaders:Nat)) x.Classes).map SCls.row)) from rfl]; simp only [Option.bind_some]
 rw [pure_call (ds:=[.list ((mkL SCls.mark SCls.marks (k + (mkN SLoader.marks x.Loaders:Nat)) x.Classes).map SCls.row),.int .i64 (k + (mkN SLoader.marks x.Loaders:Nat))]) (by simp only [readA_int,readA_bool,readA_str,readA_list,readA_sl0,readA_sl,readA_agg,readA_tup,optAll_cons,optAll_nil,readT_int,readT_list9,Option.bind_some]) (h36 x.Classes (k + (mkN SLoader.marks x.Loaders:Nat)) (by omega) (by omega))]
 simp only [fa_ptr,Nat.zero_add,ha,Option.bind_some,bI_lss,asB_bool,show ¬ k + (mkN SLoader.marks x.Loaders:Nat) + ((mkN SCls.marks x.Classes:Nat):Int) < 0 by omega,decide_false,cond_false]
 rw [show (x.vmark k).row[2]? = some (.list ((mkL SKnown.mark SKnown.marks (k + (mkN SLoader.marks x.Loaders:Nat) + (mkN SCls.marks x.Classes:Nat)) x.Known).map SKnown.row)) from rfl]; simp only [Option.bind_some]
 rw [pure_call (ds:=[.list ((mkL SKnown.mark SKnown.marks (k + (mkN SLoader.marks x.Loaders:Nat) + (mkN SCls.marks x.Classes:Nat)) x.Known).map SKnown.row),.int .i64 (k + (mkN SLoader.marks x.Loaders:Nat) + (mkN SCls.marks x.Classes:Nat))]) (by simp only [readA_int,readA_bool,readA_str,readA_list,readA_sl0,readA_sl,readA_agg,readA_tup,optAll_cons,optAll_nil,readT_int,readT_list9,Option.bind_some]) (h37 x.Known (k + (mkN SLoader.marks x.Loaders:Nat) + (mkN SCls.marks x.Classes:Nat)) (by omega) (by omega))]
 simp only [fa_ptr,Nat.zero_add,ha,Option.bind_some,bI_lss,asB_bool,show ¬ k + (mkN SLoader.marks x.Loaders:Nat) + (mkN SCls.marks x.Classes:Nat) + ((mkN SKnown.marks x.Known:Nat):Int) < 0 by omega,decide_false,cond_false]
 rw [show (x.vmark k).row[3]? = some (.list ((mkL SBond.mark SBond.marks (k + (mkN SLoader.marks x.Loaders:Nat) + (mkN SCls.marks x.Classes:Nat) + (mkN SKnown.marks x.Known:Nat)) x.Bonds).map SBond.row)) from rfl]; simp only [Option.bind_some]
 rw [pure_call (ds:=[.list ((mkL SBond.mark SBond.marks (k + (mkN SLoader.marks x.Loaders:Nat) + (mkN SCls.marks x.Classes:Nat) + (mkN SKnown.marks x.Known:Nat)) x.Bonds).map SBond.row),.int .i64 (k + (mkN SLoader.marks x.Loaders:Nat) + (mkN SCls.marks x.Classes:Nat) + (mkN SKnown.marks x.Known:Nat))]) (by simp only [readA_int,readA_bool,readA_str,readA_list,readA_sl0,readA_sl,readA_agg,readA_tup,optAll_cons,optAll_nil,readT_int,readT_list9,Option.bind_some]) (h38 x.Bonds (k + (mkN SLoader.marks x.Loaders:Nat) + (mkN SCls.marks x.Classes:Nat) + (mkN SKnown.marks x.Known:Nat)) (by omega) (by omega))]
 simp only [fa_ptr,Nat.zero_add,ha,Option.bind_some,bI_lss,asB_bool,show ¬ k + (mkN SLoader.marks x.Loaders:Nat) + (mkN SCls.marks x.Classes:Nat) + (mkN SKnown.marks x.Known:Nat) + ((mkN SBond.marks x.Bonds:Nat):Int) < 0 by omega,decide_false,cond_false]
 have hk:k + (mkN SLoader.marks x.Loaders:Nat) + (mkN SCls.marks x.Classes:Nat) + (mkN SKnown.marks x.Known:Nat) + (mkN SBond.marks x.Bonds:Nat)=k + ((SWorld.vmarks x:Nat):Int):=by simp only [SWorld.vmarks]; omega
 rw [hk]
 rfl
end Go.Ev.YtmljkoieihaomaaGreat
namespace Go.Ev.YtmljkoieihaomaaGreat
set_option linter.unusedVariables false
set_option linter.unusedSimpArgs false
set_option linter.unusedSectionVars false
set_option linter.defProp false
set_option maxHeartbeats 1000000
open Go.Ev
def inR (n lo hi:Int):Bool:=decide (lo≤n) && decide (n≤hi)
theorem c63 (n lo hi:Int):run E (exec E) false 63 [.int .i64 n,.int .i64 lo,.int .i64 hi]=some (.bool (inR n lo hi)):=by
 rw [run_ent,e63]
 simp [inR]
 by_cases h:lo≤n <;> simp [h]
theorem c67 (n lo hi:Int):run E (exec E) false 67 [.int .i64 n,.int .i64 lo,.int .i64 hi]=some (.bool (inR n lo hi)):=by
 rw [run_ent,e67]
 simp [inR]
 by_cases h:lo≤n <;> simp [h]
@[simp] theorem ix_at (s:List UInt8) (n:Int) (h0:0≤n) (h:n < s.length):ix (.str s) (.int .i64 n)=some (.int .u8 (s[n.toNat]'(by omega)).toNat):=ix_get h0 (by omega)
end Go.Ev.YtmljkoieihaomaaGreat
namespace Go.Ev.YtmljkoieihaomaaGreat
set_option linter.unusedVariables false
set_option linter.unusedSimpArgs false
set_option linter.unusedSectionVars false
set_option linter.defProp false
set_option maxHeartbeats 1000000
open Go.Ev
end Go.Ev.YtmljkoieihaomaaGreat
namespace Go.Ev.YtmljkoieihaomaaGreat
set_option linter.unusedVariables false
set_option linter.unusedSimpArgs false
set_option linter.unusedSectionVars false
set_option linter.defProp false
set_option maxHeartbeats 1000000
open Go.Ev
end Go.Ev.YtmljkoieihaomaaGreat
namespace Go.Ev.YtmljkoieihaomaaGreat
set_option linter.unusedVariables false
set_option linter.unusedSimpArgs false
set_option linter.unusedSectionVars false
set_option linter.defProp false
set_option maxHeartbeats 1000000
open Go.Ev
def idxFrom {α:Type} (p:α→Bool):Nat→List α→Int
 | _,[]=>-1
 | i,x :: r=>if p x=true then (i:Int) else idxFrom p (i + 1) r
def idxM {α:Type} (p:α→Bool) (l:List α):Int:=idxFrom p 0 l
theorem idxFrom_spec {α:Type} (p:α→Bool):∀ (i:Nat) (l:List α),(idxFrom p i l = -1∧l.any p=false)∨∃ k,∃ h:k < l.length,idxFrom p i l=((i + k:Nat):Int)∧p l[k]=true∧l.find? p=some l[k]∧l.any p=true
 | _,[]=>.inl ⟨rfl,rfl⟩
 | i,x :: r=>by
  by_cases hx:p x=true
  ·exact .inr ⟨0,by simp,by simp [idxFrom,hx],hx,by simp [hx],by simp [hx]⟩
  ·have hx':p x=false:=by simpa using hx
   rcases idxFrom_spec p (i + 1) r with ⟨h1,h2⟩ | ⟨k,h0,h1,h2,h3,h4⟩
   ·exact .inl ⟨by simp [idxFrom,hx',h1],by simp [hx',h2]⟩
   ·exact .inr ⟨k + 1,by simp [h0],by simp [idxFrom,hx',h1]; omega,by simpa using h2,by simp [hx',h3],by simp [hx',h4]⟩
theorem idxM_spec {α:Type} (p:α→Bool) (l:List α):(idxM p l = -1∧l.any p=false∧l.find? p=none)∨∃ k,∃ h:k < l.length,idxM p l=(k:Int)∧p l[k]=true∧l.find? p=some l[k]∧l.any p=true:=by
 rcases idxFrom_spec p 0 l with ⟨h1,h2⟩ | ⟨k,h0,h1,h2,h3,h4⟩
 ·refine .inl ⟨h1,h2,?_⟩
  rw [List.find?_eq_none]
  intro x hx e
  rw [List.any_eq_false] at h2
  exact h2 x hx e
 ·exact .inr ⟨k,h0,by simpa [idxM] using h1,h2,h3,h4⟩
theorem idxM_any {α:Type} (p:α→Bool) (l:List α):decide (0≤idxM p l)=l.any p:=by
 rcases idxM_spec p l with ⟨h1,h2,-⟩ | ⟨k,h0,h1,h2,h3,h4⟩
 ·rw [h1,h2]; rfl
 ·rw [h1,h4]; simp
theorem c212_2 (l:List SFile) (hl:l.length≤140737488351232) (g:FuncId) (cs:List D) (p:SFile→Bool) (H:Heap) (hg:∀ x ∈ l,∀ K,∃ K',callFn E (exec E) (modeT 212 g) g ([(x).d]++cs) (H++K)=some (.bool (p x),H++K')):∀ i,i≤l.length→∀ K,∃ K',J E 212 2 [.list (l.map SFile.row),.fn g cs,.int .i64 l.length,.int .i64 i] (H++K)=some (.int .i64 (idxFrom p i (l.drop i)),H++K'):=by
 apply loop_up
 ·intro K
  rw [j212_2]
  simp only [bI_lss,Int.lt_irrefl,decide_false,Option.bind_some,asB_bool,cond_false,List.drop_length,idxFrom]
  exact ⟨_,rfl⟩
 ·intro i hi ih K
  have hlt:((i:Nat):Int) < (l.length:Int):=by omega
  obtain ⟨K1,e1⟩:=hg l[i] (List.getElem_mem hi) K
  rw [j212_2,List.drop_eq_getElem_cons hi,idxFrom]
  simp only [bI_lss,hlt,decide_true,Option.bind_some,asB_bool,cond_true]
  rw [ia_list (n:=(i:Int)) (esz:=2) (by omega) (by simpa using hi) (by simp [SFile.row])]
  simp only [Option.bind_some,ld_el,Int.toNat_natCast,List.getElem_map,show part (SFile.row (l[i])) (0,2,true)=some (l[i]).d from rfl,asFn_fn,e1,asB_bool]
  cases hp:p l[i] with
  | true=>exact ⟨_,rfl⟩
  | false=>
   simp only [cond_false,bI_add,Option.bind_some]
   rw [wrap_i64 (n:=(i:Int) + 1) (by omega) (by omega)]
   exact ih K1
theorem c212 (l:List SFile) (hl:l.length≤140737488351232) (g:FuncId) (cs:List D) (p:SFile→Bool) (H:Heap) (hg:∀ x ∈ l,∀ K,∃ K',callFn E (exec E) (modeT 212 g) g ([(x).d]++cs) (H++K)=some (.bool (p x),H++K')):∃ K',ent E 212 [.list (l.map SFile.row),.fn g cs] H=some (.int .i64 (idxM p l),H++K'):=by
 obtain ⟨K',e⟩:=c212_2 l hl g cs p H hg 0 (by omega) []
 rw [List.append_nil] at e
 rw [e212]
 simp only [lnL_list,List.length_map,Option.bind_some]
 exact ⟨K',e⟩
theorem c146 (l:List SFile) (hl:l.length≤140737488351232) (g:FuncId) (cs:List D) (p:SFile→Bool) (H:Heap) (hg:∀ x ∈ l,∀ K,∃ K',callFn E (exec E) (modeT 212 g) g ([(x).d]++cs) (H++K)=some (.bool (p x),H++K')):∃ K',ent E 146 [.list (l.map SFile.row),.fn g cs] H=some (.bool (l.any p),H++K'):=by
 obtain ⟨K',e⟩:=c212 l hl g cs p H hg
 rw [e146]
 simp only [call_raw,e,Option.bind_some,bI_geq,idxM_any]
 exact ⟨K',rfl⟩
theorem c144_2 (l:List SLoader) (hl:l.length≤140737488351232) (g:FuncId) (cs:List D) (p:SLoader→Bool) (H:Heap) (hg:∀ x ∈ l,∀ K,∃ K',callFn E (exec E) (modeT 144 g) g ([(x).d]++cs) (H++K)=some (.bool (p x),H++K')):∀ i,i≤l.length→∀ K,∃ K',J E 144 2 [.list (l.map SLoader.row),.fn g cs,.int .i64 l.length,.int .i64 i] (H++K)=some (.int .i64 (idxFrom p i (l.drop i)),H++K'):=by
 apply loop_up
 ·intro K
  rw [j144_2]
  simp only [bI_lss,Int.lt_irrefl,decide_false,Option.bind_some,asB_bool,cond_false,List.drop_length,idxFrom]
  exact ⟨_,rfl⟩
 ·intro i hi ih K
  have hlt:((i:Nat):Int) < (l.length:Int):=by omega
  obtain ⟨K1,e1⟩:=hg l[i] (List.getElem_mem hi) K
  rw [j144_2,List.drop_eq_getElem_cons hi,idxFrom]
  simp only [bI_lss,hlt,decide_true,Option.bind_some,asB_bool,cond_true]
  rw [ia_list (n:=(i:Int)) (esz:=3) (by omega) (by simpa using hi) (by simp [SLoader.row])]
  simp only [Option.bind_some,ld_el,Int.toNat_natCast,List.getElem_map,show part (SLoader.row (l[i])) (0,3,true)=some (l[i]).d from rfl,asFn_fn,e1,asB_bool]
  cases hp:p l[i] with
  | true=>exact ⟨_,rfl⟩
  | false=>
   simp only [cond_false,bI_add,Option.bind_some]
   rw [wrap_i64 (n:=(i:Int) + 1) (by omega) (by omega)]
   exact ih K1
theorem c144 (l:List SLoader) (hl:l.length≤140737488351232) (g:FuncId) (cs:List D) (p:SLoader→Bool) (H:Heap) (hg:∀ x ∈ l,∀ K,∃ K',callFn E (exec E) (modeT 144 g) g ([(x).d]++cs) (H++K)=some (.bool (p x),H++K')):∃ K',ent E 144 [.list (l.map SLoader.row),.fn g cs] H=some (.int .i64 (idxM p l),H++K'):=by
 obtain ⟨K',e⟩:=c144_2 l hl g cs p H hg 0 (by omega) []
 rw [List.append_nil] at e
 rw [e144]
 simp only [lnL_list,List.length_map,Option.bind_some]
 exact ⟨K',e⟩
theorem c68 (l:List SLoader) (hl:l.length≤140737488351232) (g:FuncId) (cs:List D) (p:SLoader→Bool) (H:Heap) (hg:∀ x ∈ l,∀ K,∃ K',callFn E (exec E) (modeT 144 g) g ([(x).d]++cs) (H++K)=some (.bool (p x),H++K')):∃ K',ent E 68 [.list (l.map SLoader.row),.fn g cs] H=some (.bool (l.any p),H++K'):=by
 obtain ⟨K',e⟩:=c144 l hl g cs p H hg
 rw [e68]
 simp only [call_raw,e,Option.bind_some,bI_geq,idxM_any]
 exact ⟨K',rfl⟩
end Go.Ev.YtmljkoieihaomaaGreat
namespace Go.Ev.YtmljkoieihaomaaGreat
set_option linter.unusedVariables false
set_option linter.unusedSimpArgs false
set_option linter.unusedSectionVars false
set_option linter.defProp false
set_option maxHeartbeats 1000000
open Go.Ev
def isLet (b:UInt8):Bool:=(decide ((97:Int)≤b.toNat) && decide ((b.toNat:Int)≤122)) || (decide ((65:Int)≤b.toNat) && decide ((b.toNat:Int)≤90))
def isDig (b:UInt8):Bool:=decide ((48:Int)≤b.toNat) && decide ((b.toNat:Int)≤57)
def isAl (b:UInt8):Bool:=isLet b || isDig b
def fstDig:List UInt8→Bool
 | []=>false
 | a :: _=>isDig a
def nameOk (s:List UInt8):Bool:=inR s.length 1 8 && s.all isAl && !(fstDig s)
theorem let_dig (b:UInt8) (h:isLet b=true):isDig b=false:=by
 cases hd:isDig b with
 | false=>rfl
 | true=>simp [isLet,isDig] at h hd; omega
theorem c211 (b:UInt8):run E (exec E) false 211 [.int .u8 b.toNat]=some (.bool (isLet b)):=by
 rw [run_ent,e211]
 simp only [bI_geq,bI_leq,Option.bind_some,asB_bool,isLet]
 by_cases h1:(97:Int)≤b.toNat <;> by_cases h2:(b.toNat:Int)≤122 <;> by_cases h3:(65:Int)≤b.toNat <;> by_cases h4:(b.toNat:Int)≤90 <;> simp [h1,h2,h3,h4]
theorem all_step (p:UInt8→Bool) (s:List UInt8) {i:Nat} (hi:i < s.length):(s.drop i).all p=(p s[i] && (s.drop (i + 1)).all p):=by
 rw [List.drop_eq_getElem_cons hi]; rfl
theorem c140_2 (s:List UInt8) (hs:s.length≤140737488351232) (H:Heap):∀ i,i≤s.length→J E 140 2 [.str s,.int .i64 i] H=some (.bool (inR s.length 1 8 && (s.drop i).all isAl && !(decide (i=0) && fstDig s)),H):=by
 refine loop_up (P:=fun i=>_) ?_ fun i hi ih=>?_
 ·rw [j140_2]
  simp [readA_int,readA_bool,readA_str,readA_list,readA_sl0,readA_sl,readA_agg,readA_tup,call_pure,c63]
  cases hr:inR s.length 1 8 with
  | false=>simp
  | true=>
   have:¬ s.length=0:=by simp [inR] at hr; omega
   have hne:¬ s=[]:=by rintro rfl; simp at this
   simp [hne]
 ·rw [j140_2]
  have hlt:((i:Nat):Int) < (s.length:Int):=by omega
  simp only [readA_int,readA_bool,readA_str,readA_list,readA_sl0,readA_sl,readA_agg,readA_tup,lnS_str,bI_lss,hlt,decide_true,cond_true,asB_bool,Option.bind_some,ix_nat,List.getElem?_eq_getElem hi,Option.map_some,call_pure,optAll_cons,optAll_nil,readT_int,c211,unOp_not,bI_eql,bI_gtr,bI_add]
  rw [wrap_i64 (n:=(i:Int) + 1) (by omega) (by omega)]
  rw [show (i:Int) + 1=((i + 1:Nat):Int) from rfl,ih,all_step isAl s hi]
  have hn:¬ i + 1=0:=by omega
  have hz:((i:Int)=0)↔i=0:=by omega
  cases hl:isLet s[i] with
  | true=>
   have:=let_dig _ hl
   by_cases h0:i=0
   ·subst h0
    have hh:fstDig s=isDig s[0]:=by cases s with | nil=>simp at hi | cons a t=>rfl
    by_cases h1:(s[0].toNat:Int) < 48 <;> simp [isAl,hl,this,hh,h1]
   ·by_cases h1:(s[i].toNat:Int) < 48 <;> simp [isAl,hl,hn,h0,h1]
  | false=>
   by_cases h0:i=0
   ·subst h0
    have hh:fstDig s=isDig s[0]:=by cases s with | nil=>simp at hi | cons a t=>rfl
    simp only [Bool.not_false,cond_true,Int.natCast_zero,decide_true,ret_one,isAl,hl,Bool.false_or,hh]
    cases isDig s[0] <;> simp
   ·have hd:isDig s[i]=(!decide ((s[i].toNat:Int) < 48) && !decide ((57:Int) < s[i].toNat)):=by
     simp only [isDig]
     by_cases h1:(48:Int)≤s[i].toNat <;> by_cases h2:(s[i].toNat:Int)≤57 <;> simp [h1,h2] <;> omega
    have hi0:¬ ((i:Int)=0):=by omega
    simp only [Bool.not_false,cond_true,hi0,decide_false,cond_false,isAl,hl,Bool.false_or,hd,h0,hn,Bool.false_and,Bool.not_false,Bool.and_true]
    by_cases h1:(s[i].toNat:Int) < 48 <;> by_cases h2:(57:Int) < s[i].toNat <;> simp [h1,h2]
theorem c140 (s:List UInt8) (hs:s.length≤140737488351232):run E (exec E) false 140 [.str s]=some (.bool (nameOk s)):=by
 rw [run_ent,e140]
 have:=c140_2 s hs [] 0 (by omega)
 simp only [Int.natCast_zero] at this
 rw [this]; simp [nameOk]
theorem c121_4 (s:List UInt8) (hs:s.length≤140737488351232) (H:Heap):∀ i,i≤s.length→J E 121 4 [.str s,.int .i64 s.length,.int .i64 i] H=some (.bool ((s.drop i).all isAl),H):=by
 refine loop_up (P:=fun i=>_) ?_ fun i hi ih=>?_
 ·rw [j121_4]; simp
 ·rw [j121_4]
  have hlt:((i:Nat):Int) < (s.length:Int):=by omega
  simp only [bI_lss,hlt,decide_true,cond_true,asB_bool,Option.bind_some,ix_nat,List.getElem?_eq_getElem hi,Option.map_some,bI_geq,bI_leq,unOp_not,bI_add,Bool.not_true,Bool.not_false,cond_false]
  rw [wrap_i64 (n:=(i:Int) + 1) (by omega) (by omega)]
  rw [show (i:Int) + 1=((i + 1:Nat):Int) from rfl,ih,all_step isAl s hi]
  simp only [isAl,isLet,isDig]
  by_cases h1:(97:Int)≤s[i].toNat <;> by_cases h2:(s[i].toNat:Int)≤122 <;> by_cases h3:(65:Int)≤s[i].toNat <;> by_cases h4:(s[i].toNat:Int)≤90 <;> by_cases h5:(48:Int)≤s[i].toNat <;> by_cases h6:(s[i].toNat:Int)≤57 <;> simp [h1,h2,h3,h4,h5,h6]
theorem c121 (s:List UInt8) (hs:s.length≤140737488351232):run E (exec E) false 121 [.str s]=some (.bool (nameOk s)):=by
 rw [run_ent,e121]
 simp only [readA_int,readA_bool,readA_str,readA_list,readA_sl0,readA_sl,readA_agg,readA_tup,lnS_str,Option.bind_some,call_pure,optAll_cons,optAll_nil,readT_int,c67,unOp_not,asB_bool]
 cases hr:inR s.length 1 8 with
 | false=>simp [nameOk,hr]
 | true=>
  have hl:0 < s.length:=by simp [inR] at hr; omega
  have:=c121_4 s hs [] 0 (by omega)
  simp only [Int.natCast_zero,List.drop_zero] at this
  obtain ⟨a,t,rfl⟩:∃ a t,s=a :: t:=by cases s with | nil=>simp at hl | cons a t=>exact ⟨a,t,rfl⟩
  have hx:ix (.str (a :: t)) (.int .i64 0)=some (.int .u8 a.toNat):=rfl
  simp only [Bool.not_true,cond_false,hx,Option.bind_some,bI_geq,bI_leq,asB_bool,this,nameOk,hr,fstDig,isDig]
  by_cases h5:(48:Int)≤a.toNat <;> by_cases h6:(a.toNat:Int)≤57 <;> simp [h5,h6]
def cutAt (c:UInt8):List UInt8→Option (List UInt8×List UInt8)
 | []=>none
 | b :: l=>if b=c then some ([],l) else (cutAt c l).map fun q=>(b :: q.1,q.2)
def clsName:List UInt8→Option (List UInt8)
 | []=>none
 | b :: r=>if b=76∧r.getLast? = some 59∧nameOk r.dropLast=true then some r.dropLast else none
def typeOk (s:List UInt8):Bool:=(clsName s).isSome || decide (s=[73])
def takeType:List UInt8→Option (List UInt8×List UInt8)
 | []=>none
 | b :: r=>if b=73 then some ([73],r) else if b=76 then match cutAt 59 r with | some (n,rest)=>if nameOk n=true then some (76 :: (n++[59]),rest) else none | none=>none else none
end Go.Ev.YtmljkoieihaomaaGreat
namespace Go.Ev.YtmljkoieihaomaaGreat
set_option linter.unusedVariables false
set_option linter.unusedSimpArgs false
set_option linter.unusedSectionVars false
set_option linter.defProp false
set_option maxHeartbeats 1000000
open Go.Ev
def descGo (n:Nat) (s:List UInt8):Option (List (List UInt8)×List UInt8):=
 match s with
 | []=>none
 | c :: r=>if c=41 then some ([],r) else match takeType (c :: r) with
  | none=>none
  | some (t,rest)=>if h:4≤n then none else (descGo (n + 1) rest).map fun q=>(t :: q.1,q.2)
 termination_by 4 - n
 decreasing_by omega
def descOk (q:List (List UInt8)×List UInt8):Bool:=decide (q.2=[86]) || typeOk q.2
def descOf (s:List UInt8):Option (List (List UInt8)×List UInt8):=
 match s with
 | []=>none
 | c :: r=>if c=40 then match descGo 0 r with | some q=>if descOk q=true then some q else none | none=>none else none
def descRes:Option (List (List UInt8)×List UInt8)→D
 | some q=>.tup [.list (q.1.map rStr),.str q.2,.bool true]
 | none=>.tup [.list [],.str [],.bool false]
def DescOut (res:Option (D×Heap)) (acc:List (List UInt8)):Option (List (List UInt8)×List UInt8)→Prop
 | some q=>∃ d' H',res=some (.tup [d',.str q.2,.bool true],H')∧Acc 1 H' d' ((acc++q.1).map rStr)
 | none=>∃ H',res=some (.tup [.sl0,.str [],.bool false],H')
def descEnd:Option (List (List UInt8)×List UInt8)→Option (List (List UInt8)×List UInt8)
 | some q=>if descOk q=true then some q else none
 | none=>none
theorem DescOut.step {res:Option (D×Heap)} {acc:List (List UInt8)} {t:List UInt8} {q:Option (List (List UInt8)×List UInt8)} (h:DescOut res (acc++[t]) (descEnd q)):DescOut res acc (descEnd (q.map fun q=>(t :: q.1,q.2))):=by
 cases q with
 | none=>exact h
 | some q=>
  have e:descOk (t :: q.1,q.2)=descOk q:=rfl
  simp only [descEnd,Option.map_some,e] at h ⊢
  by_cases hq:descOk q=true
  ·rw [if_pos hq] at h ⊢
   obtain ⟨d',H',h1,h2⟩:=h
   exact ⟨d',H',h1,by simpa using h2⟩
  ·rw [if_neg hq] at h ⊢
   exact h
theorem DescOut.read {p:Option (D×Heap)} {q:Option (List (List UInt8)×List UInt8)} (h:DescOut p [] q) {l:Bool}:(p.bind fun r=>readT l depth r.2 r.1)=some (descRes q):=by
 cases q with
 | none=>obtain ⟨H',rfl⟩:=h; rfl
 | some q=>
  obtain ⟨d',H',rfl,hA⟩:=h
  simp only [List.nil_append] at hA
  have hp:plainRows (q.1.map rStr):=by
   intro r hr l n H; obtain ⟨x,_,rfl⟩:=List.mem_map.mp hr; simp [rStr]
  simp only [readA_int,readA_bool,readA_str,readA_list,readA_sl0,readA_sl,readA_agg,readA_tup,Option.bind_some,readT_tup9,optAll_cons,optAll_nil,readT_str,readT_bool,hA.read hp l 7,descRes,Option.map_some]
end Go.Ev.YtmljkoieihaomaaGreat
namespace Go.Ev.YtmljkoieihaomaaGreat
set_option linter.unusedVariables false
set_option linter.unusedSimpArgs false
set_option linter.unusedSectionVars false
set_option linter.defProp false
set_option maxHeartbeats 1000000
open Go.Ev
def Rd (H:Heap) (b:Nat) (bytes:List UInt8) (p:Int):Prop:=getBlk H b=some [[.list (bytes.map rByte),.int .i64 p]]
theorem Rd.app {H:Heap} {b:Nat} {bytes:List UInt8} {p:Int} (h:Rd H b bytes p) (K:Heap):Rd (H++K) b bytes p:=(getBlk_left (getBlk_lt' h)).trans h
end Go.Ev.YtmljkoieihaomaaGreat
namespace Go.Ev.YtmljkoieihaomaaGreat
set_option linter.unusedVariables false
set_option linter.unusedSimpArgs false
set_option linter.unusedSectionVars false
set_option linter.defProp false
set_option maxHeartbeats 1000000
open Go.Ev
end Go.Ev.YtmljkoieihaomaaGreat
