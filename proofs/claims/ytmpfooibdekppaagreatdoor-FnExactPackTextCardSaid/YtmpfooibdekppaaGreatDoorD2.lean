import Derived.Test.YtmpfooibdekppaaGreatDoorD1
namespace Go.Ev.YtmpfooibdekppaaGreatDoor
set_option linter.unusedVariables false
set_option linter.unusedSimpArgs false
set_option linter.unusedSectionVars false
set_option linter.defProp false
set_option maxHeartbeats 1000000
open Go.Ev
def descGo (n:Nat) (s:List UInt8):Option (List (List UInt8)×List UInt8):=
 match s with
 | []=>none
 | c :: r=>if c=41 then some ([],r) else match takeType (c :: r) with
  | none=>none
  | some (t,rest)=>if h:4≤n then none else (descGo (n + 1) rest).map fun q=>(t :: q.1,q.2)
 termination_by 4 - n
 decreasing_by omega
def takeAll (n:Nat) (s:List UInt8):Option (List (List UInt8)):=
 match s with
 | []=>some []
 | c :: r=>match takeType (c :: r) with
  | none=>none
  | some (t,rest)=>if h:4≤n then none else (takeAll (n + 1) rest).map fun q=>t :: q
 termination_by 4 - n
 decreasing_by omega
def descOk (q:List (List UInt8)×List UInt8):Bool:=decide (q.2=[86]) || typeOk q.2
def descOf (s:List UInt8):Option (List (List UInt8)×List UInt8):=
 match s with
 | []=>none
 | c :: r=>if c=40 then match descGo 0 r with | some q=>if descOk q=true then some q else none | none=>none else none
def descRes:Option (List (List UInt8)×List UInt8)→D
 | some q=>.tup [.list (q.1.map rStr),.str q.2,.bool true]
 | none=>.tup [.list [],.str [],.bool false]
theorem not41_name {a b:List UInt8}:nameOk (a++41 :: b)=false:=by
 have:isAl 41=false:=by decide
 simp [nameOk,this]
theorem takeType_app {s:List UInt8} (back:List UInt8) (hs:s ≠ []) (h:(41:UInt8) ∉ s):takeType (s++41 :: back)=(takeType s).map fun q=>(q.1,q.2++41 :: back):=by
 cases s with
 | nil=>exact absurd rfl hs
 | cons b r=>
  have hr:(41:UInt8) ∉ r:=fun e=>h (by simp [e])
  simp only [List.cons_append,takeType]
  by_cases h1:b=73
  ·simp [h1]
  ·simp only [h1,if_false]
   by_cases h2:b=76
   ·simp only [h2,if_true]
    cases hc:cutAt 59 r with
    | some q=>
     obtain ⟨a,t⟩:=q
     obtain ⟨e1,e2⟩:=cutAt_eq hc
     have:r++41 :: back=a++59 :: (t++41 :: back):=by rw [e1]; simp
     rw [this,cutAt_of _ e2]
     simp only
     split <;> rfl
    | none=>
     have hn:=cutAt_none hc
     cases hc2:cutAt 59 (r++41 :: back) with
     | none=>rfl
     | some q=>
      obtain ⟨a,t⟩:=q
      obtain ⟨e1,e2⟩:=cutAt_eq hc2
      have:∃ x,a=r++41 :: x:=by
       have hp:r++[41] <+: a:=by
        have p1:r++[41] <+: r++41 :: back:=⟨back,by simp⟩
        have p2:a++[59] <+: r++41 :: back:=⟨t,by rw [e1]; simp⟩
        rcases Nat.lt_or_ge (r++[41]).length (a++[59]).length with hl | hl
        ·have p3:a <+: r++41 :: back:=⟨59 :: t,by rw [e1]⟩
         exact List.prefix_of_prefix_length_le p1 p3 (by simp at hl ⊢; omega)
        ·have p3:=List.prefix_of_prefix_length_le p2 p1 hl
         exfalso
         have:(59:UInt8) ∈ r++[41]:=p3.subset (by simp)
         rcases List.mem_append.mp this with m | m
         ·exact hn m
         ·simp at m
       obtain ⟨x,hx⟩:=hp
       exact ⟨x,by rw [← hx]; simp⟩
      obtain ⟨x,rfl⟩:=this
      simp [not41_name]
   ·simp [h2]
theorem takeType_not {s t r:List UInt8} (h:takeType s=some (t,r)) {c:UInt8} (hc:c ∉ s):c ∉ r:=by
 have:=(takeType_eq h).1
 intro e; exact hc (by rw [this]; simp [e])
theorem descGo_app (back:List UInt8):∀ (n:Nat) (s:List UInt8),(41:UInt8) ∉ s→descGo n (s++41 :: back)=(takeAll n s).map fun q=>(q,back)
 | n,[],_=>by rw [takeAll,List.nil_append,descGo]; simp
 | n,c :: r,h=>by
  have hc:¬ c=41:=fun e=>h (by simp [e])
  have ht:=takeType_app back (by simp) h
  rw [List.cons_append] at ht
  rw [takeAll,List.cons_append,descGo]
  simp only [hc,if_false,ht]
  cases hk:takeType (c :: r) with
  | none=>rfl
  | some q=>
   obtain ⟨t,rest⟩:=q
   simp only [Option.map_some]
   by_cases hn:4≤n
   ·simp [hn]
   ·have:=descGo_app back (n + 1) rest (takeType_not hk h)
    simp only [hn,dif_neg,not_false_eq_true,this]
    cases takeAll (n + 1) rest <;> rfl
 termination_by n=>4 - n
 decreasing_by omega
theorem descGo_none:∀ (n:Nat) (s:List UInt8),(41:UInt8) ∉ s→descGo n s=none
 | n,[],_=>by rw [descGo]
 | n,c :: r,h=>by
  have hc:¬ c=41:=fun e=>h (by simp [e])
  rw [descGo]
  simp only [hc,if_false]
  cases hk:takeType (c :: r) with
  | none=>rfl
  | some q=>
   obtain ⟨t,rest⟩:=q
   by_cases hn:4≤n
   ·simp [hn]
   ·have:=descGo_none (n + 1) rest (takeType_not hk h)
    simp [hn,this]
 termination_by n=>4 - n
 decreasing_by omega
def DescOut (res:Option (D×Heap)) (acc:List (List UInt8)):Option (List (List UInt8)×List UInt8)→Prop
 | some q=>∃ d' H',res=some (.tup [d',.str q.2,.bool true],H')∧Acc 1 H' d' ((acc++q.1).map rStr)
 | none=>∃ H',res=some (.tup [.sl0,.str [],.bool false],H')
def descEnd:Option (List (List UInt8)×List UInt8)→Option (List (List UInt8)×List UInt8)
 | some q=>if descOk q=true then some q else none
 | none=>none
theorem DescOut.step {res:Option (D×Heap)} {acc:List (List UInt8)} {t:List UInt8} {q:Option (List (List UInt8)×List UInt8)} (h:DescOut res (acc++[t]) (descEnd q)):DescOut res acc (descEnd (q.map fun q=>(t :: q.1,q.2))):=by
 cases q with
 | none=>exact h
 | some q=>
  have e:descOk (t :: q.1,q.2)=descOk q:=rfl
  simp only [descEnd,Option.map_some,e] at h ⊢
  by_cases hq:descOk q=true
  ·rw [if_pos hq] at h ⊢
   obtain ⟨d',H',h1,h2⟩:=h
   exact ⟨d',H',h1,by simpa using h2⟩
  ·rw [if_neg hq] at h ⊢
   exact h
theorem c157_5 (s:List UInt8) (hs:s.length≤140737488351232):∀ (k at_:Nat) (acc:List (List UInt8)) (d:D) (H:Heap),4 - acc.length≤k→at_≤s.length→acc.length≤4→Acc 1 H d (acc.map rStr)→DescOut (J E 157 5 [.str s,d,.int .i64 at_] H) acc (descEnd (descGo acc.length (s.drop at_)))
 | k,at_,acc,d,H,hk,hat,hacc,hA=>by
  rw [j157_5]
  by_cases he:at_=s.length
  ·subst he
   have:descGo acc.length (s.drop s.length)=none:=by rw [List.drop_length,descGo]
   rw [this]
   simp only [lnS_str,Option.bind_some,bI_lss,Int.lt_irrefl,decide_false,asB_bool,cond_false,bI_geq,Int.le_refl,decide_true,cond_true]
   exact ⟨H,rfl⟩
  ·have hlt:at_ < s.length:=by omega
   have hlt':((at_:Nat):Int) < (s.length:Int):=by omega
   have h41:=byte_int s[at_] 41 (by omega)
   have hd:s.drop at_=s[at_] :: s.drop (at_ + 1):=List.drop_eq_getElem_cons hlt
   have hT:=c156 s hs at_ hat
   simp only [lnS_str,bI_lss,hlt',decide_true,cond_true,asB_bool,Option.bind_some,ix_nat,List.getElem?_eq_getElem hlt,Option.map_some,bI_neq,bI_geq,bI_add,show ¬ (s.length:Int)≤at_ by omega,decide_false,cond_false]
   rw [wrap_i64 (n:=(at_:Int) + 1) (by omega) (by omega)]
   by_cases h1:s[at_]=41
   ·have e41:(s[at_].toNat:Int)=41:=h41.mpr h1
    have hg:descGo acc.length (s.drop at_)=some ([],s.drop (at_ + 1)):=by rw [hd,descGo]; simp [h1]
    rw [hg]
    simp only [e41,decide_true,Bool.not_true,cond_false]
    rw [slS_from (by omega) (by omega),show ((at_:Int) + 1).toNat=at_ + 1 by omega]
    simp only [readA_int,readA_bool,readA_str,readA_list,readA_sl0,readA_sl,readA_agg,readA_tup,Option.bind_some,bS_neq,asB_bool,call_pure,optAll_cons,optAll_nil,readT_str]
    rw [c104 _ (by simp; omega)]
    simp only [Option.bind_some,unOp_not,asB_bool,descEnd,descOk]
    by_cases hv:s.drop (at_ + 1)=[86]
    ·simp only [hv,decide_true,Bool.not_true,cond_false,Bool.true_or,if_true]
     exact ⟨d,H,rfl,by simpa using hA⟩
    ·simp only [hv,decide_false,Bool.not_false,cond_true,Bool.false_or]
     cases ht:typeOk (s.drop (at_ + 1)) with
     | true=>
      simp only [Bool.not_true,cond_false,if_true]
      exact ⟨d,H,rfl,by simpa using hA⟩
     | false=>
      simp only [Bool.not_false,cond_true,Bool.false_eq_true,if_false]
      exact ⟨H,rfl⟩
   ·have n41:¬ ((s[at_].toNat:Int)=41):=fun e=>h1 (h41.mp e)
    simp only [readA_int,readA_bool,readA_str,readA_list,readA_sl0,readA_sl,readA_agg,readA_tup,n41,decide_false,Bool.not_false,cond_true,call_pure,optAll_cons,optAll_nil,readT_str,readT_int,Option.bind_some,hT]
    have hg:descGo acc.length (s.drop at_)=match takeType (s.drop at_) with | none=>none | some (t,rest)=>if h:4≤acc.length then none else (descGo (acc.length + 1) rest).map fun q=>(t :: q.1,q.2):=by
     rw [hd,descGo]; simp only [h1,if_false]
    rw [hg]
    cases ht:takeType (s.drop at_) with
    | none=>
     simp only [endOf,bI_lss,Option.bind_some,asB_bool,show (-1:Int) < 0 by decide,decide_true,cond_true]
     exact ⟨H,rfl⟩
    | some q=>
     obtain ⟨t,rest⟩:=q
     obtain ⟨e1,e2⟩:=takeType_eq ht
     have hl:s.length - at_=t.length + rest.length:=by
      have:=congrArg List.length e1; simpa using this
     simp only [endOf,bI_lss,Option.bind_some,asB_bool,show ¬ ((at_ + t.length:Nat):Int) < 0 by omega,decide_false,cond_false,hA.len,List.length_map,bI_geq]
     by_cases h4:4≤acc.length
     ·simp only [h4,show (4:Int)≤(acc.length:Int) by omega,decide_true,cond_true,dif_pos]
      exact ⟨H,rfl⟩
     ·simp only [h4,show ¬ (4:Int)≤(acc.length:Int) by omega,decide_false,cond_false,dif_neg,not_false_eq_true]
      rw [slS_mid (by omega) (by omega) (by omega)]
      have et:(s.take ((at_ + t.length:Nat):Int).toNat).drop ((at_:Int)).toNat=t:=by
       rw [show ((at_ + t.length:Nat):Int).toNat=at_ + t.length by omega,show ((at_:Int)).toNat=at_ by omega]
       rw [List.drop_take,show at_ + t.length - at_=t.length by omega,e1]; simp
      have er:s.drop (at_ + t.length)=rest:=by rw [← List.drop_drop,e1]; simp
      rw [et]
      simp only [Option.bind_some]
      rw [bsl_one (esz:=1) (by omega) rfl rfl rfl]
      simp only [Option.bind_some]
      obtain ⟨d',H',h5,h6,h7⟩:=app_one (eb:=16) (c:=rStr t) hA rfl (by simp [maxLen]; omega)
      rw [show (D.str t).cells=rStr t from rfl,h5]
      simp only [Option.bind_some]
      have:=c157_5 s hs (k - 1) (at_ + t.length) (acc++[t]) d' H' (by simp; omega) (by omega) (by simp; omega) (by simpa using h6)
      rw [er,List.length_append,List.length_singleton] at this
      exact this.step
 termination_by k=>k
 decreasing_by omega
theorem DescOut.read {p:Option (D×Heap)} {q:Option (List (List UInt8)×List UInt8)} (h:DescOut p [] q) {l:Bool}:(p.bind fun r=>readT l depth r.2 r.1)=some (descRes q):=by
 cases q with
 | none=>obtain ⟨H',rfl⟩:=h; rfl
 | some q=>
  obtain ⟨d',H',rfl,hA⟩:=h
  simp only [List.nil_append] at hA
  have hp:plainRows (q.1.map rStr):=by
   intro r hr l n H; obtain ⟨x,_,rfl⟩:=List.mem_map.mp hr; simp [rStr]
  simp only [readA_int,readA_bool,readA_str,readA_list,readA_sl0,readA_sl,readA_agg,readA_tup,Option.bind_some,readT_tup9,optAll_cons,optAll_nil,readT_str,readT_bool,hA.read hp l 7,descRes,Option.map_some]
theorem c157o (s:List UInt8) (hs:s.length≤140737488351232):DescOut (ent E 157 [.str s] []) [] (descOf s):=by
 rw [e157,bsl_zero _ _ _ rfl]
 cases s with
 | nil=>exact ⟨[],by simp⟩
 | cons c r=>
  have h40:=byte_int c 40 (by omega)
  have hx:ix (.str (c :: r)) (.int .i64 0)=some (.int .u8 c.toNat):=rfl
  simp only [lnS_str,Option.bind_some,bI_eql,asB_bool,show ¬ (((c :: r).length:Nat):Int)=0 by simp; omega,decide_false,cond_false,hx,bI_neq,descOf]
  by_cases h1:c=40
  ·have e40:(c.toNat:Int)=40:=h40.mpr h1
   simp only [e40,decide_true,Bool.not_true,cond_false,h1,if_true]
   have:=c157_5 (c :: r) hs 4 1 [] .sl0 [] (by simp) (by simp) (by simp) (Acc.nil _ _)
   subst h1
   simp only [List.length_nil,List.drop_succ_cons,List.drop_zero,Int.natCast_one] at this
   exact this
  ·have n40:¬ ((c.toNat:Int)=40):=fun e=>h1 (h40.mp e)
   simp only [n40,decide_false,Bool.not_false,cond_true,h1,if_false]
   exact ⟨[],rfl⟩
theorem c157 (s:List UInt8) (hs:s.length≤140737488351232) (l:Bool):run E (exec E) l 157 [.str s]=some (descRes (descOf s)):=by
 rw [run_ent]; exact (c157o s hs).read
theorem c105 (s:List UInt8) (hs:s.length≤140737488351232):run E (exec E) false 105 [.str s]=some (.bool (descOf s).isSome):=by
 rw [run_ent,e105]
 simp only [readA_int,readA_bool,readA_str,readA_list,readA_sl0,readA_sl,readA_agg,readA_tup,call_view,optAll_cons,optAll_nil,readT_str,Option.bind_some,c157 s hs]
 cases descOf s <;> simp [descRes]
def nextCut (s:List UInt8):Nat:=match s with
 | []=>0
 | b :: r=>if b=73 then 1 else match cutAt 59 (b :: r) with | some (a,_)=>a.length + 1 | none=>0
theorem typeOk_cut (s:List UInt8) (hs:s ≠ []):nextCut s≤s.length∧match takeType s with
  | some (t,rest)=>typeOk (s.take (nextCut s))=true∧s.take (nextCut s)=t∧s.drop (nextCut s)=rest
  | none=>typeOk (s.take (nextCut s))=false:=by
 cases s with
 | nil=>exact absurd rfl hs
 | cons b r=>
  by_cases h1:b=73
  ·subst h1
   have hn:nextCut (73 :: r)=1:=by simp [nextCut]
   rw [hn]
   exact ⟨by simp,rfl,by simp,by simp⟩
  ·cases hc:cutAt 59 (b :: r) with
   | none=>
    have hn:nextCut (b :: r)=0:=by simp [nextCut,h1,hc]
    rw [hn]
    refine ⟨by simp,?_⟩
    have h59:=cutAt_none hc
    have:takeType (b :: r)=none:=by
     have h59':(59:UInt8) ∉ r:=fun e=>h59 (by simp [e])
     simp [takeType,h1,cutAt_not h59']
    rw [this]; rfl
   | some q=>
    obtain ⟨a,t⟩:=q
    obtain ⟨e1,e2⟩:=cutAt_eq hc
    have hn:nextCut (b :: r)=a.length + 1:=by simp [nextCut,h1,hc]
    rw [hn]
    have hl:(b :: r).length=a.length + t.length + 1:=by rw [e1]; simp; omega
    have htk:(b :: r).take (a.length + 1)=a++[59]:=by
     rw [e1,List.take_append,List.take_of_length_le (by omega)]; simp
    have hdr:(b :: r).drop (a.length + 1)=t:=by
     rw [e1,List.drop_append]; simp
    rw [htk,hdr]
    refine ⟨by omega,?_⟩
    cases a with
    | nil=>
     simp only [List.nil_append,List.cons.injEq] at e1
     obtain ⟨rfl,rfl⟩:=e1
     have:takeType (59 :: r)=none:=by simp [takeType]
     rw [this]; rfl
    | cons b' a=>
     simp only [List.cons_append,List.cons.injEq] at e1
     obtain ⟨rfl,e1⟩:=e1
     have h3:cutAt 59 r=some (a,t):=by rw [e1]; exact cutAt_of _ fun e=>e2 (by simp [e])
     simp only [takeType,h1,if_false,h3,List.cons_append]
     by_cases h2:b=76
     ·subst h2
      simp only [if_true]
      by_cases hk:nameOk a=true
      ·simp [hk,typeOk,clsName]
      ·simp [hk,typeOk,clsName]
     ·simp [h2,typeOk,clsName,h1]
theorem c84_6 (back:List UInt8) (hb:descOk ([],back)=true):∀ (k:Nat) (s:List UInt8) (acc:List (List UInt8)) (d:D) (H:Heap),4 - acc.length≤k→s.length≤140737488351232→acc.length≤4→Acc 1 H d (acc.map rStr)→DescOut (J E 84 6 [.str back,.str s,d] H) acc ((takeAll acc.length s).map fun q=>(q,back))
 | k,s,acc,d,H,hk,hs,hacc,hA=>by
  rw [j84_6]
  cases s with
  | nil=>
   rw [takeAll]
   simp only [bS_neq,decide_true,Bool.not_true,Option.bind_some,asB_bool,cond_false,Option.map_some]
   exact ⟨d,H,rfl,by simpa using hA⟩
  | cons b r=>
   have hx:ix (.str (b :: r)) (.int .i64 0)=some (.int .u8 b.toNat):=rfl
   have h73:=byte_int b 73 (by omega)
   obtain ⟨hn,hT⟩:=typeOk_cut (b :: r) (by simp)
   have tail:DescOut (J E 84 10 [.str back,.str (b :: r),d,.int .i64 (nextCut (b :: r))] H) acc ((takeAll acc.length (b :: r)).map fun q=>(q,back)):=by
    rw [j84_10,slS_to (by omega) (by omega),slS_from (by omega) (by omega)]
    simp only [readA_int,readA_bool,readA_str,readA_list,readA_sl0,readA_sl,readA_agg,readA_tup,Int.toNat_natCast,Option.bind_some,call_pure,optAll_cons,optAll_nil,readT_str]
    rw [c77 _ (by simp at hs ⊢; omega),takeAll]
    cases ht:takeType (b :: r) with
    | none=>
     rw [ht] at hT
     simp only at hT
     simp only [hT,Option.bind_some,unOp_not,Bool.not_false,asB_bool,cond_true]
     exact ⟨H,rfl⟩
    | some q=>
     obtain ⟨t,rest⟩:=q
     rw [ht] at hT
     simp only at hT
     obtain ⟨t1,t2,t3⟩:=hT
     rw [t2] at t1
     simp only [t1,t2,t3,Option.bind_some,unOp_not,Bool.not_true,asB_bool,cond_false,hA.len,List.length_map,bI_eql]
     by_cases h4:4≤acc.length
     ·simp only [h4,show (acc.length:Int)=4 by omega,decide_true,cond_true,dif_pos]
      exact ⟨H,rfl⟩
     ·simp only [h4,show ¬ (acc.length:Int)=4 by omega,decide_false,cond_false,dif_neg,not_false_eq_true]
      rw [bsl_one (esz:=1) (by omega) rfl rfl rfl]
      simp only [Option.bind_some]
      obtain ⟨d',H',h5,h6,h7⟩:=app_one (eb:=16) (c:=rStr t) hA rfl (by simp [maxLen]; omega)
      rw [show (D.str t).cells=rStr t from rfl,h5]
      simp only [Option.bind_some]
      have hl:=takeType_eq ht
      have hl2:=congrArg List.length hl.1
      simp only [List.length_append] at hl2
      have:=c84_6 back hb (k - 1) rest (acc++[t]) d' H' (by simp; omega) (by omega) (by simp; omega) (by simpa using h6)
      rw [List.length_append,List.length_singleton] at this
      cases htk:takeAll (acc.length + 1) rest with
      | none=>rw [htk] at this; exact this
      | some ts=>
       rw [htk] at this
       obtain ⟨d2,H2,g1,g2⟩:=this
       exact ⟨d2,H2,g1,by simpa using g2⟩
   simp only [bS_neq,show ¬ (b :: r)=[] by simp,decide_false,Bool.not_false,Option.bind_some,asB_bool,cond_true,hx,bI_neq]
   by_cases h1:b=73
   ·have e73:(b.toNat:Int)=73:=h73.mpr h1
    simp only [e73,decide_true,Bool.not_true,cond_false]
    have hn1:nextCut (b :: r)=1:=by simp [nextCut,h1]
    rw [hn1] at tail
    exact tail
   ·have n73:¬ ((b.toNat:Int)=73):=fun e=>h1 (h73.mp e)
    have hi:=c139 (b :: r) 59
    simp only [readA_int,readA_bool,readA_str,readA_list,readA_sl0,readA_sl,readA_agg,readA_tup,n73,decide_false,Bool.not_false,cond_true,call_pure,optAll_cons,optAll_nil,readT_str,readT_int,Option.bind_some]
    rw [show D.int .u8 59=D.int .u8 (((59:UInt8).toNat:Nat):Int) from rfl,hi]
    simp only [Option.bind_some,bI_add]
    have e:IntKind.wrap .i64 (Go.Lib.indexByte (b :: r) 59 + 1)=(nextCut (b :: r):Int):=by
     rw [indexByte_cut]
     simp only [nextCut,h1,if_false]
     cases hc:cutAt 59 (b :: r) with
     | none=>exact wrap_i64 (by decide) (by decide)
     | some q=>
      obtain ⟨a,t⟩:=q
      have:=congrArg List.length (cutAt_eq hc).1
      simp only [List.length_append,List.length_cons] at this hs
      simp only
      rw [wrap_i64 (by omega) (by omega)]
      simp
    rw [e]
    exact tail
 termination_by k=>k
 decreasing_by omega
theorem c84o (s:List UInt8) (hs:s.length≤140737488351232):DescOut (ent E 84 [.str s] []) [] (descOf s):=by
 rw [e84]
 simp only [readA_int,readA_bool,readA_str,readA_list,readA_sl0,readA_sl,readA_agg,readA_tup,call_pure,optAll_cons,optAll_nil,readT_str,Option.bind_some,c137 s 41 hs,cutRes]
 cases hc:cutAt 41 s with
 | none=>
  have hn:=cutAt_none hc
  have e:descOf s=none:=by
   cases s with
   | nil=>rfl
   | cons c r=>
    have:descGo 0 r=none:=descGo_none 0 r fun e=>hn (by simp [e])
    simp [descOf,this]
  rw [e]
  simp only [readA_int,readA_bool,readA_str,readA_list,readA_sl0,readA_sl,readA_agg,readA_tup,extract_tup,List.getElem?_cons_zero,List.getElem?_cons_succ,Option.bind_some,readT_str,c138]
  cases s with
  | nil=>exact ⟨[],by simp [cutPre]⟩
  | cons c r=>by_cases h:c=40 <;> exact ⟨[],by simp [cutPre,h]⟩
 | some q=>
  obtain ⟨inner,back⟩:=q
  obtain ⟨e1,e2⟩:=cutAt_eq hc
  have hl:=congrArg List.length e1
  simp only [List.length_append,List.length_cons] at hl
  simp only [readA_int,readA_bool,readA_str,readA_list,readA_sl0,readA_sl,readA_agg,readA_tup,extract_tup,List.getElem?_cons_zero,List.getElem?_cons_succ,Option.bind_some,readT_str,c138,unOp_not,Bool.not_true,asB_bool,cond_false]
  cases inner with
  | nil=>
   have e:descOf s=none:=by rw [e1]; simp [descOf]
   rw [e]
   exact ⟨[],by simp [cutPre]⟩
  | cons c r=>
   by_cases h:c=40
   ·have e41:(41:UInt8) ∉ r:=fun e=>e2 (by simp [e])
    have e:descOf s=match (takeAll 0 r).map (fun q=>(q,back)) with | some q=>if descOk q=true then some q else none | none=>none:=by
     rw [e1,List.cons_append,descOf]; simp only [h,if_true,descGo_app back 0 r e41]
    rw [e]
    simp only [cutPre,h,if_true,extract_tup,List.getElem?_cons_zero,List.getElem?_cons_succ,Option.bind_some,unOp_not,Bool.not_true,asB_bool,cond_false,bS_neq]
    rw [c77 back (by omega)]
    simp only [Option.bind_some,unOp_not,asB_bool]
    have hgo:∀ hb:descOk ([],back)=true,DescOut (J E 84 6 [.str back,.str r,.sl0] []) [] (match (takeAll 0 r).map (fun q=>(q,back)) with | some q=>if descOk q=true then some q else none | none=>none):=by
     intro hb
     have:=c84_6 back hb 4 r [] .sl0 [] (by simp) (by simp only [List.length_cons] at hl; omega) (by simp) (Acc.nil _ _)
     rw [List.length_nil] at this
     cases ht:takeAll 0 r with
     | none=>rw [ht] at this; exact this
     | some ts=>
      rw [ht] at this
      have hb':descOk (ts,back)=true:=hb
      simp only [Option.map_some,hb',if_true]
      exact this
    have hbad:descOk ([],back)=false→(match (takeAll 0 r).map (fun q=>(q,back)) with | some q=>if descOk q=true then some q else none | none=>none)=(none:Option (List (List UInt8)×List UInt8)):=by
     intro hb
     cases takeAll 0 r with
     | none=>rfl
     | some ts=>
      have hb':descOk (ts,back)=false:=hb
      simp [hb']
    by_cases hv:back=[86]
    ·simp only [hv,decide_true,Bool.not_true,cond_false]
     rw [← hv]
     exact hgo (by simp [descOk,hv])
    ·simp only [hv,decide_false,Bool.not_false,cond_true]
     cases ht:typeOk back with
     | true=>
      simp only [Bool.not_true,cond_false]
      exact hgo (by simp [descOk,ht])
     | false=>
      rw [hbad (by simp [descOk,hv,ht])]
      simp only [Bool.not_false,cond_true]
      exact ⟨[],rfl⟩
   ·have e:descOf s=none:=by rw [e1]; simp [descOf,h]
    rw [e]
    exact ⟨[],by simp [cutPre,h]⟩
theorem p84 (s:List UInt8) (hs:s.length≤140737488351232):run E (exec E) false 84 [.str s]=some (descRes (descOf s)):=by
 rw [run_ent]; exact (c84o s hs).read
theorem c80 (s:List UInt8) (hs:s.length≤140737488351232):run E (exec E) false 80 [.str s]=some (.bool (descOf s).isSome):=by
 rw [run_ent,e80]
 simp only [readA_int,readA_bool,readA_str,readA_list,readA_sl0,readA_sl,readA_agg,readA_tup,call_pure,optAll_cons,optAll_nil,readT_str,Option.bind_some,p84 s hs]
 cases descOf s <;> simp [descRes]
theorem c84 (s:List UInt8) (hs:s.length≤140737488351232):OwnC E 2 84 [.str s] (descRes (descOf s)):=by
 have h:=c84o s hs
 cases hq:descOf s with
 | none=>
  rw [hq] at h
  obtain ⟨H,h⟩:=h
  exact ⟨_,H,[],h,.tup (.cons (B:=[]) (B':=[]) .sl0 (.cons (B:=[]) (B':=[]) (.sc rfl) (.cons (B:=[]) (B':=[]) (.sc rfl) .nil))),List.nodup_nil⟩
 | some q=>
  rw [hq] at h
  obtain ⟨d,H,h,hA⟩:=h
  simp only [List.nil_append] at hA
  obtain ⟨B,r1,r2,-⟩:=hA.rep (o:=true) (n:=0) (fun r hr=>by obtain ⟨x,_,rfl⟩:=List.mem_map.mp hr; rfl)
  refine ⟨_,H,B,h,?_,r2⟩
  have:=RepT.tup (RepR.cons r1 (RepR.cons (B:=[]) (B':=[]) (.sc (d:=.str q.2) rfl) (RepR.cons (B:=[]) (B':=[]) (.sc (d:=.bool true) rfl) .nil)))
  simpa [descRes] using this
theorem descGo_join:∀ (n:Nat) (s:List UInt8) (q:List (List UInt8)×List UInt8),n≤4→descGo n s=some q→s=q.1.flatten++41 :: q.2∧(∀ t ∈ q.1,typeOk t=true)∧n + q.1.length≤4
 | n,[],q,hn,h=>by rw [descGo] at h; cases h
 | n,c :: r,q,hn,h=>by
  rw [descGo] at h
  by_cases hc:c=41
  ·simp only [hc,if_true] at h
   cases h
   exact ⟨by simp [hc],by simp,by simpa using hn⟩
  ·simp only [hc,if_false] at h
   cases hk:takeType (c :: r) with
   | none=>rw [hk] at h; cases h
   | some p=>
    obtain ⟨t,rest⟩:=p
    rw [hk] at h
    simp only at h
    by_cases h4:4≤n
    ·simp [h4] at h
    ·simp only [h4,dif_neg,not_false_eq_true] at h
     obtain ⟨q',hq,rfl⟩:=Option.map_eq_some_iff.mp h
     obtain ⟨e1,e2,e3⟩:=descGo_join (n + 1) rest q' (by omega) hq
     have ht:=typeOk_cut (c :: r) (by simp)
     rw [hk] at ht
     simp only at ht
     obtain ⟨-,t1,t2,-⟩:=ht
     rw [t2] at t1
     refine ⟨by rw [(takeType_eq hk).1,e1]; simp,?_,by simp; omega⟩
     intro x hx
     rcases List.mem_cons.mp hx with rfl | hx
     ·exact t1
     ·exact e2 x hx
 termination_by n=>4 - n
 decreasing_by omega
theorem descOf_join {s:List UInt8} {q:List (List UInt8)×List UInt8} (h:descOf s=some q):s=40 :: (q.1.flatten++41 :: q.2)∧(∀ t ∈ q.1,typeOk t=true)∧q.1.length≤4∧descOk q=true:=by
 cases s with
 | nil=>cases h
 | cons c r=>
  simp only [descOf] at h
  split at h
  ·rename_i hc
   split at h
   ·rename_i q' hq
    split at h
    ·rename_i hd
     cases h
     obtain ⟨e1,e2,e3⟩:=descGo_join 0 r q (by omega) hq
     exact ⟨by rw [hc,e1],e2,by omega,hd⟩
    ·cases h
   ·cases h
  ·cases h
def dTakes (s:List UInt8):List (List UInt8):=match descOf s with | some q=>q.1 | none=>[]
def dBack (s:List UInt8):List UInt8:=match descOf s with | some q=>q.2 | none=>[]
def dOk (s:List UInt8):Bool:=match descOf s with | some q=>true | none=>false
theorem descRes_eq (s:List UInt8):descRes (descOf s) = .tup [.list ((dTakes s).map rStr),.str (dBack s),.bool (dOk s)]:=by
 unfold dTakes dBack dOk descRes
 cases descOf s <;> rfl
theorem dTakes_len (s:List UInt8):(dTakes s).length≤4:=by
 unfold dTakes
 cases h:descOf s with
 | none=>simp
 | some q=>exact (descOf_join h).2.2.1
end Go.Ev.YtmpfooibdekppaaGreatDoor
namespace Go.Ev.YtmpfooibdekppaaGreatDoor
set_option linter.unusedVariables false
set_option linter.unusedSimpArgs false
set_option linter.unusedSectionVars false
set_option linter.defProp false
set_option maxHeartbeats 1000000
open Go.Ev
def Rd (H:Heap) (b:Nat) (bytes:List UInt8) (p:Int):Prop:=getBlk H b=some [[.list (bytes.map rByte),.int .i64 p]]
theorem Rd.app {H:Heap} {b:Nat} {bytes:List UInt8} {p:Int} (h:Rd H b bytes p) (K:Heap):Rd (H++K) b bytes p:=(getBlk_left (getBlk_lt' h)).trans h
theorem Rd.ne {H:Heap} {b:Nat} {bytes:List UInt8} {p:Int} (h:Rd H b bytes p):b < H.length:=getBlk_lt' h
theorem nilCheck_ptr (b i f:Nat):nilCheck (.ptr b i f)=some (.ptr b i f):=rfl
end Go.Ev.YtmpfooibdekppaaGreatDoor
namespace Go.Ev.YtmpfooibdekppaaGreatDoor
set_option linter.unusedVariables false
set_option linter.unusedSimpArgs false
set_option linter.unusedSectionVars false
set_option linter.defProp false
set_option maxHeartbeats 1000000
open Go.Ev
end Go.Ev.YtmpfooibdekppaaGreatDoor
namespace Go.Ev.YtmpfooibdekppaaGreatDoor
set_option linter.unusedVariables false
set_option linter.unusedSimpArgs false
set_option linter.unusedSectionVars false
set_option linter.defProp false
set_option maxHeartbeats 1000000
open Go.Ev
theorem ld_loc {a:Bool} {z:Nat} (H:Heap) (row:List D) (K:Heap) (f:Nat):ld a z (H++some [row] :: K) (.ptr H.length 0 f)=part row (f,z,a):=ld_ptr (getBlk_self H [row] K) rfl
theorem st_loc {z:Nat} (H:Heap) (row:List D) (K:Heap) (f:Nat) (v:D) (h1:v.cells.length=z) (h2:v.cells.all D.isCell=true) (h3:f + z≤row.length):st z (H++some [row] :: K) (.ptr H.length 0 f) v=some (H++some [row.take f++v.cells++row.drop (f + z)] :: K):=by
 rw [st_ptr (getBlk_self H [row] K) rfl h1 h2 h3,set_self]; rfl
def cAt (pool:List SConst) (i:Int):SConst:=if 1≤i∧i≤pool.length then (pool[(i - 1).toNat]?).getD {} else {}
def nameAtM (pool:List SConst) (i:Int) (p:List UInt8→Bool):Bool:=decide ((cAt pool i).Kind=1) && p (cAt pool i).Text
def classAtM (pool:List SConst) (i:Int):Bool:=decide ((cAt pool i).Kind=2) && nameAtM pool (cAt pool i).A nameOk
def isDescM (s:List UInt8):Bool:=(descOf s).isSome
def typedM (s:List UInt8):Bool:=typeOk s || isDescM s
def memberM (pool:List SConst) (x:SConst) (p:List UInt8→Bool):Bool:=decide (x.Text=[]) && (classAtM pool x.A && (decide ((cAt pool x.B).Kind=3) && nameAtM pool (cAt pool x.B).B p))
def entryM (pool:List SConst) (x:SConst):Bool:=
 if x.Kind=1 then decide (x.A=0) && (decide (x.B=0) && (nameOk x.Text || typedM x.Text))
 else if x.Kind=2 then decide (x.Text=[]) && (decide (x.B=0) && nameAtM pool x.A nameOk)
 else if x.Kind=3 then decide (x.Text=[]) && (nameAtM pool x.A nameOk && nameAtM pool x.B typedM)
 else if x.Kind=4 then memberM pool x typeOk
 else if x.Kind=5∨x.Kind=6 then memberM pool x isDescM
 else false
def poolGo (pool:List SConst):Nat→List SConst→Int
 | _,[]=>0
 | i,x :: r=>if i=60 then 61 else if entryM pool x=true then poolGo pool (i + 1) r else i + 1
def poolCheck (pool:List SConst):Int:=poolGo pool 0 pool
abbrev PoolOk (pool:List SConst):Prop:=pool.length≤140737488351232∧∀ x ∈ pool,x.wf
theorem SConst.wf0:SConst.wf {}:=by refine ⟨?_,?_,?_,?_⟩ <;> simp [i64]
theorem cAt_wf {pool:List SConst} (w:PoolOk pool) (i:Int):(cAt pool i).wf:=by
 unfold cAt
 split
 ·rename_i h
  rw [List.getElem?_eq_getElem (by omega)]
  exact w.2 _ (List.getElem_mem _)
 ·exact SConst.wf0
theorem cAt_get {pool:List SConst} {i:Nat} (h:i < pool.length):cAt pool ((i:Int) + 1)=pool[i]:=by
 unfold cAt
 rw [if_pos (by omega),show ((i:Int) + 1 - 1).toNat=i by omega,List.getElem?_eq_getElem h]; rfl
theorem ia_pool {pool:List SConst} {H:Heap} {n:Int} (h0:0≤n) (h1:n.toNat < pool.length):ia 4 H (.list (pool.map SConst.row)) (.int .i64 n)=some (.el (pool[n.toNat]).row 0):=by
 rw [ia_list h0 (by simpa using h1) (by simp)]; simp
theorem part_const (x:SConst):part x.row (0,4,true)=some x.d:=rfl
theorem c88 (pool:List SConst) (w:PoolOk pool) (i:Int) (wi:i64 i):run E (exec E) false 88 [.list (pool.map SConst.row),.int .i64 i]=some (cAt pool i).d:=by
 rw [run_ent,e88,alloc_eq _ _ _ rfl]
 simp only [readA_int,readA_bool,readA_str,readA_list,readA_sl0,readA_sl,readA_agg,readA_tup,lnL_list,List.length_map,Option.bind_some,call_pure,optAll_cons,optAll_nil,readT_int,c21,unOp_not,asB_bool]
 have hw:=w.1
 by_cases h:1≤i∧i≤pool.length
 ·have hin:inR i 1 pool.length=true:=by simp [inR,h]
  simp only [hin,Bool.not_true,cond_false,bI_sub]
  rw [wrap_i64 (n:=i - 1) (by omega) (by omega)]
  simp only [Option.bind_some]
  rw [ia_pool (by omega) (by omega)]
  simp only [Option.bind_some,ld_el,part_const]
  rw [st_loc [] _ [] 0 _ (by rfl) (by rfl) (by simp)]
  simp only [Option.bind_some,ld_loc]
  unfold cAt
  rw [if_pos h,List.getElem?_eq_getElem (by omega)]
  rfl
 ·have hin:inR i 1 pool.length=false:=by simp only [inR,Bool.and_eq_false_iff,decide_eq_false_iff_not]; omega
  simp only [hin,Bool.not_false,cond_true]
  unfold cAt
  rw [if_neg h]
  rfl
theorem c31 (pool:List SConst) (w:PoolOk pool) (i:Int) (wi:i64 i):run E (exec E) false 31 [.list (pool.map SConst.row),.int .i64 i]=some (cAt pool i).d:=by
 rw [run_ent,e31,alloc_eq _ _ _ rfl]
 simp only [readA_int,readA_bool,readA_str,readA_list,readA_sl0,readA_sl,readA_agg,readA_tup,lnL_list,List.length_map,Option.bind_some,call_pure,optAll_cons,optAll_nil,readT_int,c14,unOp_not,asB_bool]
 have hw:=w.1
 by_cases h:1≤i∧i≤pool.length
 ·have hin:inR i 1 pool.length=true:=by simp [inR,h]
  simp only [hin,cond_true,bI_sub]
  rw [wrap_i64 (n:=i - 1) (by omega) (by omega)]
  simp only [Option.bind_some]
  rw [ia_pool (by omega) (by omega)]
  simp only [Option.bind_some,ld_el,part_const]
  rw [st_loc [] _ [] 0 _ (by rfl) (by rfl) (by simp)]
  simp only [Option.bind_some,ld_loc]
  unfold cAt
  rw [if_pos h,List.getElem?_eq_getElem (by omega)]
  rfl
 ·have hin:inR i 1 pool.length=false:=by simp only [inR,Bool.and_eq_false_iff,decide_eq_false_iff_not]; omega
  simp only [hin,cond_false]
  unfold cAt
  rw [if_neg h]
  rfl
theorem pool_call {g:FuncId} {pool:List SConst} {i:Int} {H:Heap} {t:D} (h:run E (exec E) false g [.list (pool.map SConst.row),.int .i64 i]=some t):callFn E (exec E) .pure g [.list (pool.map SConst.row),.int .i64 i] H=some (t,H):=pure_call (by simp) h
theorem str_call {g:FuncId} {s:List UInt8} {H:Heap} {t:D} (h:run E (exec E) false g [.str s]=some t):callFn E (exec E) .pure g [.str s] H=some (t,H):=pure_call (by simp) h
theorem put_const (H:Heap) (x:SConst) (row:List D) (hr:row.length=4):st 4 (H++[some [row]]) (.ptr H.length 0 0) x.d=some (H++[some [x.row]]):=by
 rw [st_loc (z:=4) H row [] 0 x.d rfl rfl (by omega)]
 simp [List.drop_of_length_le (show row.length≤4 by omega)]; rfl
theorem ld_c0 (H K:Heap) (x:SConst):ld false 1 (H++some [x.row] :: K) (.ptr H.length 0 (0 + 0))=some (.int .i64 x.Kind):=ld_loc H _ K 0
theorem ld_c1 (H K:Heap) (x:SConst):ld false 1 (H++some [x.row] :: K) (.ptr H.length 0 (0 + 1))=some (.str x.Text):=ld_loc H _ K 1
theorem ld_c2 (H K:Heap) (x:SConst):ld false 1 (H++some [x.row] :: K) (.ptr H.length 0 (0 + 2))=some (.int .i64 x.A):=ld_loc H _ K 2
theorem ld_c3 (H K:Heap) (x:SConst):ld false 1 (H++some [x.row] :: K) (.ptr H.length 0 (0 + 3))=some (.int .i64 x.B):=ld_loc H _ K 3
theorem c75 (pool:List SConst) (w:PoolOk pool) (i:Int) (wi:i64 i) (g:FuncId) (cs:List D) (p:List UInt8→Bool) (hg:∀ s H,s.length≤140737488351232→callFn E (exec E) (modeT 75 g) g ([.str s]++cs) H=some (.bool (p s),H)) (H:Heap) :
  ent E 75 [.list (pool.map SConst.row),.int .i64 i,.fn g cs] H=some (.bool (nameAtM pool i p),H++[some [(cAt pool i).row]]):=by
 rw [e75,pool_call (c88 pool w i wi)]
 simp only [Option.bind_some]
 rw [alloc_eq _ _ _ rfl]
 rw [put_const _ _ _ rfl]
 simp only [Option.bind_some,fa_ptr,ld_c0,ld_c1,bI_eql,asB_bool,asFn_fn,nameAtM]
 by_cases h:(cAt pool i).Kind=1
 ·simp only [h,decide_true,cond_true,hg _ _ (cAt_wf w i).2.1,Option.bind_some,ret_one,Bool.true_and]
 ·simp only [h,decide_false,cond_false,ret_one,Bool.false_and]
theorem c131 (pool:List SConst) (w:PoolOk pool) (i:Int) (wi:i64 i):run E (exec E) false 131 [.list (pool.map SConst.row),.int .i64 i]=some (.bool (classAtM pool i)):=by
 rw [run_ent,e131,pool_call (c88 pool w i wi)]
 simp only [Option.bind_some]
 rw [alloc_eq _ _ _ rfl]
 rw [put_const _ _ _ rfl]
 simp only [Option.bind_some,fa_ptr,ld_c0,ld_c2,bI_eql,asB_bool,call_raw,classAtM]
 by_cases h:(cAt pool i).Kind=2
 ·simp only [h,decide_true,cond_true]
  rw [c75 pool w _ (cAt_wf w i).2.2.1 76 [] nameOk (fun s H hs=>str_call (c76 s hs))]
  simp only [readA_int,readA_bool,readA_str,readA_list,readA_sl0,readA_sl,readA_agg,readA_tup,Option.bind_some,ret_one,Bool.true_and,readT_bool]
 ·simp only [readA_int,readA_bool,readA_str,readA_list,readA_sl0,readA_sl,readA_agg,readA_tup,h,decide_false,cond_false,ret_one,Bool.false_and,Option.bind_some,readT_bool]
theorem c129 (s:List UInt8) (hs:s.length≤140737488351232):run E (exec E) false 129 [.str s]=some (.bool (typedM s)):=by
 rw [run_ent,e129,str_call (c77 s hs)]
 simp only [Option.bind_some,asB_bool]
 cases h:typeOk s with
 | true=>simp [typedM,h]
 | false=>
  simp only [cond_false]
  rw [str_call (c80 s hs)]
  simp [typedM,h,isDescM]
theorem c130 (pool:List SConst) (w:PoolOk pool) (x:SConst) (wx:x.wf) (g:FuncId) (cs:List D) (p:List UInt8→Bool) (hg:∀ s H,s.length≤140737488351232→callFn E (exec E) (modeT 75 g) g ([.str s]++cs) H=some (.bool (p s),H)) (H:Heap) (p1 p2:Nat) (h1:getBlk H p1=some [[.list (pool.map SConst.row)]]) (h2:getBlk H p2=some [x.row]) :
  ∃ H',ent E 130 [.fn g cs,.ptr p1 0 0,.ptr p2 0 0] H=some (.bool (memberM pool x p),H'):=by
 have l1:∀ K,ld false 1 (H++K) (.ptr p1 0 0)=some (.list (pool.map SConst.row)):=fun K=>by rw [ld_ptr (getBlk_app h1) rfl]; rfl
 have l2:∀ K f,ld false 1 (H++K) (.ptr p2 0 (0 + f))=x.row[0 + f]?:=fun K f=>by rw [ld_ptr (getBlk_app h2) rfl]; rfl
 rw [e130]
 have l10:=l1 []
 have l20:=l2 [] 3
 rw [List.append_nil] at l10 l20
 simp only [l10,l20,fa_ptr,Option.bind_some,show x.row[0 + 3]? = some (.int .i64 x.B) from rfl]
 rw [pool_call (c88 pool w x.B wx.2.2.2)]
 simp only [Option.bind_some]
 rw [alloc_eq _ _ _ rfl]
 rw [put_const _ _ _ rfl]
 simp only [Option.bind_some,l2,show x.row[0 + 1]? = some (.str x.Text) from rfl,bS_eql,asB_bool,memberM]
 by_cases ht:x.Text=[]
 ·simp only [ht,decide_true,cond_true,l1,l2,Option.bind_some,show x.row[0 + 2]? = some (.int .i64 x.A) from rfl,Bool.true_and]
  rw [pool_call (c131 pool w x.A wx.2.2.1)]
  simp only [Option.bind_some,asB_bool]
  cases hc:classAtM pool x.A with
  | false=>exact ⟨_,rfl⟩
  | true=>
   simp only [cond_true,fa_ptr,ld_c0,ld_c3,Option.bind_some,bI_eql,asB_bool,Bool.true_and]
   by_cases hk:(cAt pool x.B).Kind=3
   ·simp only [hk,decide_true,cond_true,Bool.true_and,l1,Option.bind_some,call_raw]
    rw [c75 pool w _ (cAt_wf w x.B).2.2.2 g cs p hg]
    exact ⟨_,rfl⟩
   ·simp only [hk,decide_false,cond_false,Bool.false_and]
    exact ⟨_,rfl⟩
 ·simp only [ht,decide_false,cond_false,Bool.false_and]
  exact ⟨_,rfl⟩
theorem c70 (pool:List SConst) (w:PoolOk pool) (x:SConst) (wx:x.wf):run E (exec E) false 70 [.list (pool.map SConst.row),x.d]=some (.bool (entryM pool x)):=by
 rw [run_ent,e70]
 rw [alloc_eq _ _ _ rfl,alloc_eq _ _ _ rfl]
 have l1:∀ K,ld false 1 ([some [D.cells (.list (pool.map SConst.row))]]++K) (.ptr 0 0 0)=some (.list (pool.map SConst.row)):=fun K=>rfl
 have hA:∀ K:Heap,([]:Heap)++[some [D.cells (.list (pool.map SConst.row))]]++[some [D.cells x.d]]=([some [D.cells (.list (pool.map SConst.row))]]:Heap)++some [x.row] :: []:=fun K=>rfl
 have hn:([]++[some [D.cells (.list (pool.map SConst.row))]]:Heap).length=1:=rfl
 rw [hA []]
 generalize hG:([some [D.cells (.list (pool.map SConst.row))]]:Heap)++some [x.row] :: []=G
 have g1:getBlk G 0=some [[.list (pool.map SConst.row)]]:=by rw [← hG]; rfl
 have g2:getBlk G 1=some [x.row]:=by rw [← hG]; rfl
 have l1:∀ K,ld false 1 (G++K) (.ptr 0 0 0)=some (.list (pool.map SConst.row)):=fun K=>by rw [ld_ptr (getBlk_app g1) rfl]; rfl
 have l2:∀ K f,ld false 1 (G++K) (.ptr 1 0 (0 + f))=x.row[0 + f]?:=fun K f=>by rw [ld_ptr (getBlk_app g2) rfl]; rfl
 have l10:=l1 []
 have l20:=fun f=>l2 [] f
 simp only [List.append_nil] at l10 l20
 simp only [hn,List.length_nil]
 have r0:x.row[0 + 0]? = some (.int .i64 x.Kind):=rfl
 have r1:x.row[0 + 1]? = some (.str x.Text):=rfl
 have r2:x.row[0 + 2]? = some (.int .i64 x.A):=rfl
 have r3:x.row[0 + 3]? = some (.int .i64 x.B):=rfl
 simp only [fa_ptr,Option.bind_some,l10,l20,l1,l2,r0,r1,r2,r3,bI_eql,asB_bool]
 unfold entryM
 by_cases k1:x.Kind=1
 ·simp only [k1,decide_true,cond_true,if_true]
  by_cases ha:x.A=0
  ·by_cases hb:x.B=0
   ·simp only [ha,hb,decide_true,cond_true,Bool.true_and]
    rw [str_call (c76 _ wx.2.1)]
    simp only [Option.bind_some,asB_bool]
    cases hn:nameOk x.Text with
    | true=>simp
    | false=>
     simp only [cond_false,l20,r1,Option.bind_some]
     rw [str_call (c129 _ wx.2.1)]
     simp
   ·simp [ha,hb]
  ·simp [ha]
 simp only [k1,decide_false,cond_false,if_false]
 by_cases k2:x.Kind=2
 ·simp only [k2,decide_true,cond_true,if_true,bS_eql,Option.bind_some,asB_bool]
  by_cases ha:x.Text=[]
  ·by_cases hb:x.B=0
   ·simp only [ha,hb,decide_true,cond_true,Bool.true_and,call_raw]
    rw [c75 pool w _ wx.2.2.1 76 [] nameOk (fun s H hs=>str_call (c76 s hs))]
    simp
   ·simp [ha,hb]
  ·simp [ha]
 simp only [k2,decide_false,cond_false,if_false]
 by_cases k3:x.Kind=3
 ·simp only [k3,decide_true,cond_true,if_true,bS_eql,Option.bind_some,asB_bool]
  by_cases ha:x.Text=[]
  ·simp only [ha,decide_true,cond_true,Bool.true_and,call_raw]
   rw [c75 pool w _ wx.2.2.1 76 [] nameOk (fun s H hs=>str_call (c76 s hs))]
   simp only [Option.bind_some,asB_bool]
   cases hn:nameAtM pool x.A nameOk with
   | false=>simp
   | true=>
    simp only [cond_true,l1,l2,r3,Option.bind_some]
    rw [c75 pool w _ wx.2.2.2 129 [] typedM (fun s H hs=>str_call (c129 s hs))]
    simp
  ·simp [ha]
 simp only [k3,decide_false,cond_false,if_false]
 by_cases k4:x.Kind=4
 ·simp only [k4,decide_true,cond_true,if_true,call_raw]
  obtain ⟨H',e⟩:=c130 pool w x wx 77 [] typeOk (fun s H hs=>str_call (c77 s hs)) G 0 1 g1 g2
  rw [e]
  simp
 simp only [k4,decide_false,cond_false,if_false]
 have hd:∀ s H,s.length≤140737488351232→callFn E (exec E) (modeT 75 80) 80 ([.str s]++[]) H=some (.bool (isDescM s),H):=fun s H hs=>str_call (c80 s hs)
 have fin:(J E 70 14 [.fn 130 [.ptr 0 0 0,.ptr 1 0 0]] G).bind (fun q=>readT false depth q.2 q.1)=some (.bool (memberM pool x isDescM)):=by
  rw [j70_14,asFn_fn]
  obtain ⟨H',e⟩:=c130 pool w x wx 80 [] isDescM hd G 0 1 g1 g2
  rw [show callFn E (exec E) (modeT 70 130) 130 ([.fn 80 []]++[.ptr 0 0 0,.ptr 1 0 0]) G=some (.bool (memberM pool x isDescM),H') from e]
  simp
 by_cases k5:x.Kind=5
 ·simp only [k5,decide_true,cond_true,asB_bool,if_true,true_or]
  exact fin
 simp only [k5,decide_false,cond_false]
 by_cases k6:x.Kind=6
 ·simp only [k6,decide_true,cond_true,if_true,or_true]
  exact fin
 ·simp only [k6,decide_false,cond_false,or_self,if_false]
  rw [j70_15]
  simp
theorem c40_2 (pool:List SConst) (w:PoolOk pool):∀ i,i≤pool.length→∀ H,∃ H',J E 40 2 [.list (pool.map SConst.row),.list (pool.map SConst.row),.int .i64 pool.length,.int .i64 i] H=some (.int .i64 (poolGo pool i (pool.drop i)),H'):=by
 have hw:=w.1
 apply loop_up
 ·intro H
  rw [j40_2]
  simp only [bI_lss,Int.lt_irrefl,decide_false,Option.bind_some,asB_bool,cond_false,List.drop_length,poolGo]
  exact ⟨_,rfl⟩
 ·intro i hi ih H
  have hlt:((i:Nat):Int) < (pool.length:Int):=by omega
  rw [j40_2,List.drop_eq_getElem_cons hi,poolGo]
  simp only [bI_lss,hlt,decide_true,Option.bind_some,asB_bool,cond_true]
  rw [ia_pool (n:=(i:Int)) (by omega) (by omega)]
  simp only [Option.bind_some,ld_el,part_const,Int.toNat_natCast]
  rw [alloc_eq _ _ _ rfl]
  rw [put_const _ _ _ rfl]
  simp only [Option.bind_some,bI_eql,asB_bool]
  by_cases h60:i=60
  ·subst h60
   simp only [if_true]
   exact ⟨_,rfl⟩
  ·simp only [h60,show ¬ (i:Int)=60 by omega,decide_false,cond_false,if_false,ld_loc,part_const,Option.bind_some]
   rw [pure_call (ts:=[.list (pool.map SConst.row),(pool[i]).d]) (by simp [SConst.readD]) (c70 pool w _ (w.2 _ (List.getElem_mem hi)))]
   simp only [Option.bind_some,unOp_not,asB_bool,bI_add]
   rw [wrap_i64 (n:=(i:Int) + 1) (by omega) (by omega)]
   cases he:entryM pool pool[i] with
   | false=>exact ⟨_,rfl⟩
   | true=>
    simp only [Bool.not_true,cond_false,if_true,Option.bind_some]
    obtain ⟨H',e⟩:=ih (H++[some [(pool[i]).row]])
    exact ⟨H',e⟩
theorem c40 (pool:List SConst) (w:PoolOk pool):run E (exec E) false 40 [.list (pool.map SConst.row)]=some (.int .i64 (poolCheck pool)):=by
 rw [run_ent,e40]
 obtain ⟨H',e⟩:=c40_2 pool w 0 (by omega) []
 simp only [lnL_list,List.length_map,Option.bind_some]
 rw [show D.int .i64 0=D.int .i64 ((0:Nat):Int) from rfl,e]
 simp [poolCheck]
theorem c155 (pool:List SConst) (w:PoolOk pool) (i:Int) (wi:i64 i) (k:Int):run E (exec E) false 155 [.list (pool.map SConst.row),.int .i64 i,.int .i64 k]=some (.bool (decide ((cAt pool i).Kind=k))):=by
 rw [run_ent,e155,pool_call (c31 pool w i wi)]
 simp only [readA_int,readA_bool,readA_str,readA_list,readA_sl0,readA_sl,readA_agg,readA_tup,Option.bind_some,fd_agg,show part (cAt pool i).row (0,1,false)=some (.int .i64 (cAt pool i).Kind) from rfl,bI_eql,ret_one,readT_bool]
def classM (pool:List SConst) (i:Int):List UInt8:=if classAtM pool i=true then (cAt pool (cAt pool i).A).Text else []
def textM (pool:List SConst) (i:Int):List UInt8:=if (cAt pool i).Kind=1 then (cAt pool i).Text else []
theorem textM_len {pool:List SConst} (w:PoolOk pool) (i:Int):(textM pool i).length≤140737488351232:=by
 unfold textM
 split
 ·exact (cAt_wf w i).2.1
 ·simp
theorem nameAt_text {pool:List SConst} {i:Int} {p:List UInt8→Bool} (hp:p []=false):nameAtM pool i p=p (textM pool i):=by
 unfold nameAtM textM
 by_cases h:(cAt pool i).Kind=1 <;> simp [h,hp]
theorem nameOk_nil:nameOk []=false:=rfl
theorem typeOk_nil:typeOk []=false:=rfl
theorem isDescM_nil:isDescM []=false:=rfl
theorem typedM_nil:typedM []=false:=rfl
theorem classM_nil (pool:List SConst) (i:Int):decide (classM pool i=[]) = !classAtM pool i:=by
 unfold classM
 cases h:classAtM pool i with
 | false=>simp
 | true=>
  have:¬ (cAt pool (cAt pool i).A).Text=[]:=by
   intro e
   simp [classAtM,nameAtM,e,nameOk_nil] at h
  simp [this]
theorem c32 (pool:List SConst) (w:PoolOk pool) (i:Int) (wi:i64 i):run E (exec E) false 32 [.list (pool.map SConst.row),.int .i64 i]=some (.str (classM pool i)):=by
 have hw:=cAt_wf w i
 have hw2:=cAt_wf w (cAt pool i).A
 rw [run_ent,e32,pool_call (c31 pool w i wi)]
 simp only [Option.bind_some]
 rw [alloc_eq _ _ _ rfl,put_const _ _ _ rfl]
 simp only [Option.bind_some,fa_ptr,ld_c2]
 rw [pool_call (c31 pool w _ hw.2.2.1)]
 simp only [Option.bind_some]
 rw [alloc_eq _ _ _ rfl,put_const _ _ _ rfl]
 simp only [Option.bind_some,fa_ptr,List.append_assoc,List.singleton_append,ld_c0,bI_neq,asB_bool,List.length_append,List.length_nil,List.length_singleton,Nat.zero_add,List.nil_append,classM,classAtM,nameAtM]
 have a0:=ld_c0 [] [some [(cAt pool (cAt pool i).A).row]] (cAt pool i)
 have b0:=ld_c0 [some [(cAt pool i).row]] [] (cAt pool (cAt pool i).A)
 have b1:=ld_c1 [some [(cAt pool i).row]] [] (cAt pool (cAt pool i).A)
 simp only [List.nil_append,List.length_nil,List.length_singleton,List.singleton_append] at a0 b0 b1
 simp only [a0,Option.bind_some,bI_neq,asB_bool]
 by_cases h1:(cAt pool i).Kind=2
 ·simp only [h1,decide_true,Bool.not_true,cond_false,b0,Option.bind_some,bI_neq,asB_bool]
  by_cases h2:(cAt pool (cAt pool i).A).Kind=1
  ·simp only [h2,decide_true,Bool.not_true,cond_false,b1,Option.bind_some]
   rw [str_call (c63 _ hw2.2.1)]
   simp only [Option.bind_some,unOp_not,asB_bool]
   cases h3:nameOk (cAt pool (cAt pool i).A).Text <;> simp [b1]
  ·simp [h2]
 ·simp [h1]
theorem c33 (pool:List SConst) (w:PoolOk pool) (i:Int) (wi:i64 i):run E (exec E) false 33 [.list (pool.map SConst.row),.int .i64 i]=some (.str (textM pool i)):=by
 rw [run_ent,e33,pool_call (c31 pool w i wi)]
 simp only [Option.bind_some]
 rw [alloc_eq _ _ _ rfl,put_const _ _ _ rfl]
 simp only [Option.bind_some,fa_ptr,ld_c0,ld_c1,bI_neq,asB_bool,textM]
 by_cases h:(cAt pool i).Kind=1 <;> simp [h]
theorem c34 (pool:List SConst) (w:PoolOk pool) (i:Int) (wi:i64 i):run E (exec E) false 34 [.list (pool.map SConst.row),.int .i64 i]=some (.tup [.str (classM pool (cAt pool i).A),.str (textM pool (cAt pool (cAt pool i).B).A),.str (textM pool (cAt pool (cAt pool i).B).B)]):=by
 have hw:=cAt_wf w i
 have hw2:=cAt_wf w (cAt pool i).B
 rw [run_ent,e34,pool_call (c31 pool w i wi)]
 simp only [Option.bind_some]
 rw [alloc_eq _ _ _ rfl,put_const _ _ _ rfl]
 simp only [Option.bind_some,fa_ptr,ld_c3]
 rw [pool_call (c31 pool w _ hw.2.2.2)]
 simp only [Option.bind_some]
 rw [alloc_eq _ _ _ rfl,put_const _ _ _ rfl]
 simp only [Option.bind_some,fa_ptr,List.append_assoc,List.singleton_append,List.length_append,List.length_nil,List.length_singleton,Nat.zero_add,List.nil_append]
 have a2:=ld_c2 [] [some [(cAt pool (cAt pool i).B).row]] (cAt pool i)
 have b2:=ld_c2 [some [(cAt pool i).row]] [] (cAt pool (cAt pool i).B)
 have b3:=ld_c3 [some [(cAt pool i).row]] [] (cAt pool (cAt pool i).B)
 simp only [List.nil_append,List.length_nil,List.length_singleton,List.singleton_append] at a2 b2 b3
 simp only [a2,Option.bind_some]
 rw [pool_call (c32 pool w _ hw.2.2.1)]
 simp only [b2,Option.bind_some]
 rw [pool_call (c33 pool w _ hw2.2.2.1)]
 simp only [b3,Option.bind_some]
 rw [pool_call (c33 pool w _ hw2.2.2.2)]
 simp
theorem c102 (pool:List SConst) (w:PoolOk pool) (i:Nat) (hi:i < pool.length):run E (exec E) false 102 [.list (pool.map SConst.row),.int .i64 i]=some (.bool (entryM pool pool[i])):=by
 have hwl:=w.1
 have wx:=w.2 _ (List.getElem_mem hi)
 have hc:=cAt_get hi
 rw [run_ent,e102,ia_pool (n:=(i:Int)) (by omega) (by omega)]
 simp only [Option.bind_some,ld_el,part_const,Int.toNat_natCast]
 rw [alloc_eq _ _ _ rfl,put_const _ _ _ rfl]
 generalize hx:pool[i]=x at wx hc
 simp only [Option.bind_some,fa_ptr,ld_c0,ld_c1,ld_c2,ld_c3,bI_eql,asB_bool]
 unfold entryM
 by_cases k1:x.Kind=1
 ·simp only [k1,decide_true,cond_true,if_true]
  by_cases ha:x.A=0
  ·by_cases hb:x.B=0
   ·simp only [ha,hb,decide_true,cond_true,Bool.true_and]
    rw [str_call (c63 _ wx.2.1)]
    simp only [Option.bind_some,asB_bool]
    cases hn:nameOk x.Text with
    | true=>simp
    | false=>
     simp only [cond_false,ld_c1,Option.bind_some]
     rw [str_call (c104 _ wx.2.1)]
     simp only [Option.bind_some,asB_bool]
     cases ht:typeOk x.Text with
     | true=>simp [typedM,ht]
     | false=>
      simp only [cond_false,ld_c1,Option.bind_some]
      rw [str_call (c105 _ wx.2.1)]
      simp [typedM,ht,isDescM]
   ·simp [ha,hb]
  ·simp [ha]
 simp only [k1,decide_false,cond_false,if_false]
 rw [bI_add,wrap_i64 (n:=(i:Int) + 1) (by omega) (by omega)]
 by_cases k2:x.Kind=2
 ·simp only [k2,decide_true,cond_true,if_true,bS_eql,Option.bind_some,asB_bool]
  by_cases ha:x.Text=[]
  ·by_cases hb:x.B=0
   ·simp only [ha,hb,decide_true,cond_true,Bool.true_and]
    rw [pool_call (c32 pool w _ (by simp [i64]; omega))]
    simp only [readA_int,readA_bool,readA_str,readA_list,readA_sl0,readA_sl,readA_agg,readA_tup,Option.bind_some,bS_neq,classM_nil,ret_one,readT_bool,Bool.not_not,classAtM,hc,k2,decide_true,Bool.true_and]
   ·simp [ha,hb]
  ·simp [ha]
 simp only [k2,decide_false,cond_false,if_false]
 by_cases k3:x.Kind=3
 ·simp only [k3,decide_true,cond_true,if_true,bS_eql,Option.bind_some,asB_bool]
  rw [pool_call (c33 pool w _ wx.2.2.2)]
  simp only [Option.bind_some,ld_c1,ld_c2,bS_eql,asB_bool]
  by_cases ha:x.Text=[]
  ·simp only [ha,decide_true,cond_true,Bool.true_and]
   rw [pool_call (c33 pool w _ wx.2.2.1)]
   simp only [Option.bind_some]
   rw [str_call (c63 _ (textM_len w _)),nameAt_text nameOk_nil,nameAt_text typedM_nil]
   simp only [Option.bind_some,asB_bool]
   cases hn:nameOk (textM pool x.A) with
   | false=>simp
   | true=>
    simp only [cond_true]
    rw [str_call (c104 _ (textM_len w _))]
    simp only [Option.bind_some,asB_bool]
    cases ht:typeOk (textM pool x.B) with
    | true=>simp [typedM,ht]
    | false=>
     simp only [cond_false]
     rw [str_call (c105 _ (textM_len w _))]
     simp [typedM,ht,isDescM]
  ·simp [ha]
 simp only [k3,decide_false,cond_false,if_false,Option.bind_some]
 rw [pool_call (c34 pool w _ (by simp [i64]; omega)),hc]
 simp only [Option.bind_some,extract_tup,List.getElem?_cons_zero,List.getElem?_cons_succ,ld_c0]
 rw [pure_call (ts:=[.int .i64 x.Kind,.int .i64 4,.int .i64 6]) (by simp) (c14 _ _ _)]
 simp only [Option.bind_some,unOp_not,asB_bool]
 by_cases hin:inR x.Kind 4 6=true
 ·simp only [hin,Bool.not_true,cond_false,ld_c1,Option.bind_some,bS_neq,asB_bool]
  have hm:∀ p:List UInt8→Bool,p []=false→memberM pool x p=(decide (x.Text=[]) && (classAtM pool x.A && (decide ((cAt pool x.B).Kind=3) && p (textM pool (cAt pool x.B).B)))):=fun p hp=>by rw [memberM,nameAt_text hp]
  have hE:(if x.Kind=4 then memberM pool x typeOk else if x.Kind=5∨x.Kind=6 then memberM pool x isDescM else false)=(decide (x.Text=[]) && (classAtM pool x.A && (decide ((cAt pool x.B).Kind=3) && (if x.Kind=4 then typeOk (textM pool (cAt pool x.B).B) else isDescM (textM pool (cAt pool x.B).B))))):=by
   by_cases k4:x.Kind=4
   ·simp only [k4,if_true,hm typeOk typeOk_nil]
   ·have:x.Kind=5∨x.Kind=6:=by simp only [inR,Bool.and_eq_true,decide_eq_true_eq] at hin; omega
    simp only [k4,if_false,this,if_true,hm isDescM isDescM_nil]
  rw [hE]
  by_cases ha:x.Text=[]
  ·simp only [ha,decide_true,Bool.not_true,cond_false,ld_c2,Option.bind_some,Bool.true_and]
   rw [pool_call (c32 pool w _ wx.2.2.1)]
   simp only [Option.bind_some,bS_eql,classM_nil,asB_bool]
   cases hcl:classAtM pool x.A with
   | false=>simp
   | true=>
    simp only [Bool.not_true,cond_false,ld_c3,Option.bind_some,Bool.true_and]
    rw [pure_call (ts:=[.list (pool.map SConst.row),.int .i64 x.B,.int .i64 3]) (by simp) (c155 pool w _ wx.2.2.2 3)]
    simp only [Option.bind_some,unOp_not,asB_bool]
    by_cases hk:(cAt pool x.B).Kind=3
    ·simp only [hk,decide_true,Bool.not_true,cond_false,ld_c0,Option.bind_some,bI_eql,asB_bool,Bool.true_and]
     by_cases k4:x.Kind=4
     ·simp only [k4,decide_true,cond_true,if_true]
      rw [str_call (c104 _ (textM_len w _))]
      simp
     ·simp only [k4,decide_false,cond_false,if_false]
      rw [str_call (c105 _ (textM_len w _))]
      simp [isDescM]
    ·simp [hk]
  ·simp [ha]
 ·have hin:inR x.Kind 4 6=false:=by simpa using hin
  have:¬ x.Kind=4∧¬ (x.Kind=5∨x.Kind=6):=by simp only [inR,Bool.and_eq_false_iff,decide_eq_false_iff_not] at hin; omega
  simp [hin,this]
theorem c58_2 (pool:List SConst) (w:PoolOk pool) (H:Heap):∀ i,i≤pool.length→i≤60→J E 58 2 [.list (pool.map SConst.row),.int .i64 i] H=some (.int .i64 (poolGo pool i (pool.drop i)),H):=by
 have hw:=w.1
 apply loop_up (P:=fun i=>i≤60→J E 58 2 [.list (pool.map SConst.row),.int .i64 i] H=some (.int .i64 (poolGo pool i (pool.drop i)),H))
 ·intro h60
  rw [j58_2]
  simp only [lnL_list,List.length_map,bI_lss,bI_gtr,Int.lt_irrefl,decide_false,Option.bind_some,asB_bool,cond_false,List.drop_length,poolGo,show ¬ (60:Int) < (pool.length:Int) by omega,ret_one]
 ·intro i hi ih h60
  have hlt:((i:Nat):Int) < (pool.length:Int):=by omega
  rw [j58_2,List.drop_eq_getElem_cons hi,poolGo]
  simp only [lnL_list,List.length_map,bI_lss,bI_gtr,hlt,decide_true,Option.bind_some,asB_bool,cond_true]
  by_cases h:i=60
  ·subst h
   have:(60:Int) < pool.length:=by omega
   simp [this]
  ·have h2:((i:Nat):Int) < 60:=by omega
   simp only [h,h2,decide_true,cond_true,if_false]
   rw [pool_call (c102 pool w i hi)]
   simp only [Option.bind_some,unOp_not,asB_bool,bI_add]
   rw [wrap_i64 (n:=(i:Int) + 1) (by omega) (by omega)]
   cases he:entryM pool pool[i] with
   | false=>simp
   | true=>
    simp only [Bool.not_true,cond_false,if_true,Option.bind_some]
    exact ih (by omega)
theorem c58 (pool:List SConst) (w:PoolOk pool):run E (exec E) false 58 [.list (pool.map SConst.row)]=some (.int .i64 (poolCheck pool)):=by
 rw [run_ent,e58]
 rw [show D.int .i64 0=D.int .i64 ((0:Nat):Int) from rfl,c58_2 pool w [] 0 (by omega) (by omega)]
 simp [poolCheck]
end Go.Ev.YtmpfooibdekppaaGreatDoor
namespace Go.Ev.YtmpfooibdekppaaGreatDoor
set_option linter.unusedVariables false
set_option linter.unusedSimpArgs false
set_option linter.unusedSectionVars false
set_option linter.defProp false
set_option maxHeartbeats 1000000
open Go.Ev
theorem slL_to {esz:Nat} {H:Heap} {rows:Rows} {n:Int} (h0:0≤n) (h1:n≤rows.length) (hf:rowsFit esz rows=true):slL esz H (.list rows) none (some (.int .i64 n)) none=some (.list (rows.take n.toNat)):=by
 simp [slL,bound,h0,h1,hf]
theorem put_loc {z:Nat} (H:Heap) (row:List D) (r:List D) (hr:row.length=z) (hl:r.length=z) (hc:r.all D.isCell=true):st z (H++[some [row]]) (.ptr H.length 0 0) (.agg r)=some (H++[some [r]]):=by
 rw [st_loc (z:=z) H row [] 0 (.agg r) hl hc (by omega)]
 simp [List.drop_of_length_le (show row.length≤z by omega)]; rfl
theorem ld_in {H:Heap} {b:Nat} {row:List D} (h:getBlk H b=some [row]) (K:Heap) (f:Nat):ld false 1 (H++K) (.ptr b 0 (0 + f))=row[0 + f]?:=by rw [ld_ptr (getBlk_app h) rfl]; rfl
theorem ld_in0 {H:Heap} {b:Nat} {row:List D} (h:getBlk H b=some [row]) (f:Nat):ld false 1 H (.ptr b 0 (0 + f))=row[0 + f]?:=by rw [ld_ptr h rfl]; rfl
end Go.Ev.YtmpfooibdekppaaGreatDoor
namespace Go.Ev.YtmpfooibdekppaaGreatDoor
set_option linter.unusedVariables false
set_option linter.unusedSimpArgs false
set_option linter.unusedSectionVars false
set_option linter.defProp false
set_option maxHeartbeats 1000000
open Go.Ev
end Go.Ev.YtmpfooibdekppaaGreatDoor
namespace Go.Ev.YtmpfooibdekppaaGreatDoor
set_option linter.unusedVariables false
set_option linter.unusedSimpArgs false
set_option linter.unusedSectionVars false
set_option linter.defProp false
set_option maxHeartbeats 1000000
open Go.Ev
end Go.Ev.YtmpfooibdekppaaGreatDoor
namespace Go.Ev.YtmpfooibdekppaaGreatDoor
set_option linter.unusedVariables false
set_option linter.unusedSimpArgs false
set_option linter.unusedSectionVars false
set_option linter.defProp false
set_option maxHeartbeats 1000000
open Go.Ev
theorem SConst_dneq (a b:SConst):bA [.int .i64,.str,.int .i64,.int .i64] .neq a.d b.d=some (.bool (!decide (a=b))):=by
 obtain ⟨a0,a1,a2,a3⟩:=a
 obtain ⟨b0,b1,b2,b3⟩:=b
 simp only [bA,SConst.row,scEqs,scEq,Option.bind_some,Option.map_some,if_true,and_self]
 congr 2
 rw [Bool.eq_iff_iff]
 simp
theorem SField_dneq (a b:SField):bA [.int .i64,.int .i64,.int .i64] .neq a.d b.d=some (.bool (!decide (a=b))):=by
 obtain ⟨a0,a1,a2⟩:=a
 obtain ⟨b0,b1,b2⟩:=b
 simp only [bA,SField.row,scEqs,scEq,Option.bind_some,Option.map_some,if_true,and_self]
 congr 2
 rw [Bool.eq_iff_iff]
 simp
theorem STrap_dneq (a b:STrap):bA [.int .i64,.int .i64,.int .i64,.int .i64] .neq a.d b.d=some (.bool (!decide (a=b))):=by
 obtain ⟨a0,a1,a2,a3⟩:=a
 obtain ⟨b0,b1,b2,b3⟩:=b
 simp only [bA,STrap.row,scEqs,scEq,Option.bind_some,Option.map_some,if_true,and_self]
 congr 2
 rw [Bool.eq_iff_iff]
 simp
theorem SKind_dneq (a b:SKind):bA [.int .i64,.int .i64] .neq a.d b.d=some (.bool (!decide (a=b))):=by
 obtain ⟨a0,a1⟩:=a
 obtain ⟨b0,b1⟩:=b
 simp only [bA,SKind.row,scEqs,scEq,Option.bind_some,Option.map_some,if_true,and_self]
 congr 2
 rw [Bool.eq_iff_iff]
 simp
theorem c125_4 (a b:List Int) (wa:a.length≤140737488351232) (hlen:a.length=b.length) (H:Heap):∀ i,i≤a.length→J E 125 4 [.list (a.map rInt),.list (b.map rInt),.int .i64 a.length,.int .i64 i] H=some (.bool (decide (a.drop i=b.drop i)),H):=by
 apply loop_up
 ·rw [j125_4]; simp [hlen]
 ·intro i hi ih
  have hi':i < b.length:=by omega
  have hlt:((i:Nat):Int) < (a.length:Int):=by omega
  rw [j125_4]
  rw [ia_list (n:=(i:Int)) (esz:=1) (by omega) (by simpa using hi) (by simp [rInt])]
  rw [ia_list (n:=(i:Int)) (esz:=1) (by omega) (by simpa using hi') (by simp [rInt])]
  simp only [bI_lss,hlt,decide_true,cond_true,asB_bool,Option.bind_some,ld_el,Int.toNat_natCast,List.getElem_map]
  rw [show part (rInt a[i]) (0,1,false)=some (.int .i64 a[i]) from rfl,show part (rInt b[i]) (0,1,false)=some (.int .i64 b[i]) from rfl]
  simp only [Option.bind_some,bI_neq,bI_add,asB_bool]
  rw [wrap_i64 (n:=(i:Int) + 1) (by omega) (by omega),drop_dec hi hi']
  by_cases h:a[i]=b[i]
  ·simp only [h,decide_true,Bool.not_true,cond_false,Bool.true_and]
   exact ih
  ·simp [h]
theorem c125 (a b:List Int) (wa:a.length≤140737488351232):run E (exec E) false 125 [.list (a.map rInt),.list (b.map rInt)]=some (.bool (decide (a=b))):=by
 rw [run_ent,e125]
 by_cases h:a.length=b.length
 ·have:=c125_4 a b wa h [] 0 (by omega)
  simp only [Int.natCast_zero] at this
  simp [h]
  rw [← h]; simp [this]
 ·have:a ≠ b:=fun e=>h (by rw [e])
  simp [show ¬ (a.length:Int)=b.length by omega,this]
theorem c124_4 (a b:List SConst) (wa:a.length≤140737488351232) (hlen:a.length=b.length) (H:Heap):∀ i,i≤a.length→J E 124 4 [.list (a.map SConst.row),.list (b.map SConst.row),.int .i64 a.length,.int .i64 i] H=some (.bool (decide (a.drop i=b.drop i)),H):=by
 apply loop_up
 ·rw [j124_4]; simp [hlen]
 ·intro i hi ih
  have hi':i < b.length:=by omega
  have hlt:((i:Nat):Int) < (a.length:Int):=by omega
  rw [j124_4]
  rw [ia_list (n:=(i:Int)) (esz:=4) (by omega) (by simpa using hi) (by simp [SConst.row])]
  rw [ia_list (n:=(i:Int)) (esz:=4) (by omega) (by simpa using hi') (by simp [SConst.row])]
  simp only [bI_lss,hlt,decide_true,cond_true,asB_bool,Option.bind_some,ld_el,Int.toNat_natCast,List.getElem_map]
  rw [show part (SConst.row a[i]) (0,4,true)=some (a[i]).d from rfl,show part (SConst.row b[i]) (0,4,true)=some (b[i]).d from rfl]
  simp only [Option.bind_some,SConst_dneq,bI_add,asB_bool]
  rw [wrap_i64 (n:=(i:Int) + 1) (by omega) (by omega),drop_dec hi hi']
  by_cases h:a[i]=b[i]
  ·simp only [h,decide_true,Bool.not_true,cond_false,Bool.true_and]
   exact ih
  ·simp [h]
theorem c124 (a b:List SConst) (wa:a.length≤140737488351232):run E (exec E) false 124 [.list (a.map SConst.row),.list (b.map SConst.row)]=some (.bool (decide (a=b))):=by
 rw [run_ent,e124]
 by_cases h:a.length=b.length
 ·have:=c124_4 a b wa h [] 0 (by omega)
  simp only [Int.natCast_zero] at this
  simp [h]
  rw [← h]; simp [this]
 ·have:a ≠ b:=fun e=>h (by rw [e])
  simp [show ¬ (a.length:Int)=b.length by omega,this]
theorem c126_4 (a b:List SField) (wa:a.length≤140737488351232) (hlen:a.length=b.length) (H:Heap):∀ i,i≤a.length→J E 126 4 [.list (a.map SField.row),.list (b.map SField.row),.int .i64 a.length,.int .i64 i] H=some (.bool (decide (a.drop i=b.drop i)),H):=by
 apply loop_up
 ·rw [j126_4]; simp [hlen]
 ·intro i hi ih
  have hi':i < b.length:=by omega
  have hlt:((i:Nat):Int) < (a.length:Int):=by omega
  rw [j126_4]
  rw [ia_list (n:=(i:Int)) (esz:=3) (by omega) (by simpa using hi) (by simp [SField.row])]
  rw [ia_list (n:=(i:Int)) (esz:=3) (by omega) (by simpa using hi') (by simp [SField.row])]
  simp only [bI_lss,hlt,decide_true,cond_true,asB_bool,Option.bind_some,ld_el,Int.toNat_natCast,List.getElem_map]
  rw [show part (SField.row a[i]) (0,3,true)=some (a[i]).d from rfl,show part (SField.row b[i]) (0,3,true)=some (b[i]).d from rfl]
  simp only [Option.bind_some,SField_dneq,bI_add,asB_bool]
  rw [wrap_i64 (n:=(i:Int) + 1) (by omega) (by omega),drop_dec hi hi']
  by_cases h:a[i]=b[i]
  ·simp only [h,decide_true,Bool.not_true,cond_false,Bool.true_and]
   exact ih
  ·simp [h]
theorem c126 (a b:List SField) (wa:a.length≤140737488351232):run E (exec E) false 126 [.list (a.map SField.row),.list (b.map SField.row)]=some (.bool (decide (a=b))):=by
 rw [run_ent,e126]
 by_cases h:a.length=b.length
 ·have:=c126_4 a b wa h [] 0 (by omega)
  simp only [Int.natCast_zero] at this
  simp [h]
  rw [← h]; simp [this]
 ·have:a ≠ b:=fun e=>h (by rw [e])
  simp [show ¬ (a.length:Int)=b.length by omega,this]
theorem c165_4 (a b:List STrap) (wa:a.length≤140737488351232) (hlen:a.length=b.length) (H:Heap):∀ i,i≤a.length→J E 165 4 [.list (a.map STrap.row),.list (b.map STrap.row),.int .i64 a.length,.int .i64 i] H=some (.bool (decide (a.drop i=b.drop i)),H):=by
 apply loop_up
 ·rw [j165_4]; simp [hlen]
 ·intro i hi ih
  have hi':i < b.length:=by omega
  have hlt:((i:Nat):Int) < (a.length:Int):=by omega
  rw [j165_4]
  rw [ia_list (n:=(i:Int)) (esz:=4) (by omega) (by simpa using hi) (by simp [STrap.row])]
  rw [ia_list (n:=(i:Int)) (esz:=4) (by omega) (by simpa using hi') (by simp [STrap.row])]
  simp only [bI_lss,hlt,decide_true,cond_true,asB_bool,Option.bind_some,ld_el,Int.toNat_natCast,List.getElem_map]
  rw [show part (STrap.row a[i]) (0,4,true)=some (a[i]).d from rfl,show part (STrap.row b[i]) (0,4,true)=some (b[i]).d from rfl]
  simp only [Option.bind_some,STrap_dneq,bI_add,asB_bool]
  rw [wrap_i64 (n:=(i:Int) + 1) (by omega) (by omega),drop_dec hi hi']
  by_cases h:a[i]=b[i]
  ·simp only [h,decide_true,Bool.not_true,cond_false,Bool.true_and]
   exact ih
  ·simp [h]
theorem c165 (a b:List STrap) (wa:a.length≤140737488351232):run E (exec E) false 165 [.list (a.map STrap.row),.list (b.map STrap.row)]=some (.bool (decide (a=b))):=by
 rw [run_ent,e165]
 by_cases h:a.length=b.length
 ·have:=c165_4 a b wa h [] 0 (by omega)
  simp only [Int.natCast_zero] at this
  simp [h]
  rw [← h]; simp [this]
 ·have:a ≠ b:=fun e=>h (by rw [e])
  simp [show ¬ (a.length:Int)=b.length by omega,this]
theorem c168_4 (a b:List SKind) (wa:a.length≤140737488351232) (hlen:a.length=b.length) (H:Heap):∀ i,i≤a.length→J E 168 4 [.list (a.map SKind.row),.list (b.map SKind.row),.int .i64 a.length,.int .i64 i] H=some (.bool (decide (a.drop i=b.drop i)),H):=by
 apply loop_up
 ·rw [j168_4]; simp [hlen]
 ·intro i hi ih
  have hi':i < b.length:=by omega
  have hlt:((i:Nat):Int) < (a.length:Int):=by omega
  rw [j168_4]
  rw [ia_list (n:=(i:Int)) (esz:=2) (by omega) (by simpa using hi) (by simp [SKind.row])]
  rw [ia_list (n:=(i:Int)) (esz:=2) (by omega) (by simpa using hi') (by simp [SKind.row])]
  simp only [bI_lss,hlt,decide_true,cond_true,asB_bool,Option.bind_some,ld_el,Int.toNat_natCast,List.getElem_map]
  rw [show part (SKind.row a[i]) (0,2,true)=some (a[i]).d from rfl,show part (SKind.row b[i]) (0,2,true)=some (b[i]).d from rfl]
  simp only [Option.bind_some,SKind_dneq,bI_add,asB_bool]
  rw [wrap_i64 (n:=(i:Int) + 1) (by omega) (by omega),drop_dec hi hi']
  by_cases h:a[i]=b[i]
  ·simp only [h,decide_true,Bool.not_true,cond_false,Bool.true_and]
   exact ih
  ·simp [h]
theorem c168 (a b:List SKind) (wa:a.length≤140737488351232):run E (exec E) false 168 [.list (a.map SKind.row),.list (b.map SKind.row)]=some (.bool (decide (a=b))):=by
 rw [run_ent,e168]
 by_cases h:a.length=b.length
 ·have:=c168_4 a b wa h [] 0 (by omega)
  simp only [Int.natCast_zero] at this
  simp [h]
  rw [← h]; simp [this]
 ·have:a ≠ b:=fun e=>h (by rw [e])
  simp [show ¬ (a.length:Int)=b.length by omega,this]
theorem c166_4 (a b:List SFrame) (wa:a.length≤140737488351232) (hlen:a.length=b.length) (g:FuncId) (cs:List D) (H:Heap) (hg:∀ x ∈ a,∀ y ∈ b,∀ K,∃ K',callFn E (exec E) (modeT 166 g) g ([x.d,y.d]++cs) (H++K)=some (.bool (decide (x=y)),H++K')):∀ i,i≤a.length→∀ K,∃ K',J E 166 4 [.list (b.map SFrame.row),.fn g cs,.list (a.map SFrame.row),.int .i64 a.length,.int .i64 i] (H++K)=some (.bool (decide (a.drop i=b.drop i)),H++K'):=by
 apply loop_up
 ·intro K
  rw [j166_4]
  simp only [bI_lss,Int.lt_irrefl,decide_false,Option.bind_some,asB_bool,cond_false,List.drop_length]
  rw [List.drop_of_length_le (by omega)]
  exact ⟨K,rfl⟩
 ·intro i hi ih K
  have hi':i < b.length:=by omega
  have hlt:((i:Nat):Int) < (a.length:Int):=by omega
  rw [j166_4,drop_dec hi hi']
  rw [ia_list (n:=(i:Int)) (esz:=3) (by omega) (by simpa using hi) (by simp)]
  simp only [bI_lss,hlt,decide_true,cond_true,asB_bool,Option.bind_some,ld_el,Int.toNat_natCast,List.getElem_map]
  rw [show part (a[i]).row (0,3,true)=some (a[i]).d from rfl]
  simp only [Option.bind_some]
  rw [alloc_eq _ _ _ rfl,put_loc (z:=3) (H++K) [.int .i64 0,.sl0,.sl0] (a[i]).row rfl rfl rfl]
  simp only [Option.bind_some]
  rw [ia_list (n:=(i:Int)) (esz:=3) (by omega) (by simpa using hi') (by simp)]
  simp only [Option.bind_some,ld_el,Int.toNat_natCast,List.getElem_map]
  rw [show part (b[i]).row (0,3,true)=some (b[i]).d from rfl]
  simp only [Option.bind_some]
  rw [alloc_eq _ _ _ rfl,put_loc (z:=3) (H++K++[some [(a[i]).row]]) [.int .i64 0,.sl0,.sl0] (b[i]).row rfl rfl rfl]
  have l1:ld true 3 (H++K++[some [(a[i]).row]]++[some [(b[i]).row]]) (.ptr (H++K).length 0 0)=some (a[i]).d:=by rw [List.append_assoc,List.singleton_append,ld_loc]; rfl
  have l2:ld true 3 (H++K++[some [(a[i]).row]]++[some [(b[i]).row]]) (.ptr (H++K++[some [(a[i]).row]]).length 0 0)=some (b[i]).d:=by rw [ld_loc]; rfl
  simp only [Option.bind_some,l1,l2,asFn_fn]
  obtain ⟨K1,e1⟩:=hg a[i] (List.getElem_mem hi) b[i] (List.getElem_mem hi') (K++[some [(a[i]).row]]++[some [(b[i]).row]])
  rw [show H++(K++[some [(a[i]).row]]++[some [(b[i]).row]])=H++K++[some [(a[i]).row]]++[some [(b[i]).row]] by simp] at e1
  simp only [e1,Option.bind_some,unOp_not,asB_bool,bI_add]
  rw [wrap_i64 (n:=(i:Int) + 1) (by omega) (by omega)]
  by_cases h:a[i]=b[i]
  ·simp only [h,decide_true,Bool.not_true,cond_false,Bool.true_and]
   exact ih K1
  ·simp only [h,decide_false,Bool.not_false,cond_true,Bool.false_and]
   exact ⟨K1,rfl⟩
theorem c166 (a b:List SFrame) (wa:a.length≤140737488351232) (g:FuncId) (cs:List D) (H:Heap) (hg:∀ x ∈ a,∀ y ∈ b,∀ K,∃ K',callFn E (exec E) (modeT 166 g) g ([x.d,y.d]++cs) (H++K)=some (.bool (decide (x=y)),H++K')):∃ K',ent E 166 [.list (a.map SFrame.row),.list (b.map SFrame.row),.fn g cs] H=some (.bool (decide (a=b)),H++K'):=by
 rw [e166]
 simp only [lnL_list,List.length_map,Option.bind_some,bI_neq,asB_bool]
 by_cases h:a.length=b.length
 ·obtain ⟨K',e⟩:=c166_4 a b wa h g cs H hg 0 (by omega) []
  simp only [List.drop_zero,Int.natCast_zero,List.append_nil] at e
  simp only [show (a.length:Int)=b.length by omega,decide_true,Bool.not_true,cond_false]
  rw [show (b.length:Int)=a.length by omega]
  exact ⟨K',e⟩
 ·have hne:a ≠ b:=fun e=>h (by rw [e])
  simp only [show ¬ (a.length:Int)=b.length by omega,hne,decide_false,Bool.not_false,cond_true]
  exact ⟨[],by simp⟩
theorem c127_4 (a b:List SMethod) (wa:a.length≤140737488351232) (hlen:a.length=b.length) (g:FuncId) (cs:List D) (H:Heap) (hg:∀ x ∈ a,∀ y ∈ b,∀ K,∃ K',callFn E (exec E) (modeT 127 g) g ([x.d,y.d]++cs) (H++K)=some (.bool (decide (x=y)),H++K')):∀ i,i≤a.length→∀ K,∃ K',J E 127 4 [.list (b.map SMethod.row),.fn g cs,.list (a.map SMethod.row),.int .i64 a.length,.int .i64 i] (H++K)=some (.bool (decide (a.drop i=b.drop i)),H++K'):=by
 apply loop_up
 ·intro K
  rw [j127_4]
  simp only [bI_lss,Int.lt_irrefl,decide_false,Option.bind_some,asB_bool,cond_false,List.drop_length]
  rw [List.drop_of_length_le (by omega)]
  exact ⟨K,rfl⟩
 ·intro i hi ih K
  have hi':i < b.length:=by omega
  have hlt:((i:Nat):Int) < (a.length:Int):=by omega
  rw [j127_4,drop_dec hi hi']
  rw [ia_list (n:=(i:Int)) (esz:=8) (by omega) (by simpa using hi) (by simp)]
  simp only [bI_lss,hlt,decide_true,cond_true,asB_bool,Option.bind_some,ld_el,Int.toNat_natCast,List.getElem_map]
  rw [show part (a[i]).row (0,8,true)=some (a[i]).d from rfl]
  simp only [Option.bind_some]
  rw [alloc_eq _ _ _ rfl,put_loc (z:=8) (H++K) [.int .i64 0,.int .i64 0,.int .i64 0,.int .i64 0,.int .i64 0,.str [],.sl0,.sl0] (a[i]).row rfl rfl rfl]
  simp only [Option.bind_some]
  rw [ia_list (n:=(i:Int)) (esz:=8) (by omega) (by simpa using hi') (by simp)]
  simp only [Option.bind_some,ld_el,Int.toNat_natCast,List.getElem_map]
  rw [show part (b[i]).row (0,8,true)=some (b[i]).d from rfl]
  simp only [Option.bind_some]
  rw [alloc_eq _ _ _ rfl,put_loc (z:=8) (H++K++[some [(a[i]).row]]) [.int .i64 0,.int .i64 0,.int .i64 0,.int .i64 0,.int .i64 0,.str [],.sl0,.sl0] (b[i]).row rfl rfl rfl]
  have l1:ld true 8 (H++K++[some [(a[i]).row]]++[some [(b[i]).row]]) (.ptr (H++K).length 0 0)=some (a[i]).d:=by rw [List.append_assoc,List.singleton_append,ld_loc]; rfl
  have l2:ld true 8 (H++K++[some [(a[i]).row]]++[some [(b[i]).row]]) (.ptr (H++K++[some [(a[i]).row]]).length 0 0)=some (b[i]).d:=by rw [ld_loc]; rfl
  simp only [Option.bind_some,l1,l2,asFn_fn]
  obtain ⟨K1,e1⟩:=hg a[i] (List.getElem_mem hi) b[i] (List.getElem_mem hi') (K++[some [(a[i]).row]]++[some [(b[i]).row]])
  rw [show H++(K++[some [(a[i]).row]]++[some [(b[i]).row]])=H++K++[some [(a[i]).row]]++[some [(b[i]).row]] by simp] at e1
  simp only [e1,Option.bind_some,unOp_not,asB_bool,bI_add]
  rw [wrap_i64 (n:=(i:Int) + 1) (by omega) (by omega)]
  by_cases h:a[i]=b[i]
  ·simp only [h,decide_true,Bool.not_true,cond_false,Bool.true_and]
   exact ih K1
  ·simp only [h,decide_false,Bool.not_false,cond_true,Bool.false_and]
   exact ⟨K1,rfl⟩
theorem c127 (a b:List SMethod) (wa:a.length≤140737488351232) (g:FuncId) (cs:List D) (H:Heap) (hg:∀ x ∈ a,∀ y ∈ b,∀ K,∃ K',callFn E (exec E) (modeT 127 g) g ([x.d,y.d]++cs) (H++K)=some (.bool (decide (x=y)),H++K')):∃ K',ent E 127 [.list (a.map SMethod.row),.list (b.map SMethod.row),.fn g cs] H=some (.bool (decide (a=b)),H++K'):=by
 rw [e127]
 simp only [lnL_list,List.length_map,Option.bind_some,bI_neq,asB_bool]
 by_cases h:a.length=b.length
 ·obtain ⟨K',e⟩:=c127_4 a b wa h g cs H hg 0 (by omega) []
  simp only [List.drop_zero,Int.natCast_zero,List.append_nil] at e
  simp only [show (a.length:Int)=b.length by omega,decide_true,Bool.not_true,cond_false]
  rw [show (b.length:Int)=a.length by omega]
  exact ⟨K',e⟩
 ·have hne:a ≠ b:=fun e=>h (by rw [e])
  simp only [show ¬ (a.length:Int)=b.length by omega,hne,decide_false,Bool.not_false,cond_true]
  exact ⟨[],by simp⟩
end Go.Ev.YtmpfooibdekppaaGreatDoor
namespace Go.Ev.YtmpfooibdekppaaGreatDoor
set_option linter.unusedVariables false
set_option linter.unusedSimpArgs false
set_option linter.unusedSectionVars false
set_option linter.defProp false
set_option maxHeartbeats 1000000
open Go.Ev
end Go.Ev.YtmpfooibdekppaaGreatDoor
namespace Go.Ev.YtmpfooibdekppaaGreatDoor
set_option linter.unusedVariables false
set_option linter.unusedSimpArgs false
set_option linter.unusedSectionVars false
set_option linter.defProp false
set_option maxHeartbeats 1000000
open Go.Ev
def Took {α:Type} (g:Get α) (s:List UInt8) (bad:Bool) (a:α) (s':List UInt8) (bad':Bool):Prop:=
 s'.length≤s.length∧match (if bad=true then none else g s) with
 | some q=>a=q.1∧s'=q.2∧bad'=false
 | none=>bad'=true
theorem Took.seq {α β:Type} {g:Get α} {h:α→Get β} {s s1 s2:List UInt8} {bad b1 b2:Bool} {a:α} {b:β} (t1:Took g s bad a s1 b1) (t2:Took (h a) s1 b1 b s2 b2):Took (bindG g h) s bad b s2 b2:=by
 obtain ⟨l1,t1⟩:=t1
 obtain ⟨l2,t2⟩:=t2
 refine ⟨by omega,?_⟩
 cases bad with
 | true=>
  simp only [if_true] at t1 ⊢
  subst t1
  simpa using t2
 | false=>
  simp only [Bool.false_eq_true,if_false] at t1 ⊢
  unfold bindG
  cases hg:g s with
  | none=>
   rw [hg] at t1
   simp only at t1
   subst t1
   simpa using t2
  | some q=>
   rw [hg] at t1
   simp only at t1
   obtain ⟨rfl,rfl,rfl⟩:=t1
   simpa using t2
theorem Took.pure {α:Type} (a:α) (s:List UInt8) (bad:Bool):Took (pureG a) s bad a s bad:=by
 refine ⟨Nat.le_refl _,?_⟩
 cases bad <;> simp [pureG]
theorem Took.fail {α:Type} (a:α) (s:List UInt8) (bad:Bool):Took failG s bad a s true:=by
 refine ⟨Nat.le_refl _,?_⟩
 cases bad <;> simp [failG]
theorem Took.len {α:Type} {g:Get α} {s s1:List UInt8} {bad b1:Bool} {a:α} (t:Took g s bad a s1 b1):s1.length≤s.length:=t.1
theorem Took.dead {α:Type} {g:Get α} {s s1:List UInt8} {b1:Bool} {a:α} (t:Took g s true a s1 b1):b1=true:=by
 obtain ⟨-,t⟩:=t
 simpa using t
theorem Took.bad {α:Type} (g:Get α) (a:α) (s:List UInt8):Took g s true a s true:=⟨Nat.le_refl _,by simp⟩
abbrev tk (b:Nat) (s:List UInt8) (bad:Bool):Asset:=.var 0 b [.own (.str s),.own (.bool bad)]
theorem c118 {H:Heap} {L:List Asset} {b:Nat} {s:List UInt8} {bad:Bool} (h:Own H (tk b s bad :: L)) (n:Int) (hn:0≤n):∃ t H' s' bad',ent E 118 [.ptr b 0 0,.int .i64 n] H=some (.str t,H')∧Own H' (tk b s' bad' :: L)∧Took (gText n.toNat) s bad t s' bad'∧t.length≤s.length∧(bad'=true→t=[]):=by
 rw [e118]
 have l0:=h.ld (f:=0) rfl rfl
 have l1:=h.ld (f:=1) rfl rfl
 simp only [nilCheck_ptr,Option.bind_some,fa_ptr,Nat.zero_add,l0,l1,asB_bool]
 cases bad with
 | true=>
  obtain ⟨H',e1,h1⟩:=h.st (f:=1) (v:=.bool true) (by simp) rfl rfl
  simp only [cond_true,e1,Option.bind_some,ret_one]
  exact ⟨_,_,s,true,rfl,h1,Took.bad _ _ _,by simp,fun _=>rfl⟩
 | false=>
  simp only [cond_false,lnS_str,Option.bind_some,bI_gtr,asB_bool]
  by_cases hlt:(s.length:Int) < n
  ·obtain ⟨H',e1,h1⟩:=h.st (f:=1) (v:=.bool true) (by simp) rfl rfl
   simp only [hlt,decide_true,cond_true,e1,Option.bind_some,ret_one]
   refine ⟨_,_,s,true,rfl,h1,⟨Nat.le_refl _,?_⟩,by simp,fun _=>rfl⟩
   have:¬ n.toNat≤s.length:=by omega
   simp [gText,this]
  ·obtain ⟨H',e1,h1⟩:=h.st (f:=0) (v:=.str (s.drop n.toNat)) (by simp) rfl rfl
   simp only [hlt,decide_false,cond_false]
   rw [slS_to hn (by omega),slS_from hn (by omega)]
   simp only [Option.bind_some,e1,ret_one]
   refine ⟨_,_,s.drop n.toNat,false,rfl,h1,⟨by simp,?_⟩,by simp; omega,fun e=>by cases e⟩
   have:n.toNat≤s.length:=by omega
   simp [gText,this]
theorem c120 {H:Heap} {L:List Asset} {b:Nat} {s:List UInt8} {bad:Bool} (h:Own H (tk b s bad :: L)):∃ n H' s' bad',ent E 120 [.ptr b 0 0] H=some (.int .i64 n,H')∧Own H' (tk b s' bad' :: L)∧Took gOne s bad n s' bad'∧0≤n∧n≤255:=by
 rw [e120]
 obtain ⟨t,H',s',bad',e1,h1,t1,l1,hb⟩:=c118 h 1 (by decide)
 have l2:=h1.ld (f:=1) rfl rfl
 simp only [call_raw,e1,Option.bind_some,nilCheck_ptr,fa_ptr,Nat.zero_add,l2,asB_bool]
 cases bad' with
 | true=>
  refine ⟨0,H',s',true,rfl,h1,⟨t1.1,?_⟩,by decide,by decide⟩
  have:=t1.2
  cases bad with
  | true=>simp
  | false=>
   simp only [Bool.false_eq_true,if_false,gText] at this ⊢
   cases s with
   | nil=>trivial
   | cons c r=>simp at this
 | false=>
  have:=t1.2
  cases bad with
  | true=>simp at this
  | false=>
   simp only [Bool.false_eq_true,if_false,gText] at this
   cases s with
   | nil=>simp at this
   | cons c r=>
    simp at this
    obtain ⟨rfl,rfl⟩:=this
    have hc:=c.toNat_lt
    simp only [cond_false,show ix (.str [c]) (.int .i64 0)=some (.int .u8 c.toNat) from rfl,Option.bind_some,cI_int]
    rw [wrap_i64 (n:=(c.toNat:Int)) (by omega) (by omega)]
    exact ⟨c.toNat,H',_,false,rfl,h1,⟨by simp,by simp [gOne]⟩,by omega,by omega⟩
theorem c122 {H:Heap} {L:List Asset} {b:Nat} {s:List UInt8} {bad:Bool} (h:Own H (tk b s bad :: L)):∃ n H' s' bad',ent E 122 [.ptr b 0 0] H=some (.int .i64 n,H')∧Own H' (tk b s' bad' :: L)∧Took gTwo s bad n s' bad'∧0≤n∧n≤65535:=by
 rw [e122]
 obtain ⟨n1,H1,s1,b1,e1,h1,t1,g1,g2⟩:=c120 h
 obtain ⟨n2,H2,s2,b2,e2,h2,t2,g3,g4⟩:=c120 h1
 simp only [call_raw,e1,e2,Option.bind_some,bI_mul,bI_add,ret_one]
 rw [wrap_i64 (n:=256 * n1) (by omega) (by omega),wrap_i64 (n:=256 * n1 + n2) (by omega) (by omega)]
 exact ⟨256 * n1 + n2,H2,s2,b2,rfl,h2,t1.seq (t2.seq (Took.pure _ _ _)),by omega,by omega⟩
theorem c119 {H:Heap} {L:List Asset} {b:Nat} {s s0:List UInt8} {bad bad0:Bool} (h:Own H (tk b s bad :: L)) {g:Get Int} {n:Int} (t:Took g s0 bad0 n s bad) (hn:0≤n) (most:Int) (hm:0≤most):∃ n' H' bad',ent E 119 [.ptr b 0 0,.int .i64 n,.int .i64 most] H=some (.int .i64 n',H')∧Own H' (tk b s bad' :: L)∧Took (gUp most g) s0 bad0 n' s bad'∧0≤n'∧n'≤most∧n'≤n:=by
 rw [e119]
 simp only [bI_gtr,Option.bind_some,asB_bool,nilCheck_ptr,fa_ptr,Nat.zero_add]
 by_cases hlt:most < n
 ·obtain ⟨H',e1,h1⟩:=h.st (f:=1) (v:=.bool true) (by simp) rfl rfl
  simp only [hlt,decide_true,cond_true,e1,Option.bind_some,ret_one]
  refine ⟨0,H',true,rfl,h1,t.seq ?_,by decide,hm,hn⟩
  rw [if_pos hlt]
  exact Took.fail _ _ _
 ·simp only [hlt,decide_false,cond_false,ret_one]
  refine ⟨n,H,bad,rfl,h,t.seq ?_,hn,by omega,Int.le_refl _⟩
  rw [if_neg hlt]
  exact Took.pure _ _ _
end Go.Ev.YtmpfooibdekppaaGreatDoor
namespace Go.Ev.YtmpfooibdekppaaGreatDoor
set_option linter.unusedVariables false
set_option linter.unusedSimpArgs false
set_option linter.unusedSectionVars false
set_option linter.defProp false
set_option maxHeartbeats 1000000
open Go.Ev
theorem kinds_app {d:D} {H:Heap} {L:List Asset} {p n:Nat} {acc:List SKind} {k:SKind} (h:Own H (.var 0 p (k.row.map Cell.own) :: .val 1 d (.list (acc.map SKind.row)) :: L)) (ha:acc.length≤100000):∃ cs d2 H2,ld true 2 H (.ptr p 0 0)=some (.agg cs)∧bsl 2 [.int .i64 0,.int .i64 0] H 1 [(0,.agg cs)]=some (.sl H.length 0 1,H++[some [cs]])∧app 2 16 (H++[some [cs]]) d (.sl H.length 0 1)=some (d2,H2)∧Own H2 (.val 1 d2 (.list ((acc++[k]).map SKind.row)) :: L):=by
 obtain ⟨cs,e1,h1,-⟩:=h.whole (z:=2) rfl
 obtain ⟨d2,H2,e2,e3,h2,-⟩:=h1.pull1.app (n:=0) (t:=k.row) rowOf_agg (esz:=2) (eb:=16) (zero:=[.int .i64 0,.int .i64 0]) rfl (by decide) rfl rfl (fun r hr=>by obtain ⟨x,_,rfl⟩:=List.mem_map.mp hr; rfl) (by simp [maxLen]; omega)
 exact ⟨cs,d2,H2,e1,e2,e3,by simpa using h2⟩
theorem c164_3 (b:Nat):∀ (n:Nat) (acc:List SKind) (d:D) (H:Heap) (L:List Asset) (s:List UInt8) (bad:Bool),Own H (.val 1 d (.list (acc.map SKind.row)) :: tk b s bad :: L)→acc.length + n≤1000 →
  ∃ d' H' s' bad' l,J E 164 3 [.ptr b 0 0,d,.int .i64 n] H=some (d',H')∧Own H' (.val 1 d' (.list ((acc++l).map SKind.row)) :: tk b s' bad' :: L)∧Took (gMany gKind n) s bad l s' bad'
 | 0,acc,d,H,L,s,bad,h,hn=>by
  rw [j164_3]
  simp only [bI_gtr,Int.natCast_zero,Int.lt_irrefl,decide_false,Option.bind_some,asB_bool,cond_false,ret_one]
  exact ⟨d,H,s,bad,[],rfl,by simpa using h,Took.pure _ _ _⟩
 | n + 1,acc,d,H,L,s,bad,h,hn=>by
  have hgt:(0:Int) < ((n + 1:Nat):Int):=by omega
  have l1:=h.pull1.ld (f:=1) rfl rfl
  rw [j164_3]
  simp only [bI_gtr,hgt,decide_true,Option.bind_some,asB_bool,cond_true,nilCheck_ptr,fa_ptr,Nat.zero_add,l1,unOp_not]
  cases bad with
  | true=>
   simp only [Bool.not_true,cond_false,ret_one]
   exact ⟨d,H,s,true,[],rfl,by simpa using h,Took.bad _ _ _⟩
  | false=>
   simp only [Bool.not_false,cond_true,call_raw]
   obtain ⟨t0,H1,s1,b1,e1,h1,t1,g0,g1⟩:=c120 h.pull1
   obtain ⟨t,H2,b2,e2,h2,t2,g2,g3,-⟩:=c119 h1 t1 g0 3 (by decide)
   simp only [e1,e2,Option.bind_some]
   rw [show bld [.int .i64 0,.int .i64 0] [(0,1,false),(1,1,false)] [(0,.int .i64 t)]=some (.agg [.int .i64 t,.int .i64 0]) from rfl]
   simp only [Option.bind_some]
   rw [alloc_eq _ _ _ rfl]
   obtain ⟨H3,e3,h3,-⟩:=(h2.alloc 0 (cs:=[.int .i64 0,.int .i64 0]) (ts:=[.int .i64 0,.int .i64 0]) (RepR.scalars rfl) rfl (fun f hf=>by rcases f with _ | _ | f <;> simp at hf)).init (cs:=[.int .i64 t,.int .i64 0]) (ts:=(⟨t,0⟩:SKind).row) (RepR.scalars rfl) rfl (fun f hf=>by rcases f with _ | _ | f <;> simp [SKind.row] at hf) (z:=2) rfl rfl
   have l3:ld false 1 H3 (.ptr H2.length 0 0)=some (.int .i64 t):=h3.ld (f:=0) rfl rfl
   simp only [e3,Option.bind_some,fa_ptr,Nat.zero_add,l3,bI_eql,asB_bool]
   have step:∀ (k:SKind) (H4:Heap) (s4:List UInt8) (b4:Bool),Own H4 (.var 0 H2.length (k.row.map Cell.own) :: .val 1 d (.list (acc.map SKind.row)) :: tk b s4 b4 :: L)→Took gKind s false k s4 b4 →
     ∃ d' H' s' bad' l,J E 164 8 [.ptr b 0 0,d,.int .i64 ((n + 1:Nat):Int),.ptr H2.length 0 0] H4=some (d',H')∧Own H' (.val 1 d' (.list ((acc++l).map SKind.row)) :: tk b s' bad' :: L)∧Took (gMany gKind (n + 1)) s false l s' bad':=by
    intro k H4 s4 b4 h4 t4
    obtain ⟨cs,d2,H5,e5,e6,e7,h5⟩:=kinds_app (n:=0) h4 (by omega)
    rw [j164_8]
    simp only [e5,e6,e7,Option.bind_some,bI_sub]
    rw [wrap_i64 (n:=((n + 1:Nat):Int) - 1) (by omega) (by omega),show ((n + 1:Nat):Int) - 1=(n:Int) by omega]
    obtain ⟨d',H',s',bad',l,e8,h8,t8⟩:=c164_3 b n (acc++[k]) d2 H5 L s4 b4 h5 (by simp; omega)
    refine ⟨d',H',s',bad',k :: l,e8,by simpa using h8,?_⟩
    show Took (bindG gKind fun a=>bindG (gMany gKind n) fun l=>pureG (a :: l)) s false (k :: l) s' bad'
    exact t4.seq (t8.seq (Took.pure _ _ _))
   by_cases h3t:t=3
   ·subst h3t
    simp only [decide_true,cond_true]
    obtain ⟨c,H4,s4,b4,e4,h4,t4,g4,g5⟩:=c122 h3.pull1
    obtain ⟨H5,e5,h5⟩:=h4.pull1.st (f:=1) (v:=.int .i64 c) (by simp [SKind.row]) rfl rfl
    simp only [e4,e5,Option.bind_some]
    refine step ⟨3,c⟩ H5 s4 b4 (h5.pull2.pull1) ?_
    show Took (bindG (gUp 3 gOne) fun t=>if t=3 then bindG gTwo fun c=>pureG (SKind.mk t c) else pureG (SKind.mk t 0)) s false _ s4 b4
    refine t2.seq ?_
    rw [if_pos rfl]
    exact t4.seq (Took.pure _ _ _)
   ·simp only [h3t,decide_false,cond_false]
    refine step ⟨t,0⟩ H3 s1 b2 (h3.pull2.pull1) ?_
    show Took (bindG (gUp 3 gOne) fun t=>if t=3 then bindG gTwo fun c=>pureG (SKind.mk t c) else pureG (SKind.mk t 0)) s false _ s1 b2
    refine t2.seq ?_
    rw [if_neg h3t]
    exact Took.pure _ _ _
theorem c164 {H:Heap} {L:List Asset} {b:Nat} {s:List UInt8} {bad:Bool} (h:Own H (tk b s bad :: L)):∃ d H' s' bad' l,ent E 164 [.ptr b 0 0] H=some (d,H')∧Own H' (.val 1 d (.list (l.map SKind.row)) :: tk b s' bad' :: L)∧Took (gList 8 gKind) s bad l s' bad':=by
 rw [e164]
 obtain ⟨t0,H1,s1,b1,e1,h1,t1,g0,g1⟩:=c120 h
 obtain ⟨t,H2,b2,e2,h2,t2,g2,g3,-⟩:=c119 h1 t1 g0 8 (by decide)
 simp only [call_raw,e1,e2,Option.bind_some]
 obtain ⟨k,rfl⟩:∃ k:Nat,t=k:=⟨t.toNat,by omega⟩
 obtain ⟨d',H',s',bad',l,e8,h8,t8⟩:=c164_3 b k [] .sl0 H2 L s1 b2 (h2.sl0 0) (by simp; omega)
 exact ⟨d',H',s',bad',l,e8,by simpa using h8,t2.seq t8⟩
theorem c121_14 {H:Heap} {L:List Asset} {p q:Nat} {c:SConst} {ts0:List Cell} (h:Own H (.var 0 p (c.row.map Cell.own) :: .var 0 q ts0 :: L)) (h0:ts0.length=4):∃ cs H',J E 121 14 [.ptr q 0 0,.ptr p 0 0] H=some (.agg cs,H')∧Own H' (.val 1 (.agg cs) (.agg c.row) :: L):=by
 rw [j121_14]
 obtain ⟨cs,H',e1,e2,e3,h1⟩:=h.copyout (z:=4) rfl h0
 simp only [e1,e2,e3,Option.bind_some,ret_one]
 exact ⟨cs,H',rfl,h1⟩
theorem zconst (f:Nat) (c:SConst):∀ f:Nat,c.row[f]? = some (D.list [])→c.row[f]? = some D.sl0:=fun f hf=>by rcases f with _ | _ | _ | _ | f <;> simp [SConst.row] at hf
theorem c121 {H:Heap} {L:List Asset} {b:Nat} {s:List UInt8} {bad:Bool} (h:Own H (tk b s bad :: L)):∃ cs H' s' bad' c,ent E 121 [.ptr b 0 0] H=some (.agg cs,H')∧Own H' (.val 1 (.agg cs) (.agg (SConst.row c)) :: tk b s' bad' :: L)∧Took gConst s bad c s' bad':=by
 rw [e121,alloc_eq _ _ _ rfl]
 have h1:=h.alloc 0 (cs:=(({}:SConst)).row) (ts:=(({}:SConst)).row) (RepR.scalars rfl) rfl (zconst 0 _)
 obtain ⟨k,H2,s2,b2,e2,h2,t2,g0,g1⟩:=c120 h1.pull1
 simp only [call_raw]
 rw [show H++[some [(({}:SConst)).row]]=H++[some [[D.int .i64 0,.str [],.int .i64 0,.int .i64 0]]] from rfl] at e2
 simp only [e2,Option.bind_some]
 rw [show bld [.int .i64 0,.str [],.int .i64 0,.int .i64 0] [(0,1,false),(1,1,false),(2,1,false),(3,1,false)] [(0,.int .i64 k)]=some (.agg (SConst.row ⟨k,[],0,0⟩)) from rfl]
 simp only [Option.bind_some]
 rw [alloc_eq _ _ _ rfl]
 obtain ⟨H3,e3,h3,-⟩:=(h2.alloc 0 (cs:=(({}:SConst)).row) (ts:=(({}:SConst)).row) (RepR.scalars rfl) rfl (zconst 0 _)).init (cs:=SConst.row ⟨k,[],0,0⟩) (ts:=SConst.row ⟨k,[],0,0⟩) (RepR.scalars rfl) rfl (zconst 0 _) (z:=4) rfl rfl
 rw [show H2++[some [(({}:SConst)).row]]=H2++[some [[D.int .i64 0,.str [],.int .i64 0,.int .i64 0]]] from rfl] at e3
 have l3:=h3.ld (f:=0) rfl rfl
 simp only [e3,Option.bind_some,fa_ptr,Nat.zero_add,l3,bI_eql,asB_bool]
 have goal:∀ {x:Get SConst} {c:SConst} {s':List UInt8} {b':Bool},(x=if k=1 then bindG gOne fun n=>bindG (gText n.toNat) fun t=>pureG ⟨k,t,0,0⟩ else if k=2 then bindG gTwo fun a=>pureG ⟨k,[],a,0⟩ else if 3≤k∧k≤6 then bindG gTwo fun a=>bindG gTwo fun b=>pureG ⟨k,[],a,b⟩ else failG)→Took x s2 b2 c s' b'→Took gConst s bad c s' b':=by
  intro x c s' b' hx ht
  rw [hx] at ht
  exact t2.seq ht
 by_cases k1:k=1
 ·simp only [k1,decide_true,cond_true]
  obtain ⟨n,H4,s4,b4,e4,h4,t4,g4,g5⟩:=c120 h3.pull1
  obtain ⟨t,H5,s5,b5,e5,h5,t5,-,-⟩:=c118 h4 n g4
  obtain ⟨H6,e6,h6⟩:=h5.pull1.st (f:=1) (v:=.str t) (by simp [SConst.row]) rfl rfl
  simp only [e4,e5,e6,Option.bind_some]
  obtain ⟨cs,H7,e7,h7⟩:=c121_14 (c:=⟨k,t,0,0⟩) (h6.pull2.pull1) rfl
  rw [e7]
  exact ⟨cs,H7,s5,b5,_,rfl,h7,goal rfl (by rw [if_pos k1]; exact t4.seq (t5.seq (Took.pure _ _ _)))⟩
 ·simp only [k1,decide_false,cond_false]
  by_cases k2:k=2
  ·simp only [k2,decide_true,cond_true]
   obtain ⟨n,H4,s4,b4,e4,h4,t4,g4,g5⟩:=c122 h3.pull1
   obtain ⟨H6,e6,h6⟩:=h4.pull1.st (f:=2) (v:=.int .i64 n) (by simp [SConst.row]) rfl rfl
   simp only [e4,e6,Option.bind_some]
   obtain ⟨cs,H7,e7,h7⟩:=c121_14 (c:=⟨k,[],n,0⟩) (h6.pull2.pull1) rfl
   rw [e7]
   exact ⟨cs,H7,s4,b4,_,rfl,h7,goal rfl (by rw [if_neg k1,if_pos k2]; exact t4.seq (Took.pure _ _ _))⟩
  ·simp only [k2,decide_false,cond_false]
   have two:3≤k∧k≤6→∃ cs H' s' bad' c,J E 121 12 [.ptr b 0 0,.ptr H.length 0 0,.ptr H2.length 0 0] H3=some (.agg cs,H')∧Own H' (.val 1 (.agg cs) (.agg (SConst.row c)) :: tk b s' bad' :: L)∧Took gConst s bad c s' bad':=by
    intro hk
    rw [j121_12]
    obtain ⟨n,H4,s4,b4,e4,h4,t4,g4,g5⟩:=c122 h3.pull1
    obtain ⟨H6,e6,h6⟩:=h4.pull1.st (f:=2) (v:=.int .i64 n) (by simp [SConst.row]) rfl rfl
    obtain ⟨m,H7,s7,b7,e7,h7,t7,g6,g7⟩:=c122 h6.pull1
    obtain ⟨H8,e8,h8⟩:=h7.pull1.st (f:=3) (v:=.int .i64 m) (by simp [SConst.row]) rfl rfl
    simp only [call_raw,e4,e6,e7,e8,Option.bind_some,fa_ptr,Nat.zero_add]
    obtain ⟨cs,H9,e9,h9⟩:=c121_14 (c:=⟨k,[],n,m⟩) (h8.pull2.pull1) rfl
    rw [e9]
    exact ⟨cs,H9,s7,b7,_,rfl,h9,goal rfl (by rw [if_neg k1,if_neg k2,if_pos hk]; exact t4.seq (t7.seq (Took.pure _ _ _)))⟩
   by_cases k3:k=3
   ·simp only [k3,decide_true,cond_true,asB_bool]
    exact two (by omega)
   by_cases k4:k=4
   ·simp only [k3,k4,decide_true,decide_false,cond_true,cond_false,asB_bool]
    exact two (by omega)
   by_cases k5:k=5
   ·simp only [k3,k4,k5,decide_true,decide_false,cond_true,cond_false,asB_bool]
    exact two (by omega)
   by_cases k6:k=6
   ·simp only [k3,k4,k5,k6,decide_true,decide_false,cond_true,cond_false,asB_bool]
    exact two (by omega)
   ·simp only [k3,k4,k5,k6,decide_false,cond_false]
    rw [j121_3]
    obtain ⟨H6,e6,h6⟩:=h3.pull1.st (f:=1) (v:=.bool true) (by simp) rfl rfl
    simp only [nilCheck_ptr,fa_ptr,Nat.zero_add,e6,Option.bind_some]
    obtain ⟨cs,H7,e7,h7⟩:=c121_14 (c:=⟨k,[],0,0⟩) (h6.pull2.pull2) rfl
    rw [e7]
    exact ⟨cs,H7,s2,true,_,rfl,h7,goal rfl (by rw [if_neg k1,if_neg k2,if_neg (by omega)]; exact Took.fail _ _ _)⟩
end Go.Ev.YtmpfooibdekppaaGreatDoor
namespace Go.Ev.YtmpfooibdekppaaGreatDoor
set_option linter.unusedVariables false
set_option linter.unusedSimpArgs false
set_option linter.unusedSectionVars false
set_option linter.defProp false
set_option maxHeartbeats 1000000
open Go.Ev
theorem nat_and_pow (m i:Nat):m &&& 2 ^ i=if m / 2 ^ i % 2=1 then 2 ^ i else 0:=by
 apply Nat.eq_of_testBit_eq
 intro j
 rw [Nat.testBit_and,Nat.testBit_two_pow]
 by_cases hj:i=j
 ·subst hj
  rw [Nat.testBit_eq_decide_div_mod_eq]
  by_cases h:m / 2 ^ i % 2=1
  ·simp [h]
  ·simp [h]
 ·have:decide (i=j)=false:=by simpa using hj
  rw [this,Bool.and_false]
  split
  ·rw [Nat.testBit_two_pow]; simp [hj]
  ·simp
theorem bit_and (n:Int) (i:Nat) (hi:i < 4):(BitVec.ofInt 64 n &&& BitVec.ofInt 64 ((2 ^ i:Nat):Int)).toNat=if n / (2 ^ i:Nat) % 2=1 then 2 ^ i else 0:=by
 have h4:i=0∨i=1∨i=2∨i=3:=by omega
 rcases h4 with h | h | h | h <;> subst h
 all_goals
  rw [BitVec.toNat_and,BitVec.toNat_ofInt,BitVec.toNat_ofInt]
 ·rw [show ((((2 ^ 0:Nat):Int)) % ((2 ^ 64:Nat):Int)).toNat=2 ^ 0 from rfl,nat_and_pow]
  simp only [Nat.reducePow]
  split <;> split <;> omega
 ·rw [show ((((2 ^ 1:Nat):Int)) % ((2 ^ 64:Nat):Int)).toNat=2 ^ 1 from rfl,nat_and_pow]
  simp only [Nat.reducePow]
  split <;> split <;> omega
 ·rw [show ((((2 ^ 2:Nat):Int)) % ((2 ^ 64:Nat):Int)).toNat=2 ^ 2 from rfl,nat_and_pow]
  simp only [Nat.reducePow]
  split <;> split <;> omega
 ·rw [show ((((2 ^ 3:Nat):Int)) % ((2 ^ 64:Nat):Int)).toNat=2 ^ 3 from rfl,nat_and_pow]
  simp only [Nat.reducePow]
  split <;> split <;> omega
theorem bI_and (n:Int) (i:Nat) (hi:i < 4):bI .and (.int .i64 n) (.int .i64 ((2 ^ i:Nat):Int))=some (.int .i64 (if n / (2 ^ i:Nat) % 2=1 then ((2 ^ i:Nat):Int) else 0)):=by
 show some (D.int .i64 (IntKind.wrap .i64 (((BitVec.ofInt 64 n &&& BitVec.ofInt 64 ((2 ^ i:Nat):Int)).toNat:Nat):Int)))=_
 rw [bit_and n i hi]
 have h4:i=0∨i=1∨i=2∨i=3:=by omega
 rcases h4 with h | h | h | h <;> subst h <;> simp only [Nat.reducePow] <;> split <;> rfl
theorem rep_cells {H:Heap} {n:Nat} {d:D} {rows:Rows} {B:List Nat} (h:RepT true H n d (.list rows) B):d.cells=[d]:=by
 generalize ht:D.list rows=t at h
 cases h with
 | sc h=>subst ht; cases h
 | sl0=>rfl
 | fz h=>cases h
 | sl h1 h2=>rfl
 | agg h=>cases ht
 | tup h=>cases ht
theorem c44 (n:Int):run E (exec E) false 44 [.int .i64 n]=some (.bool (isAbs n)):=by
 rw [run_ent,e44]
 have:=bI_and n 3 (by decide)
 simp only [Nat.reducePow,Int.cast_ofNat_Int] at this
 rw [this]
 simp only [readA_int,readA_bool,readA_str,readA_list,readA_sl0,readA_sl,readA_agg,readA_tup,Option.bind_some,bI_neq,ret_one,readT_bool,isAbs]
 congr 2
 by_cases h:n / 8 % 2=1
 ·rw [if_pos h]; simp; omega
 ·rw [if_neg h]; simp; omega
abbrev mrow (m:SMethod):List Cell:=m.row.map Cell.own
theorem zmeth (m:SMethod) (h1:m.Traps=[]) (h2:m.Frames=[]):RepR true [] 3 [.int .i64 m.Flags,.int .i64 m.Name,.int .i64 m.Desc,.int .i64 m.Deep,.int .i64 m.Locals,.str m.Code,.sl0,.sl0] m.row []:=by
 have:m.row=[.int .i64 m.Flags,.int .i64 m.Name,.int .i64 m.Desc,.int .i64 m.Deep,.int .i64 m.Locals,.str m.Code,.list [],.list []]:=by simp [SMethod.row,h1,h2]
 rw [this]
 exact .cons (B:=[]) (B':=[]) (.sc rfl) (.cons (B:=[]) (B':=[]) (.sc rfl) (.cons (B:=[]) (B':=[]) (.sc rfl) (.cons (B:=[]) (B':=[]) (.sc rfl) (.cons (B:=[]) (B':=[]) (.sc rfl) (.cons (B:=[]) (B':=[]) (.sc rfl) (.cons (B:=[]) (B':=[]) .sl0 (.cons (B:=[]) (B':=[]) .sl0 .nil)))))))
theorem zmeth0 (m:SMethod):∀ f:Nat,m.row[f]? = some (D.list [])→[D.int .i64 m.Flags,.int .i64 m.Name,.int .i64 m.Desc,.int .i64 m.Deep,.int .i64 m.Locals,.str m.Code,.sl0,.sl0][f]? = some D.sl0:=fun f hf=>by
 rcases f with _ | _ | _ | _ | _ | _ | _ | _ | f <;> simp [SMethod.row] at hf ⊢
theorem c123_end {H:Heap} {L:List Asset} {p q:Nat} {m:SMethod} {ts0:List Cell} (h:Own H (.var 3 p (mrow m) :: .var 3 q ts0 :: L)) (h0:ts0.length=8):∃ cs H',((ld true 8 H (.ptr p 0 0)).bind fun v=>(st 8 H (.ptr q 0 0) v).bind fun H1=>ret_ H1 [ld true 8 H1 (.ptr q 0 0)])=some (.agg cs,H')∧Own H' (.val 4 (.agg cs) (.agg m.row) :: L):=by
 obtain ⟨cs,H',e1,e2,e3,h1⟩:=h.copyout (z:=8) rfl h0
 simp only [e1,e2,e3,Option.bind_some,ret_one]
 exact ⟨cs,H',rfl,h1⟩
theorem c123_18 (b p q:Nat) (ts0:List Cell) (h0:ts0.length=8):∀ (n:Nat) (m:SMethod) (H:Heap) (L:List Asset) (s:List UInt8) (bad:Bool),Own H (.var 3 p (mrow m) :: .var 3 q ts0 :: tk b s bad :: L)→m.Frames.length + n≤1000 →
  ∃ cs H' s' bad' l,J E 123 18 [.ptr b 0 0,.ptr q 0 0,.ptr p 0 0,.int .i64 n] H=some (.agg cs,H')∧Own H' (.val 4 (.agg cs) (.agg (SMethod.row { m with Frames:=m.Frames++l })) :: tk b s' bad' :: L)∧Took (gMany gFrame n) s bad l s' bad'
 | 0,m,H,L,s,bad,h,hn=>by
  rw [j123_18]
  obtain ⟨cs,H',e1,h1⟩:=c123_end h h0
  simp only [bI_gtr,Int.natCast_zero,Int.lt_irrefl,decide_false,Option.bind_some,asB_bool,cond_false]
  exact ⟨cs,H',s,bad,[],e1,by simpa using h1,Took.pure _ _ _⟩
 | n + 1,m,H,L,s,bad,h,hn=>by
  have hgt:(0:Int) < ((n + 1:Nat):Int):=by omega
  have l1:=h.pull2.ld (f:=1) rfl rfl
  rw [j123_18]
  simp only [bI_gtr,hgt,decide_true,Option.bind_some,asB_bool,cond_true,nilCheck_ptr,fa_ptr,Nat.zero_add,l1,unOp_not]
  cases bad with
  | true=>
   obtain ⟨cs,H',e1,h1⟩:=c123_end h h0
   simp only [Bool.not_true,cond_false]
   exact ⟨cs,H',s,true,[],e1,by simpa using h1,Took.bad _ _ _⟩
  | false=>
   simp only [Bool.not_false,cond_true,call_raw]
   obtain ⟨t,H1,s1,b1,e1,h1,t1,g0,g1⟩:=c122 h.pull2
   simp only [e1,Option.bind_some]
   rw [show bld [.int .i64 0,.sl0,.sl0] [(0,1,false),(1,1,false),(2,1,false)] [(0,.int .i64 t)]=some (.agg [.int .i64 t,.sl0,.sl0]) from rfl]
   simp only [Option.bind_some]
   rw [alloc_eq _ _ _ rfl]
   have z1:∀ t:Int,RepR true [] 2 [.int .i64 t,.sl0,.sl0] (SFrame.row ⟨t,[],[]⟩) []:=fun t=>.cons (B:=[]) (B':=[]) (.sc rfl) (.cons (B:=[]) (B':=[]) .sl0 (.cons (B:=[]) (B':=[]) .sl0 .nil))
   have z2:∀ t:Int,∀ f:Nat,(SFrame.row ⟨t,[],[]⟩)[f]? = some (D.list [])→[D.int .i64 t,.sl0,.sl0][f]? = some D.sl0:=fun t f hf=>by rcases f with _ | _ | _ | f <;> simp [SFrame.row] at hf ⊢
   obtain ⟨H3,e3,h3,-⟩:=(h1.alloc 2 (cs:=[.int .i64 0,.sl0,.sl0]) (ts:=SFrame.row ⟨0,[],[]⟩) ((z1 0).frame fun c hc=>by cases hc) rfl (z2 0)).init (cs:=[.int .i64 t,.sl0,.sl0]) (ts:=SFrame.row ⟨t,[],[]⟩) ((z1 t).frame fun c hc=>by cases hc) rfl (z2 t) (z:=3) rfl rfl
   obtain ⟨d4,H4,s4,b4,ll,e4,h4,t4⟩:=c164 h3.pull1
   obtain ⟨v5,q5⟩:=h4.val
   have c4:d4.cells=[d4]:=rep_cells q5.1
   obtain ⟨H5,e5,h5⟩:=h4.pull2.pull1.put (f:=1) (by decide) (by simp [SFrame.row]) rfl c4
   obtain ⟨d6,H6,s6,b6,ls,e6,h6,t6⟩:=c164 h5.pull1
   obtain ⟨v7,q7⟩:=h6.val
   have c6:d6.cells=[d6]:=rep_cells q7.1
   obtain ⟨H7,e7,h7⟩:=h6.pull2.pull1.put (f:=2) (by decide) (by simp [SFrame.row]) rfl c6
   simp only [e3,e4,e5,e6,e7,Option.bind_some,fa_ptr,Nat.zero_add]
   have h7':Own H7 (.var 2 H1.length ((SFrame.row ⟨t,ll,ls⟩).map Cell.own) :: tk b s6 b6 :: .var 3 p (mrow m) :: .var 3 q ts0 :: L):=h7
   obtain ⟨d8,e8,h8⟩:=h7'.pull2.take (f:=7) (t:=.list (m.Frames.map SFrame.row)) rfl
   obtain ⟨cs,e9,h9,-⟩:=(h8.pull2.whole (z:=3) rfl)
   obtain ⟨d10,H10,e10,e11,h10,c10⟩:=h9.pull1.app (n:=2) (t:=SFrame.row ⟨t,ll,ls⟩) rowOf_agg (esz:=3) (eb:=56) (zero:=[.int .i64 0,.sl0,.sl0]) rfl (by decide) rfl rfl (fun r hr=>by obtain ⟨x,_,rfl⟩:=List.mem_map.mp hr; rfl) (by simp [maxLen]; omega)
   obtain ⟨H11,e12,h11⟩:=h10.put (f:=7) (by decide) (by simp [SMethod.row]) rfl c10
   simp only [e8,e9,e10,e11,e12,Option.bind_some,bI_sub]
   rw [wrap_i64 (n:=((n + 1:Nat):Int) - 1) (by omega) (by omega),show ((n + 1:Nat):Int) - 1=(n:Int) by omega]
   have hrow:((((mrow m).set 7 (Cell.raw d8)).set 7 (Cell.own (D.list (m.Frames.map SFrame.row++[SFrame.row ⟨t,ll,ls⟩])))))=mrow { m with Frames:=m.Frames++[⟨t,ll,ls⟩] }:=by
    simp [mrow,SMethod.row]
   rw [hrow] at h11
   obtain ⟨cs',H',s',bad',l,e13,h13,t13⟩:=c123_18 b p q ts0 h0 n { m with Frames:=m.Frames++[⟨t,ll,ls⟩] } H11 L s6 b6 (h11.pull2.pull1) (by simp; omega)
   refine ⟨cs',H',s',bad',⟨t,ll,ls⟩ :: l,e13,by simpa using h13,?_⟩
   show Took (bindG gFrame fun a=>bindG (gMany gFrame n) fun l=>pureG (a :: l)) s false _ s' bad'
   refine Took.seq ?_ (t13.seq (Took.pure _ _ _))
   exact t1.seq (t4.seq (t6.seq (Took.pure _ _ _)))
theorem c123_10 (b p q:Nat) (ts0:List Cell) (h0:ts0.length=8):∀ (n:Nat) (m:SMethod) (H:Heap) (L:List Asset) (s:List UInt8) (bad:Bool),Own H (.var 3 p (mrow m) :: .var 3 q ts0 :: tk b s bad :: L)→m.Traps.length + n≤1000→m.Frames=[] →
  ∃ cs H' s' bad' l s1 b1 l2,J E 123 10 [.ptr b 0 0,.ptr q 0 0,.ptr p 0 0,.int .i64 n] H=some (.agg cs,H')∧Own H' (.val 4 (.agg cs) (.agg (SMethod.row { m with Traps:=m.Traps++l,Frames:=l2 })) :: tk b s' bad' :: L)∧Took (gMany gTrap n) s bad l s1 b1∧Took (gList 8 gFrame) s1 b1 l2 s' bad':=by
 have fin:∀ (m:SMethod) (H:Heap) (L:List Asset) (s:List UInt8) (bad:Bool),Own H (.var 3 p (mrow m) :: .var 3 q ts0 :: tk b s bad :: L)→m.Frames=[] →
   ∃ cs H' s' bad' l2,((callFn E (exec E) .raw 120 [.ptr b 0 0] H).bind fun r58=>(callFn E (exec E) .raw 119 [.ptr b 0 0,r58.1,(D.int .i64 8)] r58.2).bind fun r59=>J E 123 18 [.ptr b 0 0,.ptr q 0 0,.ptr p 0 0,r59.1] r59.2)=some (.agg cs,H')∧Own H' (.val 4 (.agg cs) (.agg (SMethod.row { m with Frames:=l2 })) :: tk b s' bad' :: L)∧Took (gList 8 gFrame) s bad l2 s' bad':=by
  intro m H L s bad h hf
  obtain ⟨t0,H1,s1,b1,e1,h1,t1,g0,g1⟩:=c120 h.pull2
  obtain ⟨t,H2,b2,e2,h2,t2,g2,g3,-⟩:=c119 h1 t1 g0 8 (by decide)
  simp only [call_raw,e1,e2,Option.bind_some]
  obtain ⟨k,rfl⟩:∃ k:Nat,t=k:=⟨t.toNat,by omega⟩
  obtain ⟨cs,H',s',bad',l,e8,h8,t8⟩:=c123_18 b p q ts0 h0 k m H2 L s1 b2 (h2.pull2.pull2) (by simp [hf]; omega)
  rw [hf,List.nil_append] at h8
  exact ⟨cs,H',s',bad',l,e8,h8,t2.seq t8⟩
 intro n
 induction n with
 | zero=>
  intro m H L s bad h hn hf
  rw [j123_10]
  simp only [bI_gtr,Int.natCast_zero,Int.lt_irrefl,decide_false,Option.bind_some,asB_bool,cond_false]
  obtain ⟨cs,H',s',bad',l2,e1,h1,t1⟩:=fin m H L s bad h hf
  exact ⟨cs,H',s',bad',[],s,bad,l2,e1,by simpa using h1,Took.pure _ _ _,t1⟩
 | succ n ih=>
  intro m H L s bad h hn hf
  have hgt:(0:Int) < ((n + 1:Nat):Int):=by omega
  have l1:=h.pull2.ld (f:=1) rfl rfl
  rw [j123_10]
  simp only [bI_gtr,hgt,decide_true,Option.bind_some,asB_bool,cond_true,nilCheck_ptr,fa_ptr,Nat.zero_add,l1,unOp_not]
  cases bad with
  | true=>
   simp only [Bool.not_true,cond_false]
   obtain ⟨cs,H',s',bad',l2,e1,h1,t1⟩:=fin m H L s true h hf
   exact ⟨cs,H',s',bad',[],s,true,l2,e1,by simpa using h1,Took.bad _ _ _,t1⟩
  | false=>
   simp only [Bool.not_false,cond_true,call_raw]
   obtain ⟨t,H1,s1,b1,e1,h1,t1,g0,g1⟩:=c122 h.pull2
   simp only [e1,Option.bind_some]
   rw [show bld [.int .i64 0,.int .i64 0,.int .i64 0,.int .i64 0] [(0,1,false),(1,1,false),(2,1,false),(3,1,false)] [(0,.int .i64 t)]=some (.agg (STrap.row ⟨t,0,0,0⟩)) from rfl]
   simp only [Option.bind_some]
   rw [alloc_eq _ _ _ rfl]
   have z2:∀ t:STrap,∀ f:Nat,t.row[f]? = some (D.list [])→t.row[f]? = some D.sl0:=fun t f hf=>by rcases f with _ | _ | _ | _ | f <;> simp [STrap.row] at hf
   obtain ⟨H3,e3,h3,-⟩:=(h1.alloc 0 (cs:=STrap.row ⟨0,0,0,0⟩) (ts:=STrap.row ⟨0,0,0,0⟩) (RepR.scalars rfl) rfl (z2 _)).init (cs:=STrap.row ⟨t,0,0,0⟩) (ts:=STrap.row ⟨t,0,0,0⟩) (RepR.scalars rfl) rfl (z2 _) (z:=4) rfl rfl
   rw [show H1++[some [STrap.row ⟨0,0,0,0⟩]]=H1++[some [[D.int .i64 0,.int .i64 0,.int .i64 0,.int .i64 0]]] from rfl] at e3
   obtain ⟨t2,H4,s4,b4,e4,h4,k4,-,-⟩:=c122 h3.pull1
   obtain ⟨H5,e5,h5⟩:=h4.pull1.st (f:=1) (v:=.int .i64 t2) (by simp [STrap.row]) rfl rfl
   obtain ⟨t3,H6,s6,b6,e6,h6,k6,-,-⟩:=c122 h5.pull1
   obtain ⟨H7,e7,h7⟩:=h6.pull1.st (f:=2) (v:=.int .i64 t3) (by simp [STrap.row]) rfl rfl
   obtain ⟨t4,H8,s8,b8,e8,h8,k8,-,-⟩:=c122 h7.pull1
   obtain ⟨H9,e9,h9⟩:=h8.pull1.st (f:=3) (v:=.int .i64 t4) (by simp [STrap.row]) rfl rfl
   simp only [e3,e4,e5,e6,e7,e8,e9,Option.bind_some,fa_ptr,Nat.zero_add]
   have h9':Own H9 (.var 0 H1.length ((STrap.row ⟨t,t2,t3,t4⟩).map Cell.own) :: tk b s8 b8 :: .var 3 p (mrow m) :: .var 3 q ts0 :: L):=h9
   obtain ⟨d10,e10,h10⟩:=h9'.pull2.take (f:=6) (t:=.list (m.Traps.map STrap.row)) rfl
   obtain ⟨cs,e11,h11,-⟩:=(h10.pull2.whole (z:=4) rfl)
   obtain ⟨d12,H12,e12,e13,h12,c12⟩:=h11.pull1.app (n:=2) (t:=STrap.row ⟨t,t2,t3,t4⟩) (fun B hB=>(rowOf_agg B hB).up (by decide)) (esz:=4) (eb:=32) (zero:=[.int .i64 0,.int .i64 0,.int .i64 0,.int .i64 0]) rfl (by decide) rfl rfl (fun r hr=>by obtain ⟨x,_,rfl⟩:=List.mem_map.mp hr; rfl) (by simp [maxLen]; omega)
   obtain ⟨H14,e14,h14⟩:=h12.put (f:=6) (by decide) (by simp [SMethod.row]) rfl c12
   simp only [e10,e11,e12,e13,e14,Option.bind_some,bI_sub]
   rw [wrap_i64 (n:=((n + 1:Nat):Int) - 1) (by omega) (by omega),show ((n + 1:Nat):Int) - 1=(n:Int) by omega]
   have hrow:((((mrow m).set 6 (Cell.raw d10)).set 6 (Cell.own (D.list (m.Traps.map STrap.row++[STrap.row ⟨t,t2,t3,t4⟩])))))=mrow { m with Traps:=m.Traps++[⟨t,t2,t3,t4⟩] }:=by
    simp [mrow,SMethod.row]
   rw [hrow] at h14
   obtain ⟨cs',H',s',bad',l,s15,b15,l2,e15,h15,t15,t16⟩:=ih { m with Traps:=m.Traps++[⟨t,t2,t3,t4⟩] } H14 L s8 b8 (h14.pull2.pull1) (by simp; omega) hf
   refine ⟨cs',H',s',bad',⟨t,t2,t3,t4⟩ :: l,s15,b15,l2,e15,by simpa using h15,?_,t16⟩
   show Took (bindG gTrap fun a=>bindG (gMany gTrap n) fun l=>pureG (a :: l)) s false _ s15 b15
   refine Took.seq ?_ (t15.seq (Took.pure _ _ _))
   exact t1.seq (k4.seq (k6.seq (k8.seq (Took.pure _ _ _))))
theorem c123 {H:Heap} {L:List Asset} {b:Nat} {s:List UInt8} {bad:Bool} (h:Own H (tk b s bad :: L)):∃ cs H' s' bad' m,ent E 123 [.ptr b 0 0] H=some (.agg cs,H')∧Own H' (.val 4 (.agg cs) (.agg (SMethod.row m)) :: tk b s' bad' :: L)∧Took gMethod s bad m s' bad':=by
 rw [e123,alloc_eq _ _ _ rfl]
 have h1:=h.alloc 3 (cs:=[.int .i64 0,.int .i64 0,.int .i64 0,.int .i64 0,.int .i64 0,.str [],.sl0,.sl0]) (ts:=(({}:SMethod)).row) ((zmeth {} rfl rfl).frame fun c hc=>by cases hc) rfl (zmeth0 {})
 obtain ⟨f,H2,s2,b2,e2,h2,t2,g0,g1⟩:=c120 h1.pull1
 simp only [call_raw,e2,Option.bind_some]
 rw [show bld [.int .i64 0,.int .i64 0,.int .i64 0,.int .i64 0,.int .i64 0,.str [],.sl0,.sl0] [(0,1,false),(1,1,false),(2,1,false),(3,1,false),(4,1,false),(5,1,false),(6,1,false),(7,1,false)] [(0,.int .i64 f)]=some (.agg [.int .i64 f,.int .i64 0,.int .i64 0,.int .i64 0,.int .i64 0,.str [],.sl0,.sl0]) from rfl]
 simp only [Option.bind_some]
 rw [alloc_eq _ _ _ rfl]
 obtain ⟨H3,e3,h3,-⟩:=(h2.alloc 3 (cs:=[.int .i64 0,.int .i64 0,.int .i64 0,.int .i64 0,.int .i64 0,.str [],.sl0,.sl0]) (ts:=(({}:SMethod)).row) ((zmeth {} rfl rfl).frame fun c hc=>by cases hc) rfl (zmeth0 {})).init (cs:=[.int .i64 f,.int .i64 0,.int .i64 0,.int .i64 0,.int .i64 0,.str [],.sl0,.sl0]) (ts:=SMethod.row ⟨f,0,0,0,0,[],[],[]⟩) ((zmeth ⟨f,0,0,0,0,[],[],[]⟩ rfl rfl).frame fun c hc=>by cases hc) rfl (zmeth0 _) (z:=8) rfl rfl
 obtain ⟨nm,H4,s4,b4,e4,h4,t4,-,-⟩:=c122 h3.pull1
 obtain ⟨H5,e5,h5⟩:=h4.pull1.st (f:=1) (v:=.int .i64 nm) (by simp [SMethod.row]) rfl rfl
 obtain ⟨ds,H6,s6,b6,e6,h6,t6,-,-⟩:=c122 h5.pull1
 obtain ⟨H7,e7,h7⟩:=h6.pull1.st (f:=2) (v:=.int .i64 ds) (by simp [SMethod.row]) rfl rfl
 have h7':Own H7 (.var 3 H2.length (mrow ⟨f,nm,ds,0,0,[],[],[]⟩) :: tk b s6 b6 :: .var 3 H.length (mrow {}) :: L):=h7
 have l7:ld false 1 H7 (.ptr H2.length 0 0)=some (.int .i64 f):=h7'.ld (f:=0) rfl rfl
 simp only [e3,e4,e5,e6,e7,l7,Option.bind_some,fa_ptr,Nat.zero_add]
 rw [pure_call (ts:=[.int .i64 f]) (by simp) (c44 f)]
 simp only [Option.bind_some,asB_bool]
 have goal:∀ {m:SMethod} {s':List UInt8} {b':Bool} {x:Get SMethod},(x=if isAbs f=true then pureG ⟨f,nm,ds,0,0,[],[],[]⟩ else gBody f nm ds)→Took x s6 b6 m s' b'→Took gMethod s bad m s' b':=by
  intro m s' b' x hx ht
  rw [hx] at ht
  exact t2.seq (t4.seq (t6.seq ht))
 cases ha:isAbs f with
 | true=>
  simp only [cond_true]
  obtain ⟨cs,H',e8,h8⟩:=c123_end (h7'.pull2.pull1) rfl
  exact ⟨cs,H',s6,b6,_,e8,h8,goal rfl (by rw [if_pos ha]; exact Took.pure _ _ _)⟩
 | false=>
  simp only [cond_false]
  obtain ⟨dp,H8,s8,b8,e8,h8,t8,-,-⟩:=c120 h7'.pull1
  obtain ⟨H9,e9,h9⟩:=h8.pull1.st (f:=3) (v:=.int .i64 dp) (by simp [SMethod.row]) rfl rfl
  obtain ⟨lc,H10,s10,b10,e10,h10,t10,-,-⟩:=c120 h9.pull1
  obtain ⟨H11,e11,h11⟩:=h10.pull1.st (f:=4) (v:=.int .i64 lc) (by simp [SMethod.row]) rfl rfl
  obtain ⟨c0,H12,s12,b12,e12,h12,t12,g12,-⟩:=c122 h11.pull1
  obtain ⟨cn,H13,b13,e13,h13,t13,g13,g14,-⟩:=c119 h12 t12 g12 120 (by decide)
  obtain ⟨cd,H14,s14,b14,e14,h14,t14,-,-⟩:=c118 h13 cn g13
  obtain ⟨H15,e15,h15⟩:=h14.pull1.st (f:=5) (v:=.str cd) (by simp [SMethod.row]) rfl rfl
  obtain ⟨r0,H16,s16,b16,e16,h16,t16,g16,-⟩:=c120 h15.pull1
  obtain ⟨r,H17,b17,e17,h17,t17,g17,g18,-⟩:=c119 h16 t16 g16 3 (by decide)
  simp only [e8,e9,e10,e11,e12,e13,e14,e15,e16,e17,Option.bind_some]
  obtain ⟨k,rfl⟩:∃ k:Nat,r=k:=⟨r.toNat,by omega⟩
  have h17':Own H17 (tk b s16 b17 :: .var 3 H2.length (mrow ⟨f,nm,ds,dp,lc,cd,[],[]⟩) :: .var 3 H.length (mrow {}) :: L):=h17
  obtain ⟨cs,H',s',bad',l,s19,b19,l2,e19,h19,t19,t20⟩:=c123_10 b H2.length H.length _ rfl k ⟨f,nm,ds,dp,lc,cd,[],[]⟩ H17 L s16 b17 (h17'.pull2.pull2) (by simp; omega) rfl
  refine ⟨cs,H',s',bad',⟨f,nm,ds,dp,lc,cd,l,l2⟩,e19,h19,goal rfl ?_⟩
  rw [if_neg (by simp [ha])]
  exact t8.seq (t10.seq (t13.seq (t14.seq (Took.seq (g:=gList 3 gTrap) (t17.seq t19) (t20.seq (Took.pure _ _ _))))))
end Go.Ev.YtmpfooibdekppaaGreatDoor
