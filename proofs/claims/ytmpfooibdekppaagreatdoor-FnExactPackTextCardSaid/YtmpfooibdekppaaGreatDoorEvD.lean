import Derived.Test.YtmpfooibdekppaaGreatDoorEvC
namespace Go.Ev
open Go.RowKit
set_option linter.unusedVariables false
set_option linter.unusedSimpArgs false
variable {E:Env} {P:Program} {base:Nat} {w:World}
theorem parts_congr {s s':Slots} {ps:Array (Nat×Operand)} (h:∀ x ∈ ps.map (·.2),opnd s x=opnd s' x):parts s ps=parts s' ps:=by
 unfold parts
 refine List.map_congr_left fun p hp=>?_
 rw [h p.2 (Array.mem_map.2 ⟨p,by simpa using hp,rfl⟩)]
theorem opt_congr {s s':Slots} {x:Option Operand} (h:∀ y,x=some y→opnd s y=opnd s' y):x.map (opnd s)=x.map (opnd s'):=by
 cases x with
 | none=>rfl
 | some y=>simp [h y rfl]
theorem list_congr {s s':Slots} {l:List Operand} (h:∀ x ∈ l,opnd s x=opnd s' x):l.map (opnd s)=l.map (opnd s'):=List.map_congr_left h
theorem popOp_congr {s s':Slots} (H:Heap) {op:Op} (h:∀ x ∈ op.operands,opnd s x=opnd s' x):popOp E s H op=popOp E s' H op:=by
 cases op <;> simp only [popOp] <;> simp only [Op.operands] at h
 case build t ps=>rw [parts_congr (s:=s) (s':=s') fun x hx=>h x (by simpa using hx)]
 case slice t x lo hi mx=>
  rw [h x (by simp),opt_congr (s:=s) (s':=s') (x:=lo) fun y hy=>h y (by simp [hy]),opt_congr (s:=s) (s':=s') (x:=hi) fun y hy=>h y (by simp [hy]),opt_congr (s:=s) (s':=s') (x:=mx) fun y hy=>h y (by simp [hy])]
 case call c=>
  split
  ·rename_i x t ha ht
   rw [h x (by
    have:x ∈ c.args:=by rw [← Array.mem_toList_iff,ha]; simp
    simp [Call.operands,this])]
  ·rfl
 all_goals (first | rfl | (simp_all; done))
theorem opRes_congr {rec:FuncId→List Item→Slots→Heap→R} {f:FuncId} {s s':Slots} (H:Heap) {op:Op} (h:∀ x ∈ op.operands,opnd s x=opnd s' x):opRes E rec f s H op=opRes E rec f s' H op:=by
 have hp:=popOp_congr (E:=E) H h
 cases op
 case move x=>simp only [opRes,h x (by simp [Op.operands])]
 case assign x=>simp only [opRes,h x (by simp [Op.operands])]
 case pick c a b=>simp only [opRes,h c (by simp [Op.operands]),h a (by simp [Op.operands]),h b (by simp [Op.operands])]
 case makeFunc fn first captured=>
  cases fn <;> simp only [opRes]
  ·rw [list_congr (s:=s) (s':=s') (l:=captured.toList) fun x hx=>h x (by simp [Op.operands] at *; exact .inr hx)]
  all_goals simp only [hp,stepOp]
 case alloc t=>rfl
 case box t v=>simp only [opRes,h v (by simp [Op.operands])]
 case store t a x=>simp only [opRes,h a (by simp [Op.operands]),h x (by simp [Op.operands])]
 case buildSlice t n ps=>
  simp only [opRes,hp,stepOp]
  rw [parts_congr (s:=s) (s':=s') fun x hx=>h x (by simpa [Op.operands] using hx)]
 case makeSlice t l c=>simp only [opRes,hp,stepOp,h l (by simp [Op.operands]),h c (by simp [Op.operands])]
 case convert a b x=>simp only [opRes,hp,stepOp,h x (by simp [Op.operands])]
 case call c=>
  have hargs:c.args.toList.map (opnd s)=c.args.toList.map (opnd s'):=list_congr fun x hx=>h x (by
   have:x ∈ c.args:=by simpa using hx
   simp [Op.operands,Call.operands,this])
  unfold opRes
  dsimp only
  rw [hp]
  congr 1
  cases hc:c.callee with
  | value x=>
   dsimp only
   rw [h x (by simp [Op.operands,Call.operands,hc]),hargs]
  | invoke a b=>simp [stepOp,hc]
  | builtin bb=>
   dsimp only
   unfold stepOp
   dsimp only
   rw [hc]
   cases bb <;> try rfl
   case clear=>
    dsimp only
    split
    ·rename_i x t ha ht
     rw [h x (by
      have:x ∈ c.args:=by rw [← Array.mem_toList_iff,ha]; simp
      simp [Op.operands,Call.operands,this])]
    ·rfl
   case max=>
    dsimp only
    split
    ·rename_i x y ha
     rw [h x (by
      have:x ∈ c.args:=by rw [← Array.mem_toList_iff,ha]; simp
      simp [Op.operands,Call.operands,this]),h y (by
      have:y ∈ c.args:=by rw [← Array.mem_toList_iff,ha]; simp
      simp [Op.operands,Call.operands,this])]
    ·rfl
   dsimp only
   split
   ·rename_i a x t u ha ht
    rw [h a (by
     have:a ∈ c.args:=by rw [← Array.mem_toList_iff,ha]; simp
     simp [Op.operands,Call.operands,this]),h x (by
     have:x ∈ c.args:=by rw [← Array.mem_toList_iff,ha]; simp
     simp [Op.operands,Call.operands,this])]
   ·rfl
 all_goals (unfold opRes; dsimp only; simp only [hp,stepOp])
def evStep (E:Env) (rec:FuncId→List Item→Slots→Heap→R) (f:FuncId) (ops:Array Oper) (i:Nat) (x:Slots×Heap):Option (Slots×Heap):=
 match ops[i]? with
 | none=>none
 | some o=>
  match o.guard with
  | none=>(opRes E rec f x.1 x.2 o.op).map fun r=>(putS x.1 o.dst r.1,r.2)
  | some (g,want)=>
   match gslot ops g with
   | none=>none
   | some t=>
    match slot x.1 t with
    | .bool b=>bif b == want then (opRes E rec f ((t,.bool b) :: x.1) x.2 o.op).map fun r=>(putS ((t,.bool b) :: x.1) o.dst r.1,r.2) else some (putS ((t,.bool b) :: x.1) o.dst (.tup []),x.2)
    | .tup []=>some (putS x.1 o.dst (.tup []),x.2)
    | _=>none
def Rechk (E:Env) (ops:Array Oper) (s:Slots) (H:Heap) (j:Nat):Prop:=∃ o t a d v,ops[j]? = some o∧o.op = .load t a∧o.dst=some d∧load E H t (opnd s a)=some v∧sameD v (slot s d)=true
theorem rechk_all {ops:Array Oper} {s:Slots} {H:Heap} {k:R} {q:D×Heap}:∀ {l:List Nat},rechk E ops s H k l=some q→k=some q∧∀ j ∈ l,Rechk E ops s H j
 | [],h=>⟨h,fun j hj=>by cases hj⟩
 | j :: js,h=>by
  unfold rechk at h
  split at h
  ·rename_i o ho
   split at h
   ·rename_i t a d h1 h2
    obtain ⟨v,hv,h⟩:=Option.bind_eq_some_iff.mp h
    unfold again at h
    cases hs:sameD v (slot s d) <;> rw [hs] at h
    ·cases h
    ·obtain ⟨g1,g2⟩:=rechk_all h
     refine ⟨g1,fun j' hj=>?_⟩
     rcases List.mem_cons.mp hj with rfl | hj
     ·exact ⟨o,t,a,d,v,ho,h1,h2,hv,hs⟩
     ·exact g2 j' hj
   ·cases h
  ·cases h
theorem evOps_cons {rec:FuncId→List Item→Slots→Heap→R} {f:FuncId} {ops:Array Oper} {fl:Nat→List Nat} {i:Nat} {is sk:List Nat} {s:Slots} {H:Heap} {k:Slots→Heap→R} {q:D×Heap} (hK:SkOk sk s)
  (h:evOps E rec f ops fl (i :: is) sk s H k=some q):∃ x sk',evStep E rec f ops i (s,H)=some x∧SkOk sk' x.1∧evOps E rec f ops fl is sk' x.1 x.2 k=some q∧(x.2=H∨∀ j ∈ fl i,Rechk E ops x.1 x.2 j):=by
 unfold evOps at h
 unfold evStep
 cases ho:ops[i]? with
 | none=>rw [ho] at h; cases h
 | some o=>
  rw [ho] at h
  dsimp only at h ⊢
  cases hg:o.guard with
  | none=>
   rw [hg] at h
   dsimp only at h ⊢
   rw [doOp_res] at h
   obtain ⟨r,hr,h⟩:=Option.bind_eq_some_iff.mp h
   obtain ⟨h,hc⟩:=rechk_all h
   exact ⟨_,_,by rw [hr]; rfl,hK.unsk _ _,h,.inr hc⟩
  | some gw=>
   obtain ⟨g,want⟩:=gw
   rw [hg] at h
   dsimp only at h ⊢
   cases ht:gslot ops g with
   | none=>rw [ht] at h; cases h
   | some t=>
    rw [ht] at h
    dsimp only at h ⊢
    cases hsk:sk.any (Nat.beq t) with
    | true=>
     rw [hsk] at h
     simp only [cond_true] at h
     obtain ⟨t',ht',hbq⟩:=List.any_eq_true.mp hsk
     have:t=t':=Nat.eq_of_beq_eq_true hbq
     subst this
     rw [hK t ht']
     exact ⟨_,_,rfl,hK.insk _,h,.inl rfl⟩
    | false=>
     rw [hsk] at h
     simp only [cond_false] at h
     unfold asB at h
     split at h
     ·rename_i b hb
      have hK':SkOk sk ((t,.bool b) :: s):=hK.congr fun k _=>slot_cons_same hb k
      rw [hb]
      cases want <;> cases b <;> simp only [cond_true,cond_false] at h <;> simp only [beq_self_eq_true,cond_true,show (true == false)=false from rfl,show (false == true)=false from rfl,cond_false]
      ·rw [doOp_res] at h
       obtain ⟨r,hr,h⟩:=Option.bind_eq_some_iff.mp h
       obtain ⟨h,hc⟩:=rechk_all h
       exact ⟨_,_,by rw [hr]; rfl,hK'.unsk _ _,h,.inr hc⟩
      ·exact ⟨_,_,rfl,hK'.insk _,h,.inl rfl⟩
      ·exact ⟨_,_,rfl,hK'.insk _,h,.inl rfl⟩
      ·rw [doOp_res] at h
       obtain ⟨r,hr,h⟩:=Option.bind_eq_some_iff.mp h
       obtain ⟨h,hc⟩:=rechk_all h
       exact ⟨_,_,by rw [hr]; rfl,hK'.unsk _ _,h,.inr hc⟩
     ·cases h
theorem evOps_trace {rec:FuncId→List Item→Slots→Heap→R} {f:FuncId} {ops:Array Oper} {fl:Nat→List Nat} {k:Slots→Heap→R} {q:D×Heap}:∀ (m a:Nat) (sk:List Nat) (s:Slots) (H:Heap),SkOk sk s→evOps E rec f ops fl (List.range' a m) sk s H k=some q →
  ∃ st:Nat→Slots×Heap,st a=(s,H)∧(∀ i,a≤i→i < a + m→evStep E rec f ops i (st i)=some (st (i + 1))∧((st (i + 1)).2=(st i).2∨∀ j ∈ fl i,Rechk E ops (st (i + 1)).1 (st (i + 1)).2 j))∧k (st (a + m)).1 (st (a + m)).2=some q
 | 0,a,sk,s,H,hK,h=>⟨fun _=>(s,H),rfl,fun i h1 h2=>by omega,h⟩
 | m + 1,a,sk,s,H,hK,h=>by
  rw [List.range'_succ] at h
  obtain ⟨x,sk',hx,hK',h,hc⟩:=evOps_cons hK h
  obtain ⟨st,h1,h2,h3⟩:=evOps_trace m (a + 1) sk' x.1 x.2 hK' h
  refine ⟨fun i=>if i=a then (s,H) else st i,if_pos rfl,fun i hi hi'=>?_,?_⟩
  ·by_cases e:i=a
   ·subst e
    simp only [if_true,if_neg (show ¬ i + 1=i by omega)]
    rw [h1]; exact ⟨hx,hc⟩
   ·simp only [if_neg e,if_neg (show ¬ i + 1=a by omega)]
    exact h2 i (by omega) (by omega)
  ·simp only [if_neg (show ¬ a + (m + 1)=a by omega)]
   rw [show a + (m + 1)=a + 1 + m by omega]
   exact h3
end Go.Ev
namespace Go.Ev
open Go.RowKit
set_option linter.unusedVariables false
set_option linter.unusedSimpArgs false
variable {E:Env} {P:Program} {base:Nat} {w:World}
theorem opRes_still (hE:EnvOk E P) {rec:FuncId→List Item→Slots→Heap→R} {f:FuncId} {s:Slots} {H:Heap} {op:Op} (h:heapy E op=false) {r:D×Heap} (hr:opRes E rec f s H op=some r) :
  r.2=H∧∀ H',opRes E rec f s H' op=some (r.1,H'):=by
 have hpop:∀ {op:Op},(∀ H',popOp E s H' op=popOp E s H op)→(popOp E s H op).map (fun d=>(d,H))=some r→r.2=H∧∀ H',(popOp E s H' op).map (fun d=>(d,H'))=some (r.1,H'):=by
  intro op he h
  obtain ⟨d,hd,rfl⟩:=Option.map_eq_some_iff.mp h
  exact ⟨rfl,fun H'=>by rw [he H',hd]; rfl⟩
 cases op
 case move x=>cases hr; exact ⟨rfl,fun _=>rfl⟩
 case assign x=>cases hr; exact ⟨rfl,fun _=>rfl⟩
 case pick c a b=>
  unfold opRes at hr ⊢
  dsimp only at hr ⊢
  split at hr
  ·cases hr; exact ⟨rfl,fun _=>rfl⟩
  ·cases hr
 case makeFunc fn first captured=>
  cases fn <;> try (cases hr; done)
  unfold opRes at hr ⊢
  dsimp only at hr ⊢
  cases hc:(Nat.beq first.size 0 && (captured.toList.map (opnd s)).all D.isCell) <;> rw [hc] at hr <;> cases hr
  exact ⟨rfl,fun _=>rfl⟩
 case slice t x lo hi mx=>
  refine hpop (fun H'=>?_) hr
  simp only [popOp,slice]
  cases hy:E.ty t with
  | none=>rfl
  | some y=>
   simp only [heapy,hy,Option.any_some,Bool.not_eq_false'] at h
   have hk:y.kd = .str:=by simpa using h
   have hns:y.isSl=false:=by
    cases hs:y.isSl with
    | false=>rfl
    | true=>
     obtain ⟨ti,td,hti,hd,hty⟩:=ty_kd hE hy
     obtain ⟨e,ie,rfl,_⟩:=tyD_slice hty hs
     have:=(tyD_kd hty).2.2.1 hk
     cases this
   simp [hns]
 case call c=>
  obtain ⟨callee,args,argTypes⟩:=c
  have hc:callee = .builtin .len:=by
   cases callee with
   | value x=>simp [heapy] at h
   | invoke a b=>simp [heapy] at h
   | builtin bb=>cases bb <;> first | rfl | (simp [heapy] at h; done)
  subst hc
  exact hpop (fun H'=>rfl) hr
 all_goals first | (simp [heapy] at h; done) | exact hpop (fun H'=>rfl) hr | (cases hr; done)
theorem pairs2_spec (f:FuncId) (ops:Array Oper) (m:List Nat) (o:Oper):∀ (l:List Oper) (i a:Nat),pairsOk.pairs2 E f ops m o l i a=true→∀ (k:Nat) o',l[k]? = some o'→(m.getD (a + k) 0).testBit i=true∨freePair E f ops o o'=true∨(floatB ops i=true∧writer E f o'.op=true∧apartB ops o o'=true)
 | [],i,a,_,k,o',h=>by simp at h
 | x :: l,i,a,hp,0,o',h=>by
  simp only [List.getElem?_cons_zero,Option.some.injEq] at h
  subst h
  simp only [pairsOk.pairs2,Bool.and_eq_true,Bool.or_eq_true] at hp
  exact or_assoc.mp hp.1
 | x :: l,i,a,hp,k + 1,o',h=>by
  simp only [pairsOk.pairs2,Bool.and_eq_true] at hp
  have:=pairs2_spec f ops m o l i (a + 1) hp.2 k o' (by simpa using h)
  rwa [show a + 1 + k=a + (k + 1) by omega] at this
theorem pairsOk_spec (f:FuncId) (ops:Array Oper) (m:List Nat):∀ (l:List Oper) (a:Nat),pairsOk E f ops m l a=true →
  (∀ (k:Nat) o,l[k]? = some o→edgesOk m (a + k) o.after.toList=true) ∧
  (∀ (k k':Nat) o o',l[k]? = some o→l[k']? = some o'→k < k'→(m.getD (a + k') 0).testBit (a + k)=true∨freePair E f ops o o'=true∨(floatB ops (a + k)=true∧writer E f o'.op=true∧apartB ops o o'=true))
 | [],a,_=>⟨fun k o h=>by simp at h,fun k k' o o' h=>by simp at h⟩
 | x :: l,a,hp=>by
  simp only [pairsOk,Bool.and_eq_true] at hp
  obtain ⟨⟨h1,h2⟩,h3⟩:=hp
  obtain ⟨i1,i2⟩:=pairsOk_spec f ops m l (a + 1) h3
  refine ⟨fun k o h=>?_,fun k k' o o' h h' hlt=>?_⟩
  ·cases k with
   | zero=>simp at h; subst h; exact h1
   | succ k=>
    have:=i1 k o (by simpa using h)
    rwa [show a + 1 + k=a + (k + 1) by omega] at this
  ·cases k' with
   | zero=>omega
   | succ k'=>
    cases k with
    | zero=>
     simp at h; subst h
     have:=pairs2_spec f ops m x l a (a + 1) h2 k' o' (by simpa using h')
     rwa [show a + 1 + k'=a + (k' + 1) by omega] at this
    | succ k=>
     have:=i2 k k' o o' (by simpa using h) (by simpa using h') (by omega)
     rwa [show a + 1 + k'=a + (k' + 1) by omega,show a + 1 + k=a + (k + 1) by omega] at this
theorem guardsOk_spec (ops:Array Oper) (m:List Nat):∀ (l:List Oper) (a:Nat),guardsOk ops m l a=true→∀ (k:Nat) o g want,l[k]? = some o→o.guard=some (g,want)→(m.getD (a + k) 0).testBit g=true∧(gslot ops g).isSome=true
 | [],a,_,k,o,g,want,h,_=>by simp at h
 | x :: l,a,hp,0,o,g,want,h,hg=>by
  simp at h; subst h
  simp only [guardsOk,hg,Bool.and_eq_true] at hp
  exact hp.1
 | x :: l,a,hp,k + 1,o,g,want,h,hg=>by
  simp only [guardsOk,Bool.and_eq_true] at hp
  have:=guardsOk_spec ops m l (a + 1) hp.2 k o g want (by simpa using h) hg
  rwa [show a + 1 + k=a + (k + 1) by omega] at this
end Go.Ev
namespace Go.Ev
open Go.RowKit
set_option linter.unusedVariables false
set_option linter.unusedSimpArgs false
variable {E:Env} {P:Program} {base:Nat} {w:World}
theorem fold_bits (m:List Nat) (g:Nat):∀ (es:List Edge) (s0:Nat),(es.foldl (fun s e=>bif Region.binds .any e then s ||| 2 ^ e.on ||| m.getD e.on 0 else s) s0).testBit g=true →
  s0.testBit g=true∨∃ e ∈ es,Region.binds .any e=true∧(e.on=g∨(m.getD e.on 0).testBit g=true)
 | [],s0,h=>.inl h
 | e :: es,s0,h=>by
  rw [List.foldl_cons] at h
  rcases fold_bits m g es _ h with h | ⟨e',h1,h2⟩
  ·cases hb:Region.binds .any e with
   | false=>rw [hb] at h; exact .inl h
   | true=>
    rw [hb] at h
    simp only [cond_true,Nat.testBit_or,Bool.or_eq_true] at h
    rcases h with (h | h) | h
    ·exact .inl h
    ·refine .inr ⟨e,by simp,hb,.inl ?_⟩
     rw [Nat.testBit_two_pow] at h
     simpa using h
    ·exact .inr ⟨e,by simp,hb,.inr h⟩
  ·exact .inr ⟨e',by simp [h1],h2⟩
def Closed (m:List Nat) (listed:Array Bool):Prop:=∀ i,listed.getD i false=true→∀ g,(m.getD i 0).testBit g=true→listed.getD g false=true
theorem ready_ahead {ops:Array Oper} {m:List Nat} {i:Nat} {o:Oper} (ho:ops[i]? = some o) (he:edgesOk m i o.after.toList=true) {listed:Array Bool} (hr:i ∈ Region.ready .any ops listed) (hc:Closed m listed) {g:Nat}
  (hg:(m.getD i 0).testBit g=true):listed.getD g false=true:=by
 unfold edgesOk at he
 simp only [Bool.and_eq_true] at he
 rw [Nat.eq_of_beq_eq_true he.2] at hg
 obtain ⟨_,o',ho',hall⟩:=mem_ready.1 hr
 rw [ho] at ho'; cases ho'
 rcases fold_bits m g _ _ hg with h | ⟨e,h1,h2,h3⟩
 ·simp at h
 ·have hon:=hall e (by simpa using h1) h2
  rcases h3 with rfl | h3
  ·exact hon
  ·exact hc e.on hon g h3
theorem Closed.set {m:List Nat} {listed:Array Bool} (hc:Closed m listed) {i:Nat} (hi:∀ g,(m.getD i 0).testBit g=true→listed.getD g false=true):Closed m (listed.setIfInBounds i true):=by
 intro k hk g hg
 by_cases e:i=k
 ·subst e
  exact getD_set_true (hi g hg)
 ·rw [getD_set_ne false e] at hk
  exact getD_set_true (hc k hk g hg)
end Go.Ev
namespace Go.Ev
open Go.RowKit
set_option linter.unusedVariables false
set_option linter.unusedSimpArgs false
variable {E:Env} {P:Program} {base:Nat} {w:World}
theorem slot_put_any (s:Slots) (dst:Option Tmp) (t:Nat) (v:D):slot (putS s dst v) t=if dst=some t then v else slot s t:=by
 cases dst with
 | none=>simp [putS]
 | some d=>rw [slot_putS]; simp
theorem evStep_spec {rec:FuncId→List Item→Slots→Heap→R} {f:FuncId} {ops:Array Oper} {i:Nat} {x y:Slots×Heap} (h:evStep E rec f ops i x=some y) :
  ∃ o,ops[i]? = some o∧((∃ r s',(∀ t,slot s' t=slot x.1 t)∧opRes E rec f s' x.2 o.op=some r∧y=(putS s' o.dst r.1,r.2) ∧
    (o.guard=none∨∃ g want t,o.guard=some (g,want)∧gslot ops g=some t∧slot x.1 t = .bool want)) ∨
   (∃ s' g want t,(∀ t,slot s' t=slot x.1 t)∧y=(putS s' o.dst (.tup []),x.2)∧o.guard=some (g,want)∧gslot ops g=some t∧((∃ b,slot x.1 t = .bool b∧b ≠ want)∨slot x.1 t = .tup []))):=by
 unfold evStep at h
 cases ho:ops[i]? with
 | none=>rw [ho] at h; cases h
 | some o=>
  rw [ho] at h
  dsimp only at h
  refine ⟨o,rfl,?_⟩
  cases hg:o.guard with
  | none=>
   rw [hg] at h
   dsimp only at h
   obtain ⟨r,hr,rfl⟩:=Option.map_eq_some_iff.mp h
   exact .inl ⟨r,x.1,fun _=>rfl,hr,rfl,.inl rfl⟩
  | some gw=>
   obtain ⟨g,want⟩:=gw
   rw [hg] at h
   dsimp only at h
   cases ht:gslot ops g with
   | none=>rw [ht] at h; cases h
   | some t=>
    rw [ht] at h
    dsimp only at h
    split at h
    ·rename_i b hb
     cases hbw:(b == want) with
     | true=>
      rw [hbw] at h
      simp only [cond_true] at h
      obtain ⟨r,hr,rfl⟩:=Option.map_eq_some_iff.mp h
      have:b=want:=by simpa using hbw
      subst this
      exact .inl ⟨r,_,slot_cons_same hb,hr,rfl,.inr ⟨g,b,t,rfl,ht,hb⟩⟩
     | false=>
      rw [hbw] at h
      simp only [cond_false] at h
      cases h
      exact .inr ⟨_,g,want,t,slot_cons_same hb,rfl,rfl,ht,.inl ⟨b,hb,by simpa using hbw⟩⟩
    ·rename_i hb
     cases h
     exact .inr ⟨_,g,want,t,fun _=>rfl,rfl,rfl,ht,.inr hb⟩
    ·cases h
def dstOf (ops:Array Oper) (i:Nat):Option Tmp:=(ops[i]?).bind (·.dst)
theorem evStep_slot {rec:FuncId→List Item→Slots→Heap→R} {f:FuncId} {ops:Array Oper} {i:Nat} {x y:Slots×Heap} (h:evStep E rec f ops i x=some y) {t:Nat} (ht:dstOf ops i ≠ some t):slot y.1 t=slot x.1 t:=by
 obtain ⟨o,ho,h⟩:=evStep_spec h
 have hd:o.dst ≠ some t:=by unfold dstOf at ht; rw [ho] at ht; exact ht
 rcases h with ⟨r,s',h1,h2,rfl,h3⟩ | ⟨s',g,want,t',h1,rfl,h3⟩
 ·simp only [slot_put_any,if_neg hd,h1]
 ·simp only [slot_put_any,if_neg hd,h1]
def cur (ops:Array Oper) (st:Nat→Slots×Heap) (L:Nat→Bool):Nat→Nat→D
 | 0,t=>slot (st 0).1 t
 | k + 1,t=>if L k=true∧dstOf ops k=some t then slot (st (k + 1)).1 t else cur ops st L k t
theorem cur_upto {rec:FuncId→List Item→Slots→Heap→R} {f:FuncId} {ops:Array Oper} {st:Nat→Slots×Heap} {n:Nat} (hst:∀ i,i < n→evStep E rec f ops i (st i)=some (st (i + 1))) {L:Nat→Bool} {t:Nat} :
  ∀ k,k≤n→(∀ i,i < k→dstOf ops i=some t→L i=true)→cur ops st L k t=slot (st k).1 t
 | 0,_,_=>rfl
 | k + 1,hk,h=>by
  unfold cur
  split
  ·rfl
  ·rename_i hn
   have hd:dstOf ops k ≠ some t:=fun e=>hn ⟨h k (by omega) e,e⟩
   rw [cur_upto hst k (by omega) (fun i hi=>h i (by omega)),evStep_slot (hst k (by omega)) hd]
theorem cur_from {ops:Array Oper} {st:Nat→Slots×Heap} {L:Nat→Bool} {t i:Nat}:∀ d,(∀ k,i≤k→k < i + d→dstOf ops k=some t→L k=false)→cur ops st L (i + d) t=cur ops st L i t
 | 0,_=>rfl
 | d + 1,h=>by
  show (if L (i + d)=true∧dstOf ops (i + d)=some t then _ else cur ops st L (i + d) t)=_
  rw [if_neg]
  ·exact cur_from d fun k h1 h2=>h k h1 (by omega)
  ·rintro ⟨h1,h2⟩
   rw [h (i + d) (by omega) (by omega) h2] at h1
   cases h1
theorem cur_other {ops:Array Oper} {st:Nat→Slots×Heap} {L L':Nat→Bool} {t:Nat}:∀ n,(∀ k,k < n→dstOf ops k=some t→L' k=L k)→cur ops st L' n t=cur ops st L n t
 | 0,_=>rfl
 | n + 1,h=>by
  unfold cur
  rw [cur_other n fun k hk=>h k (by omega)]
  by_cases hd:dstOf ops n=some t
  ·rw [h n (by omega) hd]
  ·rw [if_neg (fun x=>hd x.2),if_neg (fun x=>hd x.2)]
end Go.Ev
namespace Go.Ev
open Go.RowKit
set_option linter.unusedVariables false
set_option linter.unusedSimpArgs false
variable {E:Env} {P:Program} {base:Nat} {w:World}
theorem bits_fold (d:Nat):∀ (l:List Nat) (s:Nat),(s.testBit d=true∨d ∈ l)→(l.foldl (fun s t=>s ||| 2 ^ t) s).testBit d=true
 | [],s,h=>by simpa using h
 | t :: l,s,h=>by
  rw [List.foldl_cons]
  refine bits_fold d l _ ?_
  rcases h with h | h
  ·left; simp [Nat.testBit_or,h]
  ·rcases List.mem_cons.mp h with rfl | h
   ·left; simp [Nat.testBit_or,Nat.testBit_two_pow]
   ·exact .inr h
theorem bitsOf_mem {d:Nat} {l:List Nat} (h:d ∈ l):(bitsOf l).testBit d=true:=bits_fold d l 0 (.inr h)
theorem land_zero {a b d:Nat} (h:Nat.beq (Nat.land a b) 0=true) (ha:a.testBit d=true):b.testBit d=false:=by
 have h0:=Nat.eq_of_beq_eq_true h
 have:(a &&& b).testBit d=false:=by
  show (Nat.land a b).testBit d=false
  rw [h0]; simp
 rw [Nat.testBit_and,ha] at this
 simpa using this
theorem wm_bit {o:Oper} {d:Tmp} (h:o.dst=some d):(wm o).testBit d=true:=by
 unfold wm; rw [h]; simp [Nat.testBit_two_pow]
theorem apart_spec {ops:Array Oper} {o o':Oper} (h:apartB ops o o'=true) :
  (∀ d,o.dst=some d→d ∉ o'.looksAt ops)∧(∀ d,o'.dst=some d→d ∉ o.looksAt ops)∧(∀ d,o.dst=some d→o'.dst ≠ some d):=by
 unfold apartB at h
 simp only [Bool.and_eq_true] at h
 obtain ⟨⟨h1,h2⟩,h3⟩:=h
 refine ⟨fun d hd hm=>?_,fun d hd hm=>?_,fun d hd hd'=>?_⟩
 ·have:=land_zero h1 (wm_bit hd)
  rw [show rm ops o'=bitsOf (o'.looksAt ops) from rfl,bitsOf_mem hm] at this; cases this
 ·have:=land_zero h2 (wm_bit hd)
  rw [show rm ops o=bitsOf (o.looksAt ops) from rfl,bitsOf_mem hm] at this; cases this
 ·have:=land_zero h3 (wm_bit hd)
  rw [wm_bit hd'] at this; cases this
theorem float_spec {ops:Array Oper} {j:Nat} (h:floatB ops j=true):∃ o t a d,ops[j]? = some o∧o.op = .load t a∧o.dst=some d∧o.guard=none∧d ∉ o.looksAt ops ∧
  ∀ (k:Nat) o' d',j < k→ops[k]? = some o'→o'.dst=some d'→d' ≠ d∧d' ∉ o.looksAt ops:=by
 unfold floatB at h
 split at h
 ·rename_i o ho
  split at h
  ·rename_i t a d h1 h2 h3
   simp only [Bool.and_eq_true,Bool.not_eq_true',List.all_eq_true] at h
   obtain ⟨g1,g2⟩:=h
   refine ⟨o,t,a,d,ho,h1,h2,h3,fun hm=>?_,fun k o' d' hk ho' hd'=>?_⟩
   ·rw [List.any_eq_false] at g1
    exact g1 d hm (Nat.beq_refl d)
   ·have hks:=(Array.getElem?_eq_some_iff.1 ho').1
    have:=g2 k (List.mem_range.mpr hks)
    have hb:Nat.blt j k=true:=by simpa using hk
    rw [hb,ho'] at this
    simp only [Bool.not_true,Bool.false_or,hd',Bool.and_eq_true,Bool.not_eq_true'] at this
    obtain ⟨q1,q2⟩:=this
    refine ⟨fun e=>?_,fun hm=>?_⟩
    ·subst e; rw [Nat.beq_refl] at q1; cases q1
    ·rw [List.any_eq_false] at q2
     exact q2 d' hm (Nat.beq_refl d')
  ·cases h
 ·cases h
theorem float_quiet {f:FuncId} {ops:Array Oper} {j:Nat} (h:floatB ops j=true) {o:Oper} (ho:ops[j]? = some o):writer E f o.op=false∧heapy E o.op=true:=by
 obtain ⟨o',t,a,d,h1,h2,-⟩:=float_spec h
 rw [ho] at h1; cases h1
 rw [h2]; exact ⟨rfl,rfl⟩
theorem free_spec {f:FuncId} {ops:Array Oper} {o o':Oper} (h:freePair E f ops o o'=true) :
  (∀ d,o.dst=some d→d ∉ o'.looksAt ops)∧(∀ d,o'.dst=some d→d ∉ o.looksAt ops)∧(∀ d,o.dst=some d→o'.dst ≠ some d)∧(writer E f o.op=true→heapy E o'.op=false)∧(heapy E o.op=true→writer E f o'.op=false):=by
 unfold freePair apartB at h
 simp only [Bool.and_eq_true,Bool.not_eq_true',Bool.and_eq_false_iff] at h
 obtain ⟨⟨⟨⟨h1,h2⟩,h3⟩,h4⟩,h5⟩:=h
 refine ⟨fun d hd hm=>?_,fun d hd hm=>?_,fun d hd hd'=>?_,fun hw=>?_,fun hh=>?_⟩
 ·have:=land_zero h1 (wm_bit hd)
  rw [show rm ops o'=bitsOf (o'.looksAt ops) from rfl,bitsOf_mem hm] at this; cases this
 ·have:=land_zero h2 (wm_bit hd)
  rw [show rm ops o=bitsOf (o.looksAt ops) from rfl,bitsOf_mem hm] at this; cases this
 ·have:=land_zero h3 (wm_bit hd)
  rw [wm_bit hd'] at this; cases this
 ·rcases h4 with h4 | h4
  ·rw [hw] at h4; cases h4
  ·exact h4
 ·rcases h5 with h5 | h5
  ·rw [hh] at h5; cases h5
  ·exact h5
theorem writer_heapy {f:FuncId} {op:Op} (h:writer E f op=true):heapy E op=true:=by
 cases op <;> first | rfl | (simp [writer] at h; done) | skip
 rename_i c
 obtain ⟨callee,args,ts⟩:=c
 cases callee with
 | builtin bb=>cases bb <;> first | rfl | (simp [writer] at h; done)
 | _=>rfl
structure Dr (E:Env) (rec:FuncId→List Item→Slots→Heap→R) (f:FuncId) (ops:Array Oper) (m:List Nat) (st:Nat→Slots×Heap):Prop where
 step:∀ i,i < ops.size→evStep E rec f ops i (st i)=some (st (i + 1))
 edges:∀ (k:Nat) o,ops[k]? = some o→edgesOk m k o.after.toList=true
 pairs:∀ (k k':Nat) o o',ops[k]? = some o→ops[k']? = some o'→k < k'→(m.getD k' 0).testBit k=true∨freePair E f ops o o'=true∨(floatB ops k=true∧writer E f o'.op=true∧apartB ops o o'=true)
 guards:∀ (k:Nat) o g want,ops[k]? = some o→o.guard=some (g,want)→(m.getD k 0).testBit g=true∧(gslot ops g).isSome=true
 nosel:Region.noSelect ops=true
 stab:∀ i,i < ops.size→(st (i + 1)).2=(st i).2∨∀ j ∈ flOf E f m ops i,Rechk E ops (st (i + 1)).1 (st (i + 1)).2 j
theorem Dr.of {rec:FuncId→List Item→Slots→Heap→R} {f:FuncId} {ops:Array Oper} {m:List Nat} {st:Nat→Slots×Heap} (hd:drawOk E f m ops=true) (hst:∀ i,i < ops.size→evStep E rec f ops i (st i)=some (st (i + 1))∧((st (i + 1)).2=(st i).2∨∀ j ∈ flOf E f m ops i,Rechk E ops (st (i + 1)).1 (st (i + 1)).2 j)):Dr E rec f ops m st:=by
 unfold drawOk at hd
 simp only [Bool.and_eq_true] at hd
 obtain ⟨⟨h1,h2⟩,h3⟩:=hd
 obtain ⟨p1,p2⟩:=pairsOk_spec f ops m ops.toList 0 h2
 have hg:=guardsOk_spec ops m ops.toList 0 h3
 exact ⟨fun i hi=>(hst i hi).1,fun k o ho=>by have:=p1 k o (by simpa using ho); rwa [Nat.zero_add] at this,
  fun k k' o o' ho ho' hlt=>by have:=p2 k k' o o' (by simpa using ho) (by simpa using ho') hlt; rwa [Nat.zero_add,Nat.zero_add] at this,
  fun k o g want ho hgd=>by have:=hg k o g want (by simpa using ho) hgd; rwa [Nat.zero_add] at this,h1,fun i hi=>(hst i hi).2⟩
theorem Dr.looks {rec:FuncId→List Item→Slots→Heap→R} {f:FuncId} {ops:Array Oper} {m:List Nat} {st:Nat→Slots×Heap} (D:Dr E rec f ops m st) {L:Nat→Bool} {i:Nat} {o:Oper} (ho:ops[i]? = some o)
  (hahead:∀ g,(m.getD i 0).testBit g=true→L g=true) (hcl:∀ k,L k=true→∀ g,(m.getD k 0).testBit g=true→L g=true) (hi:L i=false) {t:Tmp} (ht:t ∈ o.looksAt ops∨o.dst=some t) :
  cur ops st L ops.size t=slot (st i).1 t:=by
 have hlt:i < ops.size:=(Array.getElem?_eq_some_iff.1 ho).1
 have hbefore:∀ k,k < i→dstOf ops k=some t→L k=true:=by
  intro k hk hd
  have hk':k < ops.size:=by omega
  have hok:=Array.getElem?_eq_getElem hk'
  have hdk:ops[k].dst=some t:=by unfold dstOf at hd; rw [hok] at hd; exact hd
  rcases D.pairs k i _ o hok ho hk with h | h
  ·exact hahead k h
  ·obtain ⟨f1,f2,f3⟩:=h.elim (fun h=>let q:=free_spec h; (⟨q.1,q.2.1,q.2.2.1⟩:_∧_∧_)) (fun h=>apart_spec h.2.2)
   rcases ht with ht | ht
   ·exact absurd ht (f1 t hdk)
   ·exact absurd ht (f3 t hdk)
 have hafter:∀ k,i≤k→k < i + (ops.size - i)→dstOf ops k=some t→L k=false:=by
  intro k hk hk2 hd
  cases hL:L k with
  | false=>rfl
  | true=>
   have hk':k < ops.size:=by omega
   have hok:=Array.getElem?_eq_getElem hk'
   have hdk:ops[k].dst=some t:=by unfold dstOf at hd; rw [hok] at hd; exact hd
   rcases Nat.lt_or_ge i k with hik | hik
   ·rcases D.pairs i k o _ ho hok hik with h | h
    ·rw [hcl k hL i h] at hi; cases hi
    ·obtain ⟨f1,f2,f3⟩:=h.elim (fun h=>let q:=free_spec h; (⟨q.1,q.2.1,q.2.2.1⟩:_∧_∧_)) (fun h=>apart_spec h.2.2)
     rcases ht with ht | ht
     ·exact absurd ht (f2 t hdk)
     ·exact absurd hdk (f3 t ht)
   ·have:k=i:=by omega
    subst this
    rw [hi] at hL; cases hL
 have h1:=cur_from (st:=st) (ops.size - i) hafter
 rw [show i + (ops.size - i)=ops.size by omega] at h1
 rw [h1]
 exact cur_upto D.step i (by omega) hbefore
end Go.Ev
namespace Go.Ev
open Go.RowKit
set_option linter.unusedVariables false
set_option linter.unusedSimpArgs false
variable {E:Env} {P:Program} {base:Nat} {w:World}
theorem opRes_quiet {rec:FuncId→List Item→Slots→Heap→R} {f:FuncId} {s:Slots} {H:Heap} {op:Op} {r:D×Heap} (h:opRes E rec f s H op=some r) (hw:writer E f op=false):∃ K,r.2=H++K:=by
 have hpop:∀ {op:Op},(popOp E s H op).map (fun d=>(d,H))=some r→∃ K,r.2=H++K:=by
  intro op h
  obtain ⟨d,_,rfl⟩:=Option.map_eq_some_iff.mp h
  exact ⟨[],by simp⟩
 cases op
 case move x=>cases h; exact ⟨[],by simp⟩
 case assign x=>cases h; exact ⟨[],by simp⟩
 case pick c a b=>
  unfold opRes at h
  dsimp only at h
  split at h <;> cases h
  exact ⟨[],by simp⟩
 case makeFunc fn first captured=>
  cases fn <;> try (cases h; done)
  unfold opRes at h
  dsimp only at h
  cases hc:(Nat.beq first.size 0 && (captured.toList.map (opnd s)).all D.isCell) <;> rw [hc] at h <;> cases h
  exact ⟨[],by simp⟩
 case alloc t=>
  unfold opRes at h
  dsimp only at h
  obtain ⟨y,_,h⟩:=Option.bind_eq_some_iff.mp h
  cases hc:y.zero.all D.isCell <;> rw [hc] at h <;> cases h
  exact ⟨_,rfl⟩
 case box t v=>
  unfold opRes at h
  dsimp only at h
  cases hc:(opnd s v).cells.all D.isCell <;> rw [hc] at h <;> cases h
  exact ⟨_,rfl⟩
 case store t a x=>cases hw
 case buildSlice t n ps=>
  obtain ⟨q,_,h⟩:=Option.bind_eq_some_iff.mp (show buildSlice E H t n (parts s ps)=some r from h)
  cases hq:q.isSl <;> rw [hq] at h
  ·cases h
  ·simp only [cond_true] at h
   unfold bsl at h
   split at h
   ·obtain ⟨rows,_,rfl⟩:=Option.map_eq_some_iff.mp h
    split
    ·exact ⟨[],by simp⟩
    ·exact ⟨_,rfl⟩
   ·cases h
 case makeSlice t l c=>
  obtain ⟨q,_,h⟩:=Option.bind_eq_some_iff.mp (show makeSlice E H t (opnd s l) (opnd s c)=some r from h)
  cases hq:q.isSl <;> rw [hq] at h
  ·cases h
  ·simp only [cond_true] at h
   unfold mks at h
   split at h
   ·split at h
    ·cases h; exact ⟨_,rfl⟩
    ·cases h
   ·cases h
 case convert a b x=>
  unfold opRes at h
  dsimp only at h
  cases hp:isPop E (.convert a b x) with
  | true=>rw [hp] at h; exact hpop h
  | false=>
   rw [hp] at h
   simp only [cond_false] at h
   replace h:convert E H a b (opnd s x)=some r:=h
   obtain ⟨q,_,h⟩:=Option.bind_eq_some_iff.mp h
   obtain ⟨q',_,h⟩:=Option.bind_eq_some_iff.mp h
   split at h
   ·unfold cSS at h
    split at h <;> cases h
    exact ⟨[],by simp⟩
   ·unfold cSB at h
    split at h
    ·split at h <;> cases h
     exact ⟨_,rfl⟩
    ·cases h
   ·unfold cBS at h
    split at h
    ·cases h; exact ⟨[],by simp⟩
    ·obtain ⟨_,_,h⟩:=Option.bind_eq_some_iff.mp h
     obtain ⟨_,_,h⟩:=Option.bind_eq_some_iff.mp h
     cases h; exact ⟨[],by simp⟩
    ·obtain ⟨_,_,h⟩:=Option.bind_eq_some_iff.mp h
     cases h; exact ⟨[],by simp⟩
    ·cases h
   ·cases h
 case call c=>
  obtain ⟨callee,args,argTypes⟩:=c
  cases callee with
  | invoke a b=>cases h
  | builtin bb=>cases bb <;> first | exact hpop h | (cases hw; done) | (cases h; done)
  | value x=>
   cases x with
   | func g=>
    replace h:callFn E rec (E.mode f g) g (args.toList.map (opnd s)++[]) H=some r:=h
    cases hm:E.mode f g with
    | raw=>simp [writer,hm] at hw
    | view=>simp [writer,hm] at hw
    | pure=>
     unfold callFn at h
     rw [hm] at h
     obtain ⟨ts,_,h⟩:=Option.bind_eq_some_iff.mp h
     obtain ⟨t,_,h⟩:=Option.bind_eq_some_iff.mp h
     cases h
     exact ⟨[],by simp⟩
    | own=>
     unfold callFn at h
     rw [hm] at h
     obtain ⟨ts,_,h⟩:=Option.bind_eq_some_iff.mp h
     obtain ⟨t,_,h⟩:=Option.bind_eq_some_iff.mp h
     cases h
     exact layT_app depth t H
    | shr=>
     unfold callFn at h
     rw [hm] at h
     generalize hall:(args.toList.map (opnd s)++[]).all frzD=b at h
     cases b with
     | false=>cases h
     | true=>
      simp only [cond_true] at h
      obtain ⟨q,_,h⟩:=Option.bind_eq_some_iff.mp h
      obtain ⟨t,_,h⟩:=Option.bind_eq_some_iff.mp h
      cases h
      exact layL_app depth t.1 H
    | ext=>
     unfold callFn at h
     rw [hm] at h
     obtain ⟨ts,_,h⟩:=Option.bind_eq_some_iff.mp h
     obtain ⟨t,_,h⟩:=Option.bind_eq_some_iff.mp h
     cases h
     exact layT_app depth t H
   | _=>simp [writer] at hw
 all_goals first | exact hpop h | (cases h; done)
end Go.Ev
namespace Go.Ev
open Go.RowKit
set_option linter.unusedVariables false
set_option linter.unusedSimpArgs false
variable {E:Env} {P:Program} {base:Nat} {w:World}
def LenOk (rec:FuncId→List Item→Slots→Heap→R):Prop:=∀ f t s H q,rec f t s H=some q→H.length≤q.2.length
theorem callFn_len {rec:FuncId→List Item→Slots→Heap→R} (hr:LenOk rec) {m:Mode} {g:FuncId} {ds:List D} {H:Heap} {q:D×Heap} (h:callFn E rec m g ds H=some q):H.length≤q.2.length:=by
 have hlay:∀ t,H.length≤(layT depth t H).2.length:=fun t=>by
  obtain ⟨K,hK⟩:=layT_app depth t H
  rw [hK]; simp
 unfold callFn at h
 cases m <;> dsimp only at h
 case raw=>
  unfold enter at h
  split at h
  ·split at h
   ·exact hr _ _ _ _ _ h
   ·cases h
  ·cases h
 case shr=>
  cases hall:ds.all frzD with
  | false=>rw [hall] at h; cases h
  | true=>
   rw [hall] at h
   simp only [cond_true] at h
   obtain ⟨q,_,h⟩:=Option.bind_eq_some_iff.mp h
   obtain ⟨t,_,h⟩:=Option.bind_eq_some_iff.mp h
   cases h
   obtain ⟨K,hK⟩:=layL_app depth t.1 H
   rw [hK]; simp
 all_goals
  obtain ⟨ts,_,h⟩:=Option.bind_eq_some_iff.mp h
  obtain ⟨t,_,h⟩:=Option.bind_eq_some_iff.mp h
  cases h
 ·exact Nat.le_refl _
 ·exact hlay t
 ·exact Nat.le_of_eq (fold_kl (fun d K=>killT depth H d K) (kill_kl depth H) ds H).len.symm
 ·exact hlay t
theorem opRes_len2 {rec:FuncId→List Item→Slots→Heap→R} (hr:LenOk rec) {f:FuncId} {s:Slots} {H:Heap} {op:Op} {r:D×Heap} (h:opRes E rec f s H op=some r):H.length≤r.2.length:=by
 by_cases hc:∃ c x,op = .call c∧c.callee = .value x
 ·obtain ⟨c,x,rfl,hx⟩:=hc
  unfold opRes at h
  have hp:isPop E (.call c)=false:=by obtain ⟨cc,ca,ct⟩:=c; cases hx; rfl
  simp only [hp,cond_false,hx] at h
  split at h
  ·exact callFn_len hr h
  ·cases h
 ·exact opRes_len h fun c x h1 h2=>hc ⟨c,x,h1,h2⟩
theorem evStep_len {rec:FuncId→List Item→Slots→Heap→R} (hr:LenOk rec) {f:FuncId} {ops:Array Oper} {i:Nat} {x y:Slots×Heap} (h:evStep E rec f ops i x=some y):x.2.length≤y.2.length:=by
 obtain ⟨o,ho,h⟩:=evStep_spec h
 rcases h with ⟨r,s',h1,h2,rfl,h3⟩ | ⟨s',g,want,t',h1,rfl,h3⟩
 ·exact opRes_len2 hr h2
 ·exact Nat.le_refl _
theorem evOps_len {rec:FuncId→List Item→Slots→Heap→R} (hr:LenOk rec) {f:FuncId} {ops:Array Oper} {fl:Nat→List Nat} {k:Slots→Heap→R} {q:D×Heap} (hk:∀ s H,k s H=some q→H.length≤q.2.length) :
  ∀ (l sk:List Nat) (s:Slots) (H:Heap),SkOk sk s→evOps E rec f ops fl l sk s H k=some q→H.length≤q.2.length
 | [],sk,s,H,hK,h=>hk s H h
 | i :: l,sk,s,H,hK,h=>by
  obtain ⟨x,sk',hx,hK',h,-⟩:=evOps_cons hK h
  exact Nat.le_trans (evStep_len hr hx) (evOps_len hr hk l sk' _ _ hK' h)
theorem execN_len (E:Env):∀ n,LenOk (execN E n)
 | 0=>fun f t s H q h=>by cases h
 | n + 1=>by
  have ih:=execN_len E n
  intro f todo s H q h
  replace h:X E (execN E n) f (execN E n f) todo s H=some q:=h
  have hret:∀ {l},ret_ H l=some q→H.length≤q.2.length:=by
   intro l h
   obtain ⟨ds,_,h⟩:=Option.bind_eq_some_iff.mp h
   cases h; exact Nat.le_refl _
  unfold X at h
  split at h
  ·split at h
   ·exact hret h
   ·cases h
  ·split at h
   ·exact hret h
   ·cases h
  ·exact ih _ _ _ _ _ h
  ·exact ih _ _ _ _ _ h
  ·exact ih _ _ _ _ _ h
  ·cases hnd:E.nd f with
   | false=>
    rw [hnd] at h
    simp only [cond_false] at h
    unfold asB at h
    split at h
    ·rename_i t _
     cases t
     ·exact ih _ _ _ _ _ h
     ·exact ih _ _ _ _ _ h
    ·cases h
   | true=>
    rw [hnd] at h
    simp only [cond_true] at h
    rcases asE_some h with ⟨t,ht,h1⟩ | ⟨ht,h1,h2⟩
    ·cases t
     ·exact ih _ _ _ _ _ h1
     ·exact ih _ _ _ _ _ h1
    ·exact ih _ _ _ _ _ h1
  ·exact ih _ _ _ _ _ h
  ·exact ih _ _ _ _ _ h
  ·exact ih _ _ _ _ _ h
  ·split at h
   ·exact ih _ _ _ _ _ h
   ·cases h
  ·rename_i id ops draw k
   cases hc:(!dstOk (E.nt f) ops.toList || (draw && !drawOk E f (E.cert f id) ops)) with
   | true=>rw [hc] at h; cases h
   | false=>
    rw [hc] at h
    simp only [cond_false] at h
    exact evOps_len ih (fun s H h=>ih _ _ _ _ _ h) _ [] _ _ (SkOk.nil _) h
  ·cases h
end Go.Ev
namespace Go.Ev
open Go.RowKit
set_option linter.unusedVariables false
set_option linter.unusedSimpArgs false
variable {E:Env} {P:Program} {base:Nat} {w:World}
theorem getBlk_pre {H K:Heap} {b:Nat} {blk:Rows} (h:getBlk H b=some blk):getBlk (H++K) b=some blk:=by
 rw [getBlk_append_lt (getBlk_lt h)]; exact h
theorem HR.pre {j:Inj} {H K:Heap} (h:HR j base (H++K) w):HR j base H w:=
 ⟨fun b blk p h1 h2=>h.blk b blk p (getBlk_pre h1) h2,fun b b' blk blk' p p' h1 h1' h2 h2'=>h.sep b b' blk blk' p p' (getBlk_pre h1) (getBlk_pre h1') h2 h2',h.fz⟩
theorem HR.ext_none {j:Inj} {H K:Heap} (h:HR j base H w) (hn:∀ b,H.length≤b→j b=none):HR j base (H++K) w:=by
 have hg:∀ {b blk p},getBlk (H++K) b=some blk→j b=some p→getBlk H b=some blk:=by
  intro b blk p h1 h2
  rcases Nat.lt_or_ge b H.length with hlt | hge
  ·rwa [getBlk_append_lt hlt] at h1
  ·rw [hn b hge] at h2; cases h2
 exact ⟨fun b blk p h1 h2=>h.blk b blk p (hg h1 h2) h2,fun b b' blk blk' p p' h1 h1' h2 h2'=>h.sep b b' blk blk' p p' (hg h1 h2) (hg h1' h2') h2 h2',h.fz⟩
theorem HR.rejoin {j j':Inj} {H K1 K2:Heap} {w':World} (hc:HR j base (H++K1++K2) w) (hG:Grows j j' H.length (H++K1).length) (hN:New w.heap.size j j') (hB:Below w.heap.size w w') (h':HR j' base (H++K1) w') :
  HR j' base (H++K1++K2) w':=by
 have hold:∀ {b p},j' b=some p→j b=some p∨w.heap.size≤p.rb:=by
  intro b p h
  cases hb:j b with
  | none=>exact .inr (hN.pl b p hb h)
  | some q=>have:=hG.ext.pl b q hb; rw [h] at this; cases this; exact .inl rfl
 have hblk:∀ b blk p,getBlk (H++K1++K2) b=some blk→j' b=some p→BR j' base w' blk p:=by
  intro b blk p h1 h2
  rcases Nat.lt_or_ge b (H++K1).length with hlt | hge
  ·rw [getBlk_append_lt hlt] at h1
   exact h'.blk b blk p h1 h2
  ·rw [hG.same b (.inr hge)] at h2
   have hB':=hc.blk b blk p h1 h2
   refine hB'.grow hG.ext ?_ hB
   cases hz:j'.fz p.rb with
   | none=>rfl
   | some o=>have:=hN.fz p.rb o hB'.nz hz; have:=hB'.lt; omega
 refine ⟨hblk,fun b b' blk blk' p p' h1 h1' h2 h2' hne hrb=>?_,h'.fz⟩
 rcases hold h2 with o1 | o1 <;> rcases hold h2' with o2 | o2
 ·exact hc.sep b b' blk blk' p p' h1 h1' o1 o2 hne hrb
 ·have:=(hc.blk b blk p h1 o1).lt
  omega
 ·have:=(hc.blk b' blk' p' h1' o2).lt
  omega
 ·have hlt:∀ {b blk p},getBlk (H++K1++K2) b=some blk→j' b=some p→w.heap.size≤p.rb→getBlk (H++K1) b=some blk:=by
   intro b blk p h1 h2 h3
   rcases Nat.lt_or_ge b (H++K1).length with hlt | hge
   ·rwa [getBlk_append_lt hlt] at h1
   ·rw [hG.same b (.inr hge)] at h2
    have:=(hc.blk b blk p h1 h2).lt
    omega
  exact h'.sep b b' blk blk' p p' (hlt h1 h2 o1) (hlt h1' h2' o2) h2 h2' hne hrb
end Go.Ev
namespace Go.Ev
open Go.RowKit
set_option linter.unusedVariables false
set_option linter.unusedSimpArgs false
variable {E:Env} {P:Program} {base:Nat} {w:World}
theorem slot_restrict_in (s:Slots) (t:Nat):∀ keep:List Nat,t ∈ keep→slot (restrict s keep) t=slot s t
 | [],h=>by cases h
 | k :: keep,h=>by
  show (bif Nat.beq k t then slot s k else slot (restrict s keep) t)=_
  cases e:Nat.beq k t with
  | true=>rw [Nat.eq_of_beq_eq_true e]; rfl
  | false=>
   rcases List.mem_cons.mp h with rfl | h
   ·simp at e
   ·exact slot_restrict_in s t keep h
theorem slot_restrict_out (s:Slots) (t:Nat):∀ keep:List Nat,t ∉ keep→slot (restrict s keep) t = .undef
 | [],h=>rfl
 | k :: keep,h=>by
  show (bif Nat.beq k t then slot s k else slot (restrict s keep) t)=_
  have hne:Nat.beq k t=false:=by
   cases e:Nat.beq k t with
   | true=>exact absurd (by rw [Nat.eq_of_beq_eq_true e]; simp) h
   | false=>rfl
  rw [hne]
  exact slot_restrict_out s t keep fun hm=>h (by simp [hm])
theorem or_restrict {j:Inj} {s:Slots} {l:List Nat} {a:Act} (h:∀ t,t ∈ l→slot s t ≠ .undef→VR j (slot s t) (a.tmps.getD t undef)):OR j (restrict s l) a.eval:=by
 intro x hx
 cases x with
 | tmp t=>
  by_cases ht:t ∈ l
  ·have e:opnd (restrict s l) (.tmp t)=slot s t:=slot_restrict_in s t l ht
   rw [e] at hx ⊢
   exact h t ht hx
  ·exact absurd (slot_restrict_out s t l ht) hx
 | const v=>exact VR.lit v hx
 | global g=>exact absurd rfl hx
 | func f=>exact .fn (vs:=[]) .nil
theorem opRes_looks {rec:FuncId→List Item→Slots→Heap→R} {f:FuncId} {s:Slots} (H:Heap) {o:Oper} {ops:Array Oper}:opRes E rec f (restrict s (o.looksAt ops)) H o.op=opRes E rec f s H o.op:=by
 refine opRes_congr H fun x hx=>?_
 cases x with
 | tmp t=>
  refine slot_restrict_in s t _ ?_
  unfold Oper.looksAt
  refine List.mem_append_left _ (List.mem_filterMap.2 ⟨.tmp t,by simpa using hx,rfl⟩)
 | _=>rfl
theorem opRes_slots {rec:FuncId→List Item→Slots→Heap→R} {f:FuncId} {s s':Slots} (H:Heap) {op:Op} (h:∀ t,slot s t=slot s' t):opRes E rec f s H op=opRes E rec f s' H op:=
 opRes_congr H fun x _=>by cases x <;> first | exact h _ | rfl
end Go.Ev
namespace Go.Ev
open Go.RowKit
set_option linter.unusedVariables false
set_option linter.unusedSimpArgs false
variable {E:Env} {P:Program} {base:Nat} {w:World}
theorem op_run (hE:EnvOk E P) {rec:FuncId→List Item→Slots→Heap→R} (hrec:CallOk E P rec) {f:FuncId} {s:Slots} {H:Heap} {j:Inj} {a:Act} (hO:OR j s a.eval) (hH:HR j base H w) (hb:base≤w.heap.size) {o:Oper} {r:D×Heap}
  (hr:opRes E rec f s H o.op=some r) (hF:∀ b,H.length≤b→(writer E f o.op=true∨b < r.2.length)→j b=none) {next:Act→World→Prop} {Q:Exit→Act→World→Prop}
  (hnext:∀ v w',Step0 base j base H w r.1 r.2 v w'→(writer E f o.op=false→Step w.heap.size j base H w r.1 r.2 v w')→next (a.put o.dst v) w'):o.wp P a w next Q:=by
 unfold Oper.wp
 by_cases hc:∃ c x,o.op = .call c∧c.callee = .value x
 ·obtain ⟨c,x,hc1,hc2⟩:=hc
  rw [hc1] at hr hF hnext
  unfold opRes at hr
  have hp:isPop E (.call c)=false:=by obtain ⟨cc,ca,ct⟩:=c; cases hc2; rfl
  simp only [hp,cond_false,hc2] at hr
  split at hr
  ·rename_i g cap hx
   have hv:=hO x (by rw [hx]; simp)
   rw [hx] at hv
   have hwr:(E.mode f g).isW=true→writer E f (.call c)=true:=by
    intro hm
    obtain ⟨cc,ca,ct⟩:=c
    cases hc2
    cases x <;> first | rfl | skip
    cases hx
    cases hmm:E.mode f g <;> rw [hmm] at hm <;> first | (cases hm; done) | simp [writer,hmm]
   have hwq:writer E f (.call c)=false→(E.mode f g).isW=false:=fun h1=>by
    cases h2:(E.mode f g).isW with
    | false=>rfl
    | true=>rw [hwr h2] at h1; cases h1
   generalize hxv:a.eval x=xv at hv
   cases hv with
   | fn hcap=>
    rename_i vs
    have hC:=hrec _ g _ H r hr j base w _ (hO.args c.args.toList hcap) hH (fun b h1 h2=>hF b h1 (h2.imp hwr id)) hb
    have hex:(execOp a.eval o).run P w=(callFunc g (c.args.toList.map a.eval++vs).toArray).run P w:=by
     obtain ⟨dst,op,type,pos,after,guard⟩:=o
     cases hc1
     simp only [execOp,resolve,hc2,hxv,Deferred.ofValue,Sem.run_bind,Sem.run_pure,Result.andThen_ok,invoke]
     congr 2
     apply Array.ext'
     simp
    rw [hex]
    rcases hC with ⟨v,w',h1,h2⟩ | ⟨h1,h2⟩
    ·rw [h1]; exact hnext v w' h2.1.step fun h=>h2.2 (hwq h)
    ·rw [h1]
     rw [Oper.upon_enter]
     refine Calls.mono h2 ?_
     rintro e w' ⟨v,rfl,h3⟩
     exact hnext v w' h3.1.step fun h=>h3.2 (hwq h)
  ·cases hr
 ·have hnc:∀ c x,o.op = .call c→c.callee ≠ .value x:=fun c x h1 h2=>hc ⟨c,x,h1,h2⟩
  obtain ⟨v,w',h1,h2,h3⟩:=sim_op hE hO (fun _=>rfl) hH hb (fun h=>hF _ (Nat.le_refl _) h) hr hnc
  have h4:=hnext v w' h2.weak h3
  rcases h1 with h1 | ⟨h1,rfl⟩
  ·rw [h1]; exact h4
  ·rw [h1]; exact h4
end Go.Ev
namespace Go.Ev
open Go.RowKit
set_option linter.unusedVariables false
set_option linter.unusedSimpArgs false
variable {E:Env} {P:Program} {base:Nat} {w:World}
def Wr (E:Env) (f:FuncId) (ops:Array Oper) (i:Nat):Bool:=match ops[i]? with | some o=>writer E f o.op | none=>false
section
variable {rec:FuncId→List Item→Slots→Heap→R} {f:FuncId} {ops:Array Oper} {m:List Nat} {st:Nat→Slots×Heap}
theorem Dr.mono (D:Dr E rec f ops m st) (hl:LenOk rec) {i:Nat}:∀ d,i + d≤ops.size→(st i).2.length≤(st (i + d)).2.length
 | 0,_=>Nat.le_refl _
 | d + 1,h=>Nat.le_trans (D.mono hl d (by omega)) (evStep_len hl (D.step (i + d) (by omega)))
theorem Dr.len_le (D:Dr E rec f ops m st) (hl:LenOk rec) {i k:Nat} (h:i≤k) (hk:k≤ops.size):(st i).2.length≤(st k).2.length:=by
 have:=D.mono hl (i:=i) (k - i) (by omega)
 rwa [show i + (k - i)=k by omega] at this
theorem Dr.quiet (D:Dr E rec f ops m st) {i:Nat}:∀ d,i + d≤ops.size→(∀ k,i≤k→k < i + d→Wr E f ops k=false)→∃ K,(st (i + d)).2=(st i).2++K
 | 0,_,_=>⟨[],by simp⟩
 | d + 1,h,hw=>by
  obtain ⟨K,hK⟩:=D.quiet d (by omega) fun k h1 h2=>hw k h1 (by omega)
  obtain ⟨o,ho,hs⟩:=evStep_spec (D.step (i + d) (by omega))
  have hwd:=hw (i + d) (by omega) (by omega)
  unfold Wr at hwd
  rw [ho] at hwd
  rcases hs with ⟨r,s',h1,h2,h3,h4⟩ | ⟨s',g,want,t',h1,h3,h4⟩
  ·obtain ⟨K',hK'⟩:=opRes_quiet h2 hwd
   refine ⟨K++K',?_⟩
   rw [show i + (d + 1)=i + d + 1 by omega,h3]
   simp only
   rw [hK',hK,List.append_assoc]
  ·refine ⟨K,?_⟩
   rw [show i + (d + 1)=i + d + 1 by omega,h3]
   exact hK
end
end Go.Ev
namespace Go.Ev
open Go.RowKit
set_option linter.unusedVariables false
set_option linter.unusedSimpArgs false
variable {E:Env} {P:Program} {base:Nat} {w:World}
theorem next_writer (E:Env) (f:FuncId) (ops:Array Oper):∀ (d k:Nat),k + d=ops.size→∃ c,k≤c∧c≤ops.size∧(∀ i,k≤i→i < c→Wr E f ops i=false)∧(c < ops.size→Wr E f ops c=true)
 | 0,k,h=>⟨k,Nat.le_refl _,by omega,fun i h1 h2=>by omega,fun h'=>by omega⟩
 | d + 1,k,h=>by
  cases hw:Wr E f ops k with
  | true=>exact ⟨k,Nat.le_refl _,by omega,fun i h1 h2=>by omega,fun _=>hw⟩
  | false=>
   obtain ⟨c,h1,h2,h3,h4⟩:=next_writer E f ops d (k + 1) (by omega)
   refine ⟨c,by omega,h2,fun i g1 g2=>?_,h4⟩
   by_cases e:i=k
   ·rw [e]; exact hw
   ·exact h3 i (by omega) g2
structure Inv (E:Env) (f:FuncId) (ops:Array Oper) (st:Nat→Slots×Heap) (nt base:Nat) (j0:Inj) (w0:World) (L:Nat→Bool) (a:Act) (w:World) (j:Inj) (c:Nat):Prop where
 size:nt≤a.tmps.size
 df:a.defers=[]
 vals:∀ t,cur ops st L ops.size t ≠ .undef→VR j (cur ops st L ops.size t) (a.tmps.getD t undef)
 le:c≤ops.size
 done:∀ i,i < c→Wr E f ops i=true→L i=true
 todo:c < ops.size→Wr E f ops c=true∧L c=false
 hr:HR j base (st c).2 w
 dom:∀ b p,j b=some p→b < (st 0).2.length∨∃ i,i < ops.size∧L i=true∧(st i).2.length≤b∧b < (st (i + 1)).2.length
 ext:Ext j0 j
 old:∀ b,b < (st 0).2.length→j b=j0 b
 below:Below base w0 w
 newz:NewZ base j0 j
 base_le:base≤w.heap.size
end Go.Ev
namespace Go.Ev
open Go.RowKit
set_option linter.unusedVariables false
set_option linter.unusedSimpArgs false
variable {E:Env} {P:Program} {base:Nat} {w:World}
section
variable {rec:FuncId→List Item→Slots→Heap→R} {f:FuncId} {ops:Array Oper} {m:List Nat} {st:Nat→Slots×Heap}
theorem vals_put {j j':Inj} (dr:Dr E rec f ops m st) {nt:Nat} {L L':Nat→Bool} {i:Nat} {o:Oper} (ho:ops[i]? = some o) (hcl:∀ k,L k=true→∀ g,(m.getD k 0).testBit g=true→L g=true) (hi:L i=false) (hL':∀ k,L' k=(L k || k == i))
  {a:Act} {d:D} {v:Value} (hdst:∀ x,o.dst=some x→x < nt) (hsz:nt≤a.tmps.size) (hslot:∀ t,o.dst=some t→slot (st (i + 1)).1 t=d) (hv:d ≠ .undef→VR j' d v) (he:Ext j j')
  (h:∀ t,cur ops st L ops.size t ≠ .undef→VR j (cur ops st L ops.size t) (a.tmps.getD t undef)) :
  ∀ t,cur ops st L' ops.size t ≠ .undef→VR j' (cur ops st L' ops.size t) ((a.put o.dst v).tmps.getD t undef):=by
 have hlt:i < ops.size:=(Array.getElem?_eq_some_iff.1 ho).1
 have hdo:dstOf ops i=o.dst:=by unfold dstOf; rw [ho]; rfl
 intro t ht
 by_cases hd:o.dst=some t
 ·have hafter:∀ k,i + 1≤k→k < i + 1 + (ops.size - (i + 1))→dstOf ops k=some t→L' k=false:=by
   intro k hk hk2 hdk
   have hk':k < ops.size:=by omega
   have hok:=Array.getElem?_eq_getElem hk'
   have hdk':ops[k].dst=some t:=by unfold dstOf at hdk; rw [hok] at hdk; exact hdk
   rw [hL' k]
   have hne:(k == i)=false:=by simp; omega
   rw [hne,Bool.or_false]
   cases hLk:L k with
   | false=>rfl
   | true=>
    rcases dr.pairs i k o _ ho hok (by omega) with h | h | h
    ·rw [hcl k hLk i h] at hi; cases hi
    ·exact absurd hdk' ((free_spec h).2.2.1 t hd)
    ·exact absurd hdk' ((apart_spec h.2.2).2.2 t hd)
  have h1:=cur_from (st:=st) (ops.size - (i + 1)) hafter
  rw [show i + 1 + (ops.size - (i + 1))=ops.size by omega] at h1
  have h2:cur ops st L' (i + 1) t=d:=by
   unfold cur
   rw [if_pos ⟨by rw [hL' i]; simp,by rw [hdo]; exact hd⟩]
   exact hslot t hd
  rw [h1,h2] at ht ⊢
  have hx:=hdst t hd
  have hlt':t < a.tmps.size:=Nat.lt_of_lt_of_le hx hsz
  have:(a.put o.dst v).tmps.getD t undef=v:=by rw [hd]; simp [Act.put,hlt']
  rw [this]; exact hv ht
 ·have h1:cur ops st L' ops.size t=cur ops st L ops.size t:=cur_other ops.size fun k hk hdk=>by
   rw [hL' k]
   have:(k == i)=false:=by
    cases e:k == i with
    | false=>rfl
    | true=>
     have:k=i:=by simpa using e
     rw [this,hdo] at hdk
     exact absurd hdk hd
   rw [this,Bool.or_false]
  rw [h1] at ht ⊢
  have:(a.put o.dst v).tmps.getD t undef=a.tmps.getD t undef:=by
   cases hdd:o.dst with
   | none=>rfl
   | some x=>
    have hne:x ≠ t:=fun e=>hd (by rw [hdd,e])
    simp [Act.put,Array.getElem?_setIfInBounds_ne hne]
  rw [this]
  exact (h t ht).mono he
end
end Go.Ev
namespace Go.Ev
open Go.RowKit
set_option linter.unusedVariables false
set_option linter.unusedSimpArgs false
variable {E:Env} {P:Program} {base:Nat} {w:World}
section
variable {rec:FuncId→List Item→Slots→Heap→R} {f:FuncId} {ops:Array Oper} {m:List Nat} {st:Nat→Slots×Heap}
theorem Inv.wr {f:FuncId} {ops:Array Oper} {i:Nat} {o:Oper} (ho:ops[i]? = some o):Wr E f ops i=writer E f o.op:=by unfold Wr; rw [ho]
structure HInv (E:Env) (f:FuncId) (ops:Array Oper) (st:Nat→Slots×Heap) (base:Nat) (j0:Inj) (w0:World) (L:Nat→Bool) (w:World) (j:Inj) (c:Nat):Prop where
 le:c≤ops.size
 done:∀ i,i < c→Wr E f ops i=true→L i=true
 todo:c < ops.size→Wr E f ops c=true∧L c=false
 hr:HR j base (st c).2 w
 dom:∀ b p,j b=some p→b < (st 0).2.length∨∃ i,i < ops.size∧L i=true∧(st i).2.length≤b∧b < (st (i + 1)).2.length
 ext:Ext j0 j
 old:∀ b,b < (st 0).2.length→j b=j0 b
 below:Below base w0 w
 newz:NewZ base j0 j
 base_le:base≤w.heap.size
theorem Inv.h {nt:Nat} {j0 j:Inj} {w0:World} {L:Nat→Bool} {a:Act} {c:Nat} (I:Inv E f ops st nt base j0 w0 L a w j c):HInv E f ops st base j0 w0 L w j c:=⟨I.le,I.done,I.todo,I.hr,I.dom,I.ext,I.old,I.below,I.newz,I.base_le⟩
theorem HInv.full {nt:Nat} {j0 j:Inj} {w0:World} {L:Nat→Bool} {a:Act} {c:Nat} (I:HInv E f ops st base j0 w0 L w j c) (h1:nt≤a.tmps.size) (h2:a.defers=[]) (h3:∀ t,cur ops st L ops.size t ≠ .undef→VR j (cur ops st L ops.size t) (a.tmps.getD t undef)) :
  Inv E f ops st nt base j0 w0 L a w j c:=⟨h1,h2,h3,I.le,I.done,I.todo,I.hr,I.dom,I.ext,I.old,I.below,I.newz,I.base_le⟩
variable {j0 j:Inj} {w0:World} {L L':Nat→Bool} {c i:Nat} {o:Oper}
theorem c_le (dr:Dr E rec f ops m st) (I:HInv E f ops st base j0 w0 L w j c) (ho:ops[i]? = some o) (hh:heapy E o.op=true) (hahead:∀ g,(m.getD i 0).testBit g=true→L g=true):i≤c:=by
 rcases Nat.lt_or_ge c i with h | h
 ·have hi:=(Array.getElem?_eq_some_iff.1 ho).1
  have hc:c < ops.size:=by omega
  obtain ⟨h1,h2⟩:=I.todo hc
  have hok:=Array.getElem?_eq_getElem hc
  rw [Inv.wr hok] at h1
  rcases dr.pairs c i _ o hok ho h with h' | h' | h'
  ·rw [hahead c h'] at h2; cases h2
  ·rw [(free_spec h').2.2.2.1 h1] at hh; cases hh
  ·rw [(float_quiet h'.1 hok).1] at h1; cases h1
 ·exact h
theorem none_at (dr:Dr E rec f ops m st) (hl:LenOk rec) (I:HInv E f ops st base j0 w0 L w j c) (hlt:i < ops.size) (hi:L i=false) {b:Nat} (h1:(st i).2.length≤b) (h2:b < (st (i + 1)).2.length):j b=none:=by
 cases hb:j b with
 | none=>rfl
 | some p=>
  rcases I.dom b p hb with h | ⟨k,k1,k2,k3,k4⟩
  ·have:=dr.len_le hl (Nat.zero_le i) (by omega)
   omega
  ·rcases Nat.lt_or_ge k i with h | h
   ·have:=dr.len_le hl (show k + 1≤i by omega) (by omega)
    omega
   ·rcases Nat.lt_or_ge i k with h' | h'
    ·have:=dr.len_le hl (show i + 1≤k by omega) (by omega)
     omega
    ·have:k=i:=by omega
     rw [this,hi] at k2; cases k2
theorem dom_set (hL':∀ k,L' k=(L k || k == i)) (hlt:i < ops.size) {j':Inj} (hG:∀ b,(b < (st i).2.length∨(st (i + 1)).2.length≤b)→j' b=j b)
  (h:∀ b p,j b=some p→b < (st 0).2.length∨∃ i,i < ops.size∧L i=true∧(st i).2.length≤b∧b < (st (i + 1)).2.length) :
  ∀ b p,j' b=some p→b < (st 0).2.length∨∃ i,i < ops.size∧L' i=true∧(st i).2.length≤b∧b < (st (i + 1)).2.length:=by
 intro b p hb
 by_cases hin:(st i).2.length≤b∧b < (st (i + 1)).2.length
 ·exact .inr ⟨i,hlt,by rw [hL']; simp,hin.1,hin.2⟩
 ·rw [hG b (by omega)] at hb
  rcases h b p hb with h | ⟨k,k1,k2,k3⟩
  ·exact .inl h
  ·exact .inr ⟨k,k1,by rw [hL',k2]; rfl,k3⟩
theorem HInv.same (I:HInv E f ops st base j0 w0 L w j c) (hL':∀ k,L' k=(L k || k == i)) (hic:i ≠ c∨Wr E f ops i=false) {w':World} {j':Inj} (hpl:∀ b,j' b=j b) (he:Ext j j') (hz:NewZ base j j') (hr:HR j' base (st c).2 w') (hB:Below base w w'):HInv E f ops st base j0 w0 L' w' j' c where
 le:=I.le
 done k h1 h2:=by rw [hL',I.done k h1 h2]; rfl
 todo h:=by
  obtain ⟨h1,h2⟩:=I.todo h
  refine ⟨h1,?_⟩
  rw [hL',h2]
  have:c ≠ i:=by
   rintro rfl
   rcases hic with h | h
   ·exact h rfl
   ·rw [h1] at h; cases h
  simpa using this
 hr:=hr
 dom b p hb:=by
  rw [hpl] at hb
  rcases I.dom b p hb with h | ⟨k,k1,k2,k3⟩
  ·exact .inl h
  ·exact .inr ⟨k,k1,by rw [hL',k2]; rfl,k3⟩
 ext:=I.ext.trans he
 old b hb:=by rw [hpl]; exact I.old b hb
 below:=I.below.trans hB
 newz:=I.newz.trans hz he
 base_le:=Nat.le_trans I.base_le hB.size
theorem HInv.quiet (dr:Dr E rec f ops m st) (hl:LenOk rec) (hfl:floatB ops i=false) (I:HInv E f ops st base j0 w0 L w j c) (hL':∀ k,L' k=(L k || k == i)) (ho:ops[i]? = some o) (hh:heapy E o.op=true) (hw:writer E f o.op=false) (hi:L i=false)
  (hahead:∀ g,(m.getD i 0).testBit g=true→L g=true) (hcl:∀ k,L k=true→∀ g,(m.getD k 0).testBit g=true→L g=true) {d:D} {v:Value} {w':World}
  (hs:Step w.heap.size j base (st i).2 w d (st (i + 1)).2 v w'):∃ j',HInv E f ops st base j0 w0 L' w' j' c∧Ext j j'∧(d ≠ .undef→VR j' d v):=by
 have hlt:i < ops.size:=(Array.getElem?_eq_some_iff.1 ho).1
 have hic:=c_le dr I ho hh hahead
 have hne:i ≠ c:=by
  rintro rfl
  have:=(I.todo hlt).1
  rw [Inv.wr ho,hw] at this; cases this
 have hnow:∀ k,i≤k→k < c→Wr E f ops k=false:=by
  intro k h1 h2
  cases hk:Wr E f ops k with
  | false=>rfl
  | true=>
   have hLk:=I.done k h2 hk
   have hkl:k < ops.size:=by have:=I.le; omega
   have hok:=Array.getElem?_eq_getElem hkl
   rcases Nat.lt_or_ge i k with h | h
   ·rw [Inv.wr hok] at hk
    rcases dr.pairs i k o _ ho hok h with h' | h' | h'
    ·rw [hcl k hLk i h'] at hi; cases hi
    ·rw [(free_spec h').2.2.2.2 hh] at hk; cases hk
    ·rw [hfl] at h'; cases h'.1
   ·have:k=i:=by omega
    rw [this,hi] at hLk; cases hLk
 obtain ⟨K1,hK1⟩:=dr.quiet (i:=i) 1 (by omega) fun k h1 h2=>hnow k h1 (by omega)
 obtain ⟨K2,hK2⟩:=dr.quiet (i:=i + 1) (c - (i + 1)) (by have:=I.le; omega) fun k h1 h2=>hnow k (by omega) (by omega)
 rw [show i + 1 + (c - (i + 1))=c by omega] at hK2
 obtain ⟨⟨j',g1,g2,g3,g4⟩,g5⟩:=hs
 have hr:=I.hr
 rw [hK2,hK1] at hr
 rw [hK1] at g1 g3
 have hrr:=hr.rejoin g1 g4 g5 g3
 have hold:∀ b,b < (st 0).2.length→j' b=j0 b:=fun b hb=>by
  have:=dr.len_le hl (Nat.zero_le i) (by omega)
  rw [g1.same b (.inl (by omega))]; exact I.old b hb
 refine ⟨j',⟨I.le,?_,?_,by rw [hK2,hK1]; exact hrr,?_,I.ext.trans g1.ext,hold,I.below.trans (g5.mono I.base_le),I.newz.trans (g4.fz.mono I.base_le) g1.ext,Nat.le_trans I.base_le g5.size⟩,g1.ext,g2⟩
 ·intro k h1 h2; rw [hL',I.done k h1 h2]; rfl
 ·intro h
  obtain ⟨h1,h2⟩:=I.todo h
  refine ⟨h1,?_⟩
  rw [hL',h2]
  simpa using fun e:c=i=>hne e.symm
 ·refine dom_set hL' hlt (fun b hb=>g1.same b ?_) I.dom
  rw [← hK1]; exact hb
theorem HInv.write (dr:Dr E rec f ops m st) (hl:LenOk rec) (I:HInv E f ops st base j0 w0 L w j c) (hL':∀ k,L' k=(L k || k == i)) (ho:ops[i]? = some o) (hw:writer E f o.op=true) (hi:L i=false) (hic:i=c)
  (hcl:∀ k,L k=true→∀ g,(m.getD k 0).testBit g=true→L g=true) {d:D} {v:Value} {w':World} (hnone:∀ b,(st i).2.length≤b→j b=none)
  (hs:Step0 base j base (st i).2 w d (st (i + 1)).2 v w'):∃ j' c',HInv E f ops st base j0 w0 L' w' j' c'∧Ext j j'∧(d ≠ .undef→VR j' d v):=by
 have hlt:i < ops.size:=(Array.getElem?_eq_some_iff.1 ho).1
 obtain ⟨c',n1,n2,n3,n4⟩:=next_writer E f ops (ops.size - (i + 1)) (i + 1) (by omega)
 obtain ⟨K,hK⟩:=dr.quiet (i:=i + 1) (c' - (i + 1)) (by omega) fun k h1 h2=>n3 k h1 (by omega)
 rw [show i + 1 + (c' - (i + 1))=c' by omega] at hK
 obtain ⟨⟨j',g1,g2,g3,g6⟩,g5⟩:=hs
 have hstep:=evStep_len hl (dr.step i hlt)
 have hnone':∀ b,(st (i + 1)).2.length≤b→j' b=none:=fun b hb=>by rw [g1.same b (.inr hb)]; exact hnone b (by omega)
 refine ⟨j',c',⟨n2,?_,?_,by rw [hK]; exact g3.ext_none hnone',?_,I.ext.trans g1.ext,fun b hb=>?_,I.below.trans g5,I.newz.trans g6 g1.ext,Nat.le_trans I.base_le g5.size⟩,g1.ext,g2⟩
 ·intro k h1 h2
  rw [hL']
  rcases Nat.lt_or_ge k i with h | h
  ·rw [I.done k (by omega) h2]; rfl
  ·by_cases e:k=i
   ·simp [e]
   ·rw [n3 k (by omega) h1] at h2; cases h2
 ·intro h
  have h1:=n4 h
  refine ⟨h1,?_⟩
  rw [hL']
  have hne:(c' == i)=false:=by simp; omega
  rw [hne,Bool.or_false]
  cases hLc:L c' with
  | false=>rfl
  | true=>
   have hok:=Array.getElem?_eq_getElem h
   rw [Inv.wr hok] at h1
   rcases dr.pairs i c' o _ ho hok (by omega) with h' | h' | h'
   ·rw [hcl c' hLc i h'] at hi; cases hi
   ·rw [(free_spec h').2.2.2.2 (writer_heapy hw)] at h1; cases h1
   ·rw [(float_quiet h'.1 ho).1] at hw; cases hw
 ·exact dom_set hL' hlt (fun b hb=>g1.same b hb) I.dom
 ·have:=dr.len_le hl (Nat.zero_le i) (by omega)
  rw [g1.same b (.inl (by omega))]; exact I.old b hb
end
end Go.Ev
namespace Go.Ev
open Go.RowKit
set_option linter.unusedVariables false
set_option linter.unusedSimpArgs false
variable {E:Env} {P:Program} {base:Nat} {w:World}
section
variable {rec:FuncId→List Item→Slots→Heap→R} {f:FuncId} {ops:Array Oper} {m:List Nat} {st:Nat→Slots×Heap}
variable {j0 j:Inj} {w0:World} {L L':Nat→Bool} {c i:Nat} {o:Oper}
theorem still_len (hE:EnvOk E P) (dr:Dr E rec f ops m st) {k:Nat} (hk:k < ops.size) (h:∀ o,ops[k]? = some o→heapy E o.op=false):(st (k + 1)).2=(st k).2:=by
 obtain ⟨o,ho,hs⟩:=evStep_spec (dr.step k hk)
 rcases hs with ⟨r,s',h1,h2,h3,h4⟩ | ⟨s',g,want,t',h1,h3,h4⟩
 ·rw [h3]; exact (opRes_still hE (h o ho) h2).1
 ·rw [h3]
theorem none_behind (hE:EnvOk E P) (dr:Dr E rec f ops m st) (hl:LenOk rec) (I:HInv E f ops st base j0 w0 L w j c) (ho:ops[i]? = some o) (hw:writer E f o.op=true) (hi:L i=false)
  (hcl:∀ k,L k=true→∀ g,(m.getD k 0).testBit g=true→L g=true):∀ b,(st i).2.length≤b→j b=none:=by
 have hlt:i < ops.size:=(Array.getElem?_eq_some_iff.1 ho).1
 intro b hb
 cases hj:j b with
 | none=>rfl
 | some p=>
  rcases I.dom b p hj with h | ⟨k,k1,k2,k3,k4⟩
  ·have:=dr.len_le hl (Nat.zero_le i) (by omega)
   omega
  ·rcases Nat.lt_or_ge k i with h | h
   ·have:=dr.len_le hl (show k + 1≤i by omega) (by omega)
    omega
   ·by_cases e:k=i
    ·rw [e,hi] at k2; cases k2
    ·have hok:=Array.getElem?_eq_getElem k1
     rcases dr.pairs i k o _ ho hok (by omega) with h' | h' | h'
     ·rw [hcl k k2 i h'] at hi; cases hi
     ·have hh:=(free_spec h').2.2.2.1 hw
      have:=still_len hE dr k1 fun o' ho'=>by rw [hok] at ho'; cases ho'; exact hh
      rw [this] at k4; omega
     ·rw [(float_quiet h'.1 ho).1] at hw; cases hw
theorem HInv.front (dr:Dr E rec f ops m st) (hfl:floatB ops i=false) (I:HInv E f ops st base j0 w0 L w j c) (ho:ops[i]? = some o) (hh:heapy E o.op=true) (hi:L i=false)
  (hahead:∀ g,(m.getD i 0).testBit g=true→L g=true) (hcl:∀ k,L k=true→∀ g,(m.getD k 0).testBit g=true→L g=true):HR j base (st i).2 w:=by
 have hlt:i < ops.size:=(Array.getElem?_eq_some_iff.1 ho).1
 have hic:=c_le dr I ho hh hahead
 have hnow:∀ k,i≤k→k < i + (c - i)→Wr E f ops k=false:=by
  intro k h1 h2
  cases hk:Wr E f ops k with
  | false=>rfl
  | true=>
   have hLk:=I.done k (by omega) hk
   have hkl:k < ops.size:=by have:=I.le; omega
   have hok:=Array.getElem?_eq_getElem hkl
   rcases Nat.lt_or_ge i k with h | h
   ·rw [Inv.wr hok] at hk
    rcases dr.pairs i k o _ ho hok h with h' | h' | h'
    ·rw [hcl k hLk i h'] at hi; cases hi
    ·rw [(free_spec h').2.2.2.2 hh] at hk; cases hk
    ·rw [hfl] at h'; cases h'.1
   ·have:k=i:=by omega
    rw [this,hi] at hLk; cases hLk
 obtain ⟨K,hK⟩:=dr.quiet (i:=i) (c - i) (by have:=I.le; omega) hnow
 rw [show i + (c - i)=c by omega] at hK
 have hr:=I.hr
 rw [hK] at hr
 exact hr.pre
theorem load_grow {H K:Heap} {t:TypeId} {p v:D} (h:load E H t p=some v):load E (H++K) t p=some v:=by
 unfold load at h ⊢
 obtain ⟨y,hy,h⟩:=Option.bind_eq_some_iff.mp h
 rw [hy]
 unfold ld at h ⊢
 cases p <;> first | exact h | skip
 rename_i b i f
 obtain ⟨row,hr,h⟩:=Option.bind_eq_some_iff.mp h
 unfold getRow at hr ⊢
 obtain ⟨rows,hb,hr⟩:=Option.bind_eq_some_iff.mp hr
 simp only [Option.bind_some,getBlk_pre hb,hr,h]
theorem same_eq {v v':D} (h:sameD v v'=true):v=v':=by
 cases v <;> cases v' <;> first | (cases h; done) | rfl | skip
 all_goals simp only [sameD,Bool.and_eq_true,decide_eq_true_eq,beq_iff_eq] at h
 ·rw [h.1,h.2]
 ·rw [h]
 ·rw [h]
 ·rw [Nat.eq_of_beq_eq_true h.1,Nat.eq_of_beq_eq_true h.2.1,Nat.eq_of_beq_eq_true h.2.2]
theorem Dr.float (dr:Dr E rec f ops m st) (I:HInv E f ops st base j0 w0 L w j c) (hfl:floatB ops i=true) (ho:ops[i]? = some o) (hi:L i=false) (hcl:∀ k,L k=true→∀ g,(m.getD k 0).testBit g=true→L g=true)
  {r:D×Heap} (hr:opRes E rec f (st i).1 (st i).2 o.op=some r) (hs:∀ t,o.dst=some t→slot (st (i + 1)).1 t=r.1) (hH:(st (i + 1)).2=(st i).2):∀ d,i + 1 + d≤c→opRes E rec f (st i).1 (st (i + 1 + d)).2 o.op=some (r.1,(st (i + 1 + d)).2):=by
 obtain ⟨o',t,a,x,h1,h2,h3,h4,h5,h6⟩:=float_spec hfl
 rw [ho] at h1; cases h1
 have hop:∀ (s:Slots) (H:Heap) (q:D×Heap),opRes E rec f s H o.op=some q↔∃ v,load E H t (opnd s a)=some v∧q=(v,H):=by
  intro s H q
  rw [h2]
  show (load E H t (opnd s a)).map (fun d=>(d,H))=some q↔_
  rw [Option.map_eq_some_iff]
  constructor
  ·rintro ⟨v,hv,e⟩; exact ⟨v,hv,e.symm⟩
  ·rintro ⟨v,hv,e⟩; exact ⟨v,hv,e.symm⟩
 obtain ⟨v,hv,e⟩:=(hop _ _ _).mp hr
 have hv1:r.1=v:=by rw [e]
 rw [hv1] at hs ⊢
 have hcs:=I.le
 -- the slots that matter stay
 have hslots:∀ d,i + 1 + d≤ops.size→slot (st (i + 1 + d)).1 x=v∧∀ y,y ∈ o.looksAt ops→slot (st (i + 1 + d)).1 y=slot (st i).1 y:=by
  intro d
  induction d with
  | zero=>
   intro hd
   refine ⟨hs x h3,fun y hy=>?_⟩
   refine evStep_slot (dr.step i (by omega)) ?_
   unfold dstOf
   rw [ho]
   show o.dst ≠ some y
   rw [h3]
   intro e
   exact h5 (by rw [Option.some.inj e]; exact hy)
  | succ d ih=>
   intro hd
   obtain ⟨g1,g2⟩:=ih (by omega)
   have hk:i + 1 + d < ops.size:=by omega
   have hok:=Array.getElem?_eq_getElem hk
   have hne:∀ y,(y=x∨y ∈ o.looksAt ops)→dstOf ops (i + 1 + d) ≠ some y:=by
    intro y hy e
    unfold dstOf at e
    rw [hok] at e
    obtain ⟨q1,q2⟩:=h6 (i + 1 + d) _ y (by omega) hok e
    exact hy.elim q1 q2
   exact ⟨(evStep_slot (dr.step _ hk) (hne x (.inl rfl))).trans g1,fun y hy=>(evStep_slot (dr.step _ hk) (hne y (.inr hy))).trans (g2 y hy)⟩
 have hopnd:∀ d,i + 1 + d≤ops.size→∀ H v',load E H t (opnd (st (i + 1 + d)).1 a)=some v'→load E H t (opnd (st i).1 a)=some v':=by
  intro d hd H v' hl
  have h7:=(hop (st (i + 1 + d)).1 H (v',H)).mpr ⟨v',hl,rfl⟩
  rw [← opRes_looks (ops:=ops)] at h7
  have:restrict (st (i + 1 + d)).1 (o.looksAt ops)=restrict (st i).1 (o.looksAt ops):=by
   unfold restrict
   refine List.map_congr_left fun y hy=>?_
   rw [(hslots d hd).2 y hy]
  rw [this,opRes_looks] at h7
  obtain ⟨v2,h8,h9⟩:=(hop _ _ _).mp h7
  rw [h8,(Prod.mk.inj h9).1]
 intro d
 induction d with
 | zero=>intro _; exact (hop _ _ _).mpr ⟨v,by rw [Nat.add_zero,hH]; exact hv,rfl⟩
 | succ d ih=>
  intro hd
  obtain ⟨v1,g1,g2⟩:=(hop _ _ _).mp (ih (by omega))
  have g2:=(Prod.mk.inj g2).1
  subst g2
  refine (hop _ _ _).mpr ⟨v,?_,rfl⟩
  have hk:i + 1 + d < ops.size:=by omega
  have hok:=Array.getElem?_eq_getElem hk
  rcases dr.stab (i + 1 + d) hk with hst | hst
  ·rw [show i + 1 + (d + 1)=i + 1 + d + 1 by omega,hst]; exact g1
  ·cases hw:Wr E f ops (i + 1 + d) with
   | false=>
    obtain ⟨K,hK⟩:=dr.quiet (i:=i + 1 + d) 1 (by omega) fun k k1 k2=>by rw [show k=i + 1 + d by omega]; exact hw
    rw [show i + 1 + (d + 1)=i + 1 + d + 1 by omega,hK]
    exact load_grow g1
   | true=>
    have hLk:=I.done (i + 1 + d) (by omega) hw
    have hm:(m.getD (i + 1 + d) 0).testBit i=false:=by
     cases hb:(m.getD (i + 1 + d) 0).testBit i with
     | false=>rfl
     | true=>rw [hcl _ hLk i hb] at hi; cases hi
    have hw':writer E f (ops[i + 1 + d]).op=true:=by rw [← Inv.wr hok]; exact hw
    have hmem:i ∈ flOf E f m ops (i + 1 + d):=by
     unfold flOf
     rw [hok]
     simp only [hw',cond_true,List.mem_filter,List.mem_range,hfl,hm,Bool.not_false,Bool.and_self,and_true]
     omega
    obtain ⟨o2,t2,a2,x2,v2,k1,k2,k3,k4,k5⟩:=hst i hmem
    rw [ho] at k1; cases k1
    rw [h2] at k2; cases k2
    rw [h3] at k3; cases k3
    have k6:=same_eq k5
    rw [(show i + 1 + d + 1=i + 1 + (d + 1) by omega)] at k4 k6
    rw [(hslots (d + 1) (by omega)).1] at k6
    subst k6
    exact hopnd (d + 1) (by omega) _ _ k4
theorem put_size (a:Act) (d:Option Tmp) (v:Value):(a.put d v).tmps.size=a.tmps.size:=by cases d <;> simp [Act.put]
theorem put_defers (a:Act) (d:Option Tmp) (v:Value):(a.put d v).defers=a.defers:=by cases d <;> rfl
theorem step_any (hE:EnvOk E P) (hrec:CallOk E P rec) (hl:LenOk rec) (dr:Dr E rec f ops m st) {nt:Nat} (hdst:dstOk nt ops.toList=true) {a:Act} (I:Inv E f ops st nt base j0 w0 L a w j c) (ho:ops[i]? = some o) (hi:L i=false)
    (hahead:∀ g,(m.getD i 0).testBit g=true→L g=true) (hcl:∀ k,L k=true→∀ g,(m.getD k 0).testBit g=true→L g=true) (hL':∀ k,L' k=(L k || k == i)) {K:Act→World→Prop} {Q:Exit→Act→World→Prop}
    (hK:∀ a w j c,Inv E f ops st nt base j0 w0 L' a w j c→K a w):wpOp P ops Q i K a w:=by
  have hlt:i < ops.size:=(Array.getElem?_eq_some_iff.1 ho).1
  have hdo:∀ d,o.dst=some d→d < nt:=by
    intro d hd
    have:=(List.all_eq_true.mp hdst) o (by simpa using Array.mem_of_getElem? ho)
    rw [hd] at this
    simpa using this
  have hlook:∀ t,t ∈ o.looksAt ops→slot (st i).1 t ≠ .undef→VR j (slot (st i).1 t) (a.tmps.getD t undef):=by
    intro t ht hne
    have:=dr.looks ho hahead hcl hi (.inl ht)
    rw [← this] at hne ⊢
    exact I.vals t hne
  -- what is left to show behind the operation
  have hfin:∀ {j':Inj} {c':Nat} {d:D} {v:Value} {w':World},HInv E f ops st base j0 w0 L' w' j' c'→Ext j j'→(d ≠ .undef→VR j' d v)→(∀ t,o.dst=some t→slot (st (i + 1)).1 t=d)→K (a.put o.dst v) w':=by
    intro j' c' d v w' h1 h2 h3 h4
    exact hK _ _ j' c' (h1.full (by rw [put_size]; exact I.size) (by rw [put_defers]; exact I.df) (vals_put dr ho hcl hi hL' hdo I.size h4 h3 h2 I.vals))
  have hyield:∀ {g want t b},o.guard=some (g,want)→gslot ops g=some t→slot (st i).1 t = .bool b→Region.wanted o (yielded ops a.tmps)=(b == want):=by
    intro g want t b hg ht hb
    have hmem:t ∈ o.looksAt ops:=by
      unfold Oper.looksAt
      refine List.mem_append_right _ ?_
      rw [hg]
      unfold gslot at ht
      cases hog:ops[g]? with
      | none=>rw [hog] at ht; cases ht
      | some og=>rw [hog] at ht; simp [hog]; simpa using ht
    have hv:=hlook t hmem (by rw [hb]; simp)
    rw [hb] at hv
    generalize hxv:a.tmps.getD t undef=xv at hv
    cases hv
    have hy:=yielded_of ht hxv
    unfold Region.wanted
    rw [hg]
    simp only [hy]
    cases b <;> cases want <;> rfl
  have hyield0:∀ {g want t},o.guard=some (g,want)→gslot ops g=some t→slot (st i).1 t = .tup []→Region.wanted o (yielded ops a.tmps)=false:=by
    intro g want t hg ht hb
    have hmem:t ∈ o.looksAt ops:=by
      unfold Oper.looksAt
      refine List.mem_append_right _ ?_
      rw [hg]
      unfold gslot at ht
      cases hog:ops[g]? with
      | none=>rw [hog] at ht; cases ht
      | some og=>rw [hog] at ht; simp [hog]; simpa using ht
    have hv:=hlook t hmem (by rw [hb]; simp)
    rw [hb] at hv
    have hy:=yielded_none ht hv.undef_of
    unfold Region.wanted
    rw [hg]
    simp only [hy]
    rfl
  unfold wpOp
  rw [ho]
  dsimp only
  obtain ⟨o',ho',hs⟩:=evStep_spec (dr.step i hlt)
  rw [ho] at ho'; cases ho'
  rcases hs with ⟨r,s',h1,h2,h3,h4⟩ | ⟨s',g,want,t,h1,h3,h4,h5,h6⟩
  · have hw:Region.wanted o (yielded ops a.tmps)=true:=by
      rcases h4 with h4 | ⟨g,want,t,g1,g2,g3⟩
      · unfold Region.wanted; rw [h4]
      · rw [hyield g1 g2 g3]; cases want <;> rfl
    rw [if_pos hw]
    refine .inl ?_
    have hslot:∀ t,o.dst=some t→slot (st (i + 1)).1 t=r.1:=by
      intro t ht
      rw [h3]
      simp only [slot_put_any,if_pos ht]
    have hr2:(st (i + 1)).2=r.2:=by rw [h3]
    have hres:∀ {H q},opRes E rec f (st i).1 H o.op=some q→opRes E rec f (restrict (st i).1 (o.looksAt ops)) H o.op=some q:=fun h=>by rw [opRes_looks]; exact h
    rw [opRes_slots (st i).2 h1] at h2
    cases hh:heapy E o.op with
    | false=>
      have hwr:writer E f o.op=false:=by
        cases h:writer E f o.op with
        | false=>rfl
        | true=>rw [writer_heapy h] at hh; cases hh
      have hst:=(opRes_still hE hh h2).2 (st c).2
      refine op_run hE hrec (or_restrict hlook) I.hr I.base_le (hres hst) (fun b hb h=>?_) fun v w' h5 h6=>?_
      · rcases h with h | h
        · rw [hwr] at h; cases h
        · exact absurd h (Nat.not_lt.mpr hb)
      · obtain ⟨⟨j',g1,g2,g3,g6⟩,g4⟩:=h5
        exact hfin (I.h.same hL' (.inr (by rw [Inv.wr ho]; exact hwr)) (fun b=>g1.same b (Nat.lt_or_ge b _)) g1.ext g6 g3 g4) g1.ext g2 hslot
    | true=>
      cases hwr:writer E f o.op with
      | false=>
       cases hfl:floatB ops i with
       | true=>
        have hne:i ≠ c:=by
          rintro rfl
          have:=(I.todo hlt).1
          rw [Inv.wr ho,hwr] at this; cases this
        have hic:=c_le dr I.h ho hh hahead
        obtain ⟨o2,t2,a2,x2,k1,k2,-⟩:=float_spec hfl
        rw [ho] at k1; cases k1
        have hH:(st (i + 1)).2=(st i).2:=by
          rw [hr2]
          rw [k2] at h2
          obtain ⟨v,_,e⟩:=Option.map_eq_some_iff.mp (show (load E (st i).2 t2 (opnd (st i).1 a2)).map (fun d=>(d,(st i).2))=some r from h2)
          rw [← e]
        have hst:=dr.float I.h hfl ho hi hcl h2 hslot hH (c - (i + 1)) (by omega)
        rw [show i + 1 + (c - (i + 1))=c by omega] at hst
        refine op_run hE hrec (or_restrict hlook) I.hr I.base_le (hres hst) (fun b hb h=>?_) fun v w' h5 h6=>?_
        · rcases h with h | h
          · rw [hwr] at h; cases h
          · exact absurd h (Nat.not_lt.mpr hb)
        · obtain ⟨⟨j',g1,g2,g3,g6⟩,g4⟩:=h5
          exact hfin (I.h.same hL' (.inr (by rw [Inv.wr ho]; exact hwr)) (fun b=>g1.same b (Nat.lt_or_ge b _)) g1.ext g6 g3 g4) g1.ext g2 hslot
       | false=>
        refine op_run hE hrec (or_restrict hlook) (I.h.front dr hfl ho hh hi hahead hcl) I.base_le (hres h2) (fun b hb h=>?_) fun v w' h5 h6=>?_
        · rcases h with h | h
          · rw [hwr] at h; cases h
          · exact none_at dr hl I.h hlt hi hb (by rw [hr2]; exact h)
        · obtain ⟨j',g1,g2,g3⟩:=I.h.quiet dr hl hfl hL' ho hh hwr hi hahead hcl (d:=r.1) (v:=v) (w':=w') (by rw [hr2]; exact h6 hwr)
          exact hfin g1 g2 g3 hslot
      | true=>
        have hic:i=c:=by
          have:=c_le dr I.h ho hh hahead
          rcases Nat.lt_or_ge i c with h | h
          · have:=I.done i h (by rw [Inv.wr ho]; exact hwr)
            rw [hi] at this; cases this
          · omega
        have hnone:=none_behind hE dr hl I.h ho hwr hi hcl
        refine op_run hE hrec (or_restrict hlook) (by rw [hic]; exact I.hr) I.base_le (hres h2) (fun b hb _=>hnone b hb) fun v w' h5 h6=>?_
        obtain ⟨j',c',g1,g2,g3⟩:=I.h.write dr hl hL' ho hwr hi hic hcl (d:=r.1) (v:=v) (w':=w') hnone (by rw [hr2]; exact h5)
        exact hfin g1 g2 g3 hslot
  · have hw:¬ Region.wanted o (yielded ops a.tmps)=true:=by
      rcases h6 with ⟨b,h6,h7⟩ | h6
      · rw [hyield h4 h5 h6]
        simpa using h7
      · rw [hyield0 h4 h5 h6]; decide
    rw [if_neg hw]
    have hslot:∀ t,o.dst=some t→slot (st (i + 1)).1 t = .tup []:=by
      intro t ht
      rw [h3]
      simp only [slot_put_any,if_pos ht]
    have hr2:(st (i + 1)).2=(st i).2:=by rw [h3]
    cases hwr:writer E f o.op with
    | false=>exact hfin (I.h.same hL' (.inr (by rw [Inv.wr ho]; exact hwr)) (fun _=>rfl) (Ext.refl _) (NewZ.refl _ _) I.hr (Below.refl _ _)) (Ext.refl _) (fun _=>VR.of_undef _) hslot
    | true=>
      have hic:i=c:=by
        have:=c_le dr I.h ho (writer_heapy hwr) hahead
        rcases Nat.lt_or_ge i c with h | h
        · have:=I.done i h (by rw [Inv.wr ho]; exact hwr)
          rw [hi] at this; cases this
        · omega
      have hnone:=none_behind hE dr hl I.h ho hwr hi hcl
      obtain ⟨j',c',g1,g2,g3⟩:=I.h.write dr hl hL' ho hwr hi hic hcl (d:=.tup []) (v:=undef) (w':=w) hnone
        ⟨⟨j,by rw [hr2]; exact Grows.refl _ _ _,fun _=>VR.of_undef _,by rw [hr2,hic]; exact I.hr,NewZ.refl _ _⟩,Below.refl _ _⟩
      exact hfin g1 g2 g3 hslot
theorem all_listed (hed:∀ (k:Nat) o,ops[k]? = some o→edgesOk m k o.after.toList=true) {listed:Array Bool} (hsz:listed.size=ops.size) (h:Region.ready .any ops listed=[]):∀ n i,i < n→i < ops.size→listed.getD i false=true
 | 0,i,h,_=>by omega
 | n + 1,i,hn,hi=>by
  cases hx:listed.getD i false with
  | true=>rfl
  | false=>
   have hok:=Array.getElem?_eq_getElem hi
   have:i ∈ Region.ready .any ops listed:=by
    rw [mem_ready]
    refine ⟨?_,_,hok,fun e he hb=>?_⟩
    ·have:i < listed.size:=by omega
     simp [this] at hx ⊢
     exact hx
    ·have h1:=hed i _ hok
     unfold edgesOk at h1
     simp only [Bool.and_eq_true] at h1
     have h2:=(List.all_eq_true.mp h1.1) e (by simpa using he)
     rw [hb] at h2
     have hlt:e.on < i:=by simpa using h2
     exact all_listed hed hsz h n e.on (by omega) (by omega)
   rw [h] at this; cases this
theorem any_all (hE:EnvOk E P) (hrec:CallOk E P rec) (hl:LenOk rec) (dr:Dr E rec f ops m st) {nt:Nat} (hdst:dstOk nt ops.toList=true) {Q:Exit→Act→World→Prop}
  (hQ:∀ a w j c L,(∀ i,i < ops.size→L i=true)→Inv E f ops st nt base j0 w0 L a w j c→Q .normal a w) :
  ∀ (fuel:Nat) (listed:Array Bool) (a:Act) (w:World) (j:Inj) (c:Nat),listed.size=ops.size→(listed.toList.countP (fun b=>!b)≤fuel)→Closed m listed→Inv E f ops st nt base j0 w0 (fun k=>listed.getD k false) a w j c →
   wpAny P .any ops Q fuel listed a w:=by
 intro fuel
 induction fuel with
 | zero=>
  intro listed a w j c hsz hcount hc I
  have hall:∀ i,i < ops.size→listed.getD i false=true:=by
   intro i hi
   have h0:listed.toList.countP (fun b=>!b)=0:=by omega
   rw [List.countP_eq_zero] at h0
   have hlt:i < listed.size:=by omega
   have:=h0 listed[i] (by simp)
   simp [hlt]
   simpa using this
  have hr:Region.ready .any ops listed=[]:=by
   rw [List.eq_nil_iff_forall_not_mem]
   intro i hi
   obtain ⟨h0,o,ho,_⟩:=mem_ready.1 hi
   have hlt:i < ops.size:=(Array.getElem?_eq_some_iff.1 ho).1
   have h1:=hall i hlt
   have:i < listed.size:=by omega
   simp [this] at h0 h1
   rw [h0] at h1; cases h1
  exact ⟨hr,hQ a w j c _ hall I⟩
 | succ fuel ih=>
  intro listed a w j c hsz hcount hc I
  refine ⟨fun hr=>hQ a w j c _ (fun i hi=>all_listed dr.edges hsz hr (i + 1) i (by omega) hi) I,fun i hi=>?_⟩
  obtain ⟨h0,o,ho,_⟩:=mem_ready.1 hi
  have hlt:i < ops.size:=(Array.getElem?_eq_some_iff.1 ho).1
  have hltl:i < listed.size:=by omega
  have hi0:listed.getD i false=false:=by
   simp [hltl] at h0 ⊢
   exact h0
  have hahead:∀ g,(m.getD i 0).testBit g=true→listed.getD g false=true:=fun g hg=>ready_ahead ho (dr.edges i o ho) hi hc hg
  refine step_any hE hrec hl dr hdst (L':=fun k=>(listed.setIfInBounds i true).getD k false) I ho hi0 hahead hc (fun k=>?_) fun a' w' j' c' I'=>?_
  ·by_cases e:i=k
   ·subst e
    simp [hltl]
   ·rw [getD_set_ne false e]
    have:(k == i)=false:=by simp; omega
    simp only [this,Bool.or_false]
  ·refine ih (listed.setIfInBounds i true) a' w' j' c' (by simpa using hsz) ?_ (hc.set hahead) I'
   have hset:(listed.setIfInBounds i true).toList=listed.toList.set i true:=by simp
   rw [hset]
   have hget:listed.toList[i]? = some false:=by
    simp [hltl] at h0 ⊢
    exact h0
   have hcnt:∀ (l:List Bool) (i:Nat),l[i]? = some false→(l.set i true).countP (fun b=>!b) + 1=l.countP (fun b=>!b):=by
    intro l
    induction l with
    | nil=>intro i h; simp at h
    | cons x l ihl=>
     intro i h
     cases i with
     | zero=>simp at h; subst h; simp
     | succ i=>
      have:=ihl i (by simpa using h)
      simp only [List.set_cons_succ,List.countP_cons]
      omega
   have:=hcnt listed.toList i hget
   omega
end
theorem draw_ok (hE:EnvOk E P) {rec:FuncId→List Item→Slots→Heap→R} (hrec:CallOk E P rec) (hl:LenOk rec):DrawOk E P rec:=by
 intro f ops m hd hdst k q j0 H0 w0 base Q hQ a s h hS had hH hF hb
 rw [List.range_eq_range'] at h
 obtain ⟨st,s0,s1,s2⟩:=evOps_trace ops.size 0 [] s H0 (SkOk.nil _) h
 have dr:Dr E rec f ops m st:=Dr.of hd fun i hi=>s1 i (Nat.zero_le _) (by omega)
 obtain ⟨c,n1,n2,n3,n4⟩:=next_writer E f ops ops.size 0 (by omega)
 obtain ⟨K,hK⟩:=dr.quiet (i:=0) c (by omega) fun k h1 h2=>n3 k h1 (by omega)
 rw [Nat.zero_add] at hK
 have hfalse:∀ k,(Array.replicate ops.size false).getD k false=false:=fun k=>by
  by_cases h:k < ops.size <;> simp [h]
 have h0len:(st 0).2=H0:=by rw [s0]
 refine any_all (base:=base) (st:=st) (j0:=j0) (w0:=w0) hE hrec hl dr hdst (fun a w j c L hall I=>?_) ops.size _ a _ j0 c (by simp) ?_ (fun i hi=>?_) ?_
 ·have hcn:c=ops.size:=by
   rcases Nat.lt_or_ge c ops.size with h | h
   ·have:=(I.todo h).2
    rw [hall c h] at this; cases this
   ·have:=I.le; omega
  subst hcn
  rw [Nat.zero_add] at s2
  have hlen:=dr.len_le hl (Nat.zero_le ops.size) (Nat.le_refl _)
  rw [h0len] at hlen
  have hnone:Fresh j (st ops.size).2.length:=by
   intro b hb
   cases hj:j b with
   | none=>rfl
   | some p=>
    rcases I.dom b p hj with h | ⟨k,k1,k2,k3,k4⟩
    ·rw [h0len] at h; omega
    ·have:=dr.len_le hl (show k + 1≤ops.size by omega) (Nat.le_refl _)
     omega
  refine hQ a j _ _ w s2 ⟨I.size,fun t ht=>?_⟩ I.df I.hr ⟨I.ext,fun b hb=>?_⟩ hlen I.below I.newz hnone I.base_le
  ·have hcur:=cur_upto (t:=t) dr.step (L:=L) ops.size (Nat.le_refl _) fun i hi _=>hall i hi
   rw [← hcur] at ht ⊢
   exact I.vals t ht
  ·rcases hb with hb | hb
   ·exact I.old b (by rw [h0len]; exact hb)
   ·rw [hnone b hb,hF b (by omega)]
 ·exact Nat.le_trans List.countP_le_length (by simp)
 ·rw [hfalse] at hi; cases hi
 ·have hcur:∀ n t,cur ops st (fun k=>(Array.replicate ops.size false).getD k false) n t=slot s t:=by
   intro n t
   induction n with
   | zero=>show slot (st 0).1 t=_; rw [s0]
   | succ n ih=>unfold cur; rw [if_neg (by rw [hfalse]; simp),ih]
  have hB:Below base w0 { w0 with drawn:=w0.drawn + 1 }:=(Below.refl base w0).drew
  have hBs:Below w0.heap.size w0 { w0 with drawn:=w0.drawn + 1 }:=(Below.refl _ w0).drew
  refine ⟨hS.1,had,fun t ht=>?_,n2,fun i h1 h2=>?_,fun h=>⟨n4 h,hfalse c⟩,?_,fun b p hj=>?_,Ext.refl _,fun _ _=>rfl,hB,NewZ.refl _ _,hb⟩
  ·rw [hcur] at ht ⊢; exact hS.2 t ht
  ·rw [n3 i (Nat.zero_le _) h1] at h2; cases h2
  ·rw [hK,h0len]; exact (hH.grow hBs).ext_none hF
  ·rcases Nat.lt_or_ge b H0.length with h | h
   ·rw [h0len]; exact .inl h
   ·rw [hF b h] at hj; cases hj
end Go.Ev
namespace Go.Ev
open Go.RowKit
set_option linter.unusedVariables false
set_option linter.unusedSimpArgs false
variable {E:Env} {P:Program} {base:Nat} {w:World}
theorem execN_ok (hE:EnvOk E P) (hx:ExtOk E P):∀ n,RecOk E P (execN E n)
 | 0=>fun f todo s H q h=>by cases h
 | n + 1=>by
  have ih:=execN_ok hE hx n
  have hc:=call_ok hE hx ih
  exact sim_X hE hc (draw_ok hE hc (execN_len E n)) ih
theorem exec_ok (hE:EnvOk E P) (hx:ExtOk E P):RecOk E P (exec E):=by
 intro f todo s H q h
 obtain ⟨n,hn⟩:=exec_some h
 exact execN_ok hE hx n f todo s H q hn
end Go.Ev
