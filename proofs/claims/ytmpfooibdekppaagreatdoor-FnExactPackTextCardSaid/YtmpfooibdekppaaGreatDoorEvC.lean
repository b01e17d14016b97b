import Derived.Test.YtmpfooibdekppaaGreatDoorEvB
namespace Go.Ev
open Go.RowKit
set_option linter.unusedVariables false
set_option linter.unusedSimpArgs false
variable {E:Env} {P:Program} {j:Inj} {base:Nat} {H:Heap} {w:World}
theorem ty_bytes (hE:EnvOk E P) {t:TypeId} {y:Ty} (hy:E.ty t=some y) (h:y.kd = .bytes):∃ e,P.underlying t=some (.slice e)∧P.underlying e=some (.int .u8):=by
 obtain ⟨ti,td,hti,hd,hty⟩:=ty_kd hE hy
 obtain ⟨e,rfl,he⟩:=(tyD_kd hty).2.2.2 h
 exact ⟨e,hd,he⟩
def numOf:List D→Int
 | [.int .u8 n]=>n
 | _=>0
theorem bytes_nums:∀ {rows:List (List D)} {s:List UInt8},optAll byteOf rows=some s→s=(rows.map numOf).map (fun n=>UInt8.ofNat n.toNat)∧(∀ r ∈ rows,∃ n,r=[.int .u8 n])
 | [],s,h=>by cases h; simp
 | r :: rows,s,h=>by
  replace h:=Option.bind_eq_some_iff.mp h
  obtain ⟨b,hb,h⟩:=h
  replace h:=Option.bind_eq_some_iff.mp h
  obtain ⟨bs,hbs,h⟩:=h
  cases h
  obtain ⟨h1,h2⟩:=bytes_nums hbs
  unfold byteOf at hb
  split at hb
  ·rename_i n
   cases hb
   refine ⟨by rw [h1]; rfl,?_⟩
   intro r hr
   rcases List.mem_cons.mp hr with rfl | hr
   ·exact ⟨_,rfl⟩
   ·exact h2 r hr
  ·cases hb
theorem flat_nums:∀ {rows:List (List D)},(∀ r ∈ rows,∃ n,r=[.int .u8 n])→rows.flatten=(rows.map numOf).map (D.int .u8)
 | [],_=>rfl
 | r :: rows,h=>by
  obtain ⟨n,rfl⟩:=h r (by simp)
  simp [flat_nums (rows:=rows) (fun r hr=>h r (by simp [hr])),numOf]
theorem VRs_nums {j:Inj}:∀ {ns:List Int} {vs:List Value},VRs j (ns.map (D.int .u8)) vs→vs=ns.map (Value.int .u8)
 | [],_,h=>by cases h; rfl
 | n :: ns,_,h=>by
  cases h with
  | cons h hs=>cases h; simp [VRs_nums hs]
theorem Fz.flat (hH:HR j base H w) {e rb ro:Nat} {vss:List (List Value)} (h:Fz j.fz e rb ro vss) {k:Nat} {u:Value} (hk:vss.flatten[k]? = some u):w.cell? ⟨rb,ro + k,none⟩=some u:=by
 obtain ⟨cs0,el,fr,hz,hcs⟩:=h
 refine cell_of (hH.fz rb _ hz) ?_
 obtain ⟨i,f,vs,g1,g2,g3⟩:=flat_at (fun vs hvs=>by
  obtain ⟨i,hi⟩:=List.getElem?_of_mem hvs
  exact (hcs i vs hi).1) hk
 subst g3
 have:=(hcs i vs g1).2 f u g2
 rwa [Nat.add_assoc] at this
theorem sim_convert (hE:EnvOk E P) (hH:HR j base H w) (hb:base≤w.heap.size) {r:D×Heap} (hj:H.length < r.2.length→j H.length=none) {src dst:TypeId} {x:D} {vx:Value} (hx:VR j x vx)
  (h:convert E H src dst x=some r):∃ v w',(Go.convert src dst vx).run P w = .ok v w'∧Step w.heap.size j base H w r.1 r.2 v w':=by
 replace h:=Option.bind_eq_some_iff.mp h
 obtain ⟨y,hy,h⟩:=h
 replace h:=Option.bind_eq_some_iff.mp h
 obtain ⟨z,hz,h⟩:=h
 split at h
 ·rename_i h1 h2
  have hs:=ty_str hE hy h1
  have hd:=ty_str hE hz h2
  unfold cSS at h
  split at h
  ·cases h
   cases hx
   refine ⟨_,_,by simp [Go.convert,run_underlying hs,run_underlying hd],⟨j,Grows.refl _ _ _,fun _=>.str _,hH,New.refl _ _⟩,Below.refl _ _⟩
  ·cases h
 ·rename_i h1 h2
  have hs:=ty_str hE hy h1
  obtain ⟨e,hd,he⟩:=ty_bytes hE hz h2
  unfold cSB at h
  split at h
  ·rename_i s
   split at h
   ·rename_i hlen
    cases h
    cases hx
    have hj:=hj (by simp)
    have hrun:=run_bytes_of_string w src dst e ⟨s.toArray⟩ hs hd he
    have hge:=grownCap_ge w s.length 0 e
    rw [ba_size] at hrun
    have hsz:(bytesRow ⟨s.toArray⟩ (grownCap w s.length 0 e)).size=grownCap w s.length 0 e:=by
     unfold bytesRow
     rw [ba_size]
     simp; omega
    refine ⟨_,_,hrun,⟨upd j H.length ⟨w.heap.size,0,1,grownCap w s.length 0 e⟩,upd_grows _ hj (by simp),fun _=>?_,?_,upd_new (Nat.le_refl _)⟩,below_drew_alloc _ _⟩
    ·refine .sl hge (.inr ⟨_,upd_self _ _ _,by simp,?_⟩)
     simp [Pl.at]
    ·refine hH.add (below_drew_alloc _ _) hj ?_ (Nat.le_refl _)
     have hfl:∀ l:List UInt8,(l.map fun c=>[D.int .u8 (c.toNat:Int)]).flatten=l.map fun c=>D.int .u8 (c.toNat:Int):=by
      intro l
      induction l with
      | nil=>rfl
      | cons a l ih=>simp [ih]
     have hv:∀ l:List UInt8,VRs (upd j H.length ⟨w.heap.size,0,1,grownCap w s.length 0 e⟩) (l.map fun c=>D.int .u8 (c.toNat:Int)) (l.map fun c=>Value.int .u8 (c.toNat:Int)):=by
      intro l
      induction l with
      | nil=>exact .nil
      | cons a l ih=>exact .cons (.int _ _) ih
     refine BR.new (vs:=s.map fun c=>Value.int .u8 (c.toNat:Int)) (cs:=bytesRow ⟨s.toArray⟩ (grownCap w s.length 0 e)) (el:=e) (fr:=((bytesRow ⟨s.toArray⟩ (grownCap w s.length 0 e)).size,(bytesRow ⟨s.toArray⟩ (grownCap w s.length 0 e)).size + 1)) ?_ ?_ ?_ ?_ (heap_alloc_new w.drew _) ?_ ?_ hb (hH.fz_none (Nat.le_refl _))
     ·intro r hr
      obtain ⟨c,_,rfl⟩:=List.mem_map.mp hr
      rfl
     ·intro r hr d hd
      obtain ⟨c,_,rfl⟩:=List.mem_map.mp hr
      simp at hd; subst hd; rfl
     ·rw [hfl]; exact hv s
     ·intro k v hk
      unfold bytesRow
      rw [Array.getElem?_append_left (by simpa using get_lt hk)]
      simpa using hk
     ·intro k hk h; simp only at h; omega
     ·rw [hsz]; simp
   ·cases h
  ·cases h
 ·rename_i h1 h2
  obtain ⟨e,hs,he⟩:=ty_bytes hE hy h1
  have hd:=ty_str hE hz h2
  unfold cBS at h
  split at h
  ·cases h
   cases hx with
   | sl0 a=>
    refine ⟨.string ⟨([]:List UInt8).toArray⟩,w,?_,⟨j,Grows.refl _ _ _,fun _=>.str _,hH,New.refl _ _⟩,Below.refl _ _⟩
    cases a with
    | none=>exact run_convert_bytes_nil (P:=P) w src e hs he 0 0 dst hd
    | some a=>exact run_convert_bytes_back (P:=P) w src dst e a 0 [] hs he hd (fun j hj=>absurd hj (by simp))
  ·rename_i b off len
   replace h:=Option.bind_eq_some_iff.mp h
   obtain ⟨rows,hrows,h⟩:=h
   replace h:=Option.bind_eq_some_iff.mp h
   obtain ⟨s,hbs,h⟩:=h
   cases h
   obtain ⟨hseq,hform⟩:=bytes_nums hbs
   refine ⟨.string ⟨s.toArray⟩,w,?_,⟨j,Grows.refl _ _ _,fun _=>.str _,hH,New.refl _ _⟩,Below.refl _ _⟩
   unfold srcRows at hrows
   replace hrows:=Option.bind_eq_some_iff.mp hrows
   obtain ⟨blk,hblk,hrows⟩:=hrows
   split at hrows
   ·rename_i hle
    cases hrows
    have hlen2:((blk.drop off).take len).length=len:=by simp; omega
    cases hx with
    | sl k1 k2=>
     rename_i a cap
     by_cases h0:len=0
     ·subst h0
      have:s=[]:=by rw [hseq]; simp
      subst this
      cases a with
      | none=>exact run_convert_bytes_nil (P:=P) w src e hs he 0 cap dst hd
      | some a=>exact run_convert_bytes_back (P:=P) w src dst e a cap [] hs he hd (fun j hj=>absurd hj (by simp))
     ·rcases k2 with rfl | ⟨p,hp,hC,rfl⟩
      ·omega
      ·have hB:=hH.blk b blk p hblk hp
       obtain ⟨cs,a1,a2,a3,a4⟩:=hB.seg off len
       rw [flat_nums hform] at a1
       have hcs:=VRs_nums a1
       have:=run_convert_bytes_arg (P:=P) w src e hs he p.rb (p.ro + off * p.e) len cap (((blk.drop off).take len).map numOf) (by rw [List.length_map,hlen2]) (fun i hi=>by
        have:=a2 i (.int .u8 ((((blk.drop off).take len).map numOf).getD i 0)) (by
         rw [hcs,List.getElem?_map,List.getD_eq_getElem?_getD,List.getElem?_eq_getElem (by rw [List.length_map,hlen2]; exact hi)]; rfl)
        rw [Pl.at_add] at this
        simpa [Pl.at] using this) dst hd
       have e1:some (p.at off 0)=some ⟨p.rb,p.ro + off * p.e,none⟩:=by unfold Pl.at; rfl
       rw [e1,this]
       congr 2
       rw [hseq]
       rfl
   ·cases hrows
  ·rename_i rows
   replace h:=Option.bind_eq_some_iff.mp h
   obtain ⟨s,hbs,h⟩:=h
   cases h
   obtain ⟨hseq,hform⟩:=bytes_nums hbs
   refine ⟨.string ⟨s.toArray⟩,w,?_,⟨j,Grows.refl _ _ _,fun _=>.str _,hH,New.refl _ _⟩,Below.refl _ _⟩
   cases hx with
   | @list _ vss a len cap hl k1 hr0 hm=>
    subst hl
    have hr:=hr0.rr
    by_cases h0:rows=[]
    ·subst h0
     have:s=[]:=by rw [hseq]; simp
     subst this
     cases a with
     | none=>exact run_convert_bytes_nil (P:=P) w src e hs he 0 cap dst hd
     | some a=>exact run_convert_bytes_back (P:=P) w src dst e a cap [] hs he hd (fun j hj=>absurd hj (by simp))
    ·rcases hm with rfl | ⟨e',rb,ro,rfl,hfz⟩
     ·exact absurd rfl h0
     ·have a1:=hr.flat
      rw [flat_nums hform] at a1
      have hcs:=VRs_nums a1
      have:=run_convert_bytes_arg (P:=P) w src e hs he rb ro rows.length cap (rows.map numOf) (by rw [List.length_map]) (fun i hi=>by
       refine hfz.flat hH ?_
       rw [hcs,List.getElem?_map,List.getD_eq_getElem?_getD,List.getElem?_eq_getElem (by rw [List.length_map]; exact hi)]; rfl) dst hd
      rw [this]
      congr 2
      rw [hseq]
      rfl
  ·cases h
 ·cases h
def opRes (E:Env) (rec:FuncId→List Item→Slots→Heap→R) (f:FuncId) (s:Slots) (H:Heap) (op:Op):R:=
 match op with
 | .move x | .assign x=>some (opnd s x,H)
 | .pick c a b=>match opnd s c with
  | .bool t=>some (bif t then opnd s a else opnd s b,H)
  | _=>none
 | .makeFunc (.func g) first captured=>bif Nat.beq first.size 0 && (captured.toList.map (opnd s)).all D.isCell then some (.fn g (captured.toList.map (opnd s)),H) else none
 | .alloc t=>(E.ty t).bind fun y=>bif y.zero.all D.isCell then some (.ptr H.length 0 0,H++[some [y.zero]]) else none
 | .box _ v=>bif (opnd s v).cells.all D.isCell then some (.ptr H.length 0 0,H++[some [(opnd s v).cells]]) else none
 | .store t a x=>(store E H t (opnd s a) (opnd s x)).map fun H=>(.undef,H)
 | op=>
  bif isPop E op then (popOp E s H op).map fun d=>(d,H)
  else
   match op with
   | .call c=>
    match c.callee with
    | .value x=>match opnd s x with
     | .fn g cap=>callFn E rec (E.mode f g) g (c.args.toList.map (opnd s)++cap) H
     | _=>none
    | _=>stepOp E f s H op
   | _=>stepOp E f s H op
theorem doOp_res (rec:FuncId→List Item→Slots→Heap→R) (f:FuncId) (o:Oper) (s:Slots) (H:Heap) (k:Slots→Heap→R) :
  doOp E rec f o s H k=(opRes E rec f s H o.op).bind fun r=>k (putS s o.dst r.1) r.2:=by
 obtain ⟨dst,op,type,pos,after,guard⟩:=o
 have hpop:∀ op:Op,((popOp E s H op).bind fun d=>k (putS s dst d) H)=((popOp E s H op).map fun d=>(d,H)).bind fun r=>k (putS s dst r.1) r.2:=by
  intro op; cases popOp E s H op <;> rfl
 have hbif:∀ (b:Bool) (p:Option D) (q:R),(bif b then p.bind (fun d=>k (putS s dst d) H) else q.bind fun r=>k (putS s dst r.1) r.2)=(bif b then p.map (fun d=>(d,H)) else q).bind fun r=>k (putS s dst r.1) r.2:=by
  intro b p q; cases b <;> cases p <;> rfl
 cases op
 case move x=>rfl
 case assign x=>rfl
 case pick c a b=>
  unfold doOp opRes
  dsimp only
  cases opnd s c <;> rfl
 case makeFunc fn first captured=>
  cases fn <;> try rfl
  rename_i g
  show (bif Nat.beq first.size 0 && (captured.toList.map (opnd s)).all D.isCell then _ else none)=Option.bind (bif Nat.beq first.size 0 && (captured.toList.map (opnd s)).all D.isCell then _ else none) _
  cases (Nat.beq first.size 0 && (captured.toList.map (opnd s)).all D.isCell) <;> rfl
 case alloc t=>
  show tyK E t _=Option.bind (Option.bind (E.ty t) _) _
  unfold tyK alloc_
  cases E.ty t with
  | none=>rfl
  | some y=>
   show (bif y.zero.all D.isCell then _ else none)=Option.bind (bif y.zero.all D.isCell then _ else none) _
   cases y.zero.all D.isCell <;> rfl
 case box t v=>
  unfold doOp opRes alloc_
  dsimp only
  cases (opnd s v).cells.all D.isCell <;> rfl
 case store t a x=>
  show Option.bind (store E H t (opnd s a) (opnd s x)) _=Option.bind (Option.map _ (store E H t (opnd s a) (opnd s x))) _
  cases store E H t (opnd s a) (opnd s x) <;> rfl
 case call c=>
  unfold doOp opRes
  dsimp only
  cases isPop E (.call c) with
  | true=>exact hpop _
  | false=>
   simp only [cond_false]
   cases c.callee with
   | value x=>
    dsimp only
    cases opnd s x <;> rfl
   | _=>rfl
 all_goals (unfold doOp opRes; dsimp only; exact hbif _ _ _)
theorem OR.list {s:Slots} {ρ:Operand→Value} (hO:OR j s ρ):∀ (l:List Operand),(l.map (opnd s)).all D.isCell=true→VRs j (l.map (opnd s)) (l.map ρ)
 | [],_=>.nil
 | x :: l,h=>by
  simp only [List.map_cons,List.all_cons,Bool.and_eq_true] at h
  refine .cons (hO x ?_) (hO.list l h.2)
  intro e
  rw [e] at h
  cases h.1
def Ran (P:Program) (o:Oper) (ρ:Operand→Value) (w:World) (v:Value) (w':World):Prop:=
 (execOp ρ o).run P w = .ok (.value v) w'∨((execOp ρ o).run P w = .ok .skip w'∧v=undef)
theorem sim_op (hE:EnvOk E P) {rec:FuncId→List Item→Slots→Heap→R} {f:FuncId} {s:Slots} {ρ:Operand→Value} (hO:OR j s ρ) (hK:∀ v,ρ (.const v)=v) (hH:HR j base H w) (hb:base≤w.heap.size)
  {o:Oper} {r:D×Heap} (hj:(writer E f o.op=true∨H.length < r.2.length)→j H.length=none) (h:opRes E rec f s H o.op=some r) (hnc:∀ c x,o.op = .call c→c.callee ≠ .value x) :
  ∃ v w',Ran P o ρ w v w'∧Step base j base H w r.1 r.2 v w'∧(writer E f o.op=false→Step w.heap.size j base H w r.1 r.2 v w'):=by
 have hq:∀ {v:Value} {w':World},Ran P o ρ w v w'→Step w.heap.size j base H w r.1 r.2 v w'→∃ v w',Ran P o ρ w v w'∧Step base j base H w r.1 r.2 v w'∧(writer E f o.op=false→Step w.heap.size j base H w r.1 r.2 v w'):=fun h1 h2=>⟨_,_,h1,h2.mono hb,fun _=>h2⟩
 have hself:∀ {d:D} {v:Value},(d ≠ .undef→VR j d v)→Step w.heap.size j base H w d H v w:=fun h=>⟨⟨j,Grows.refl _ _ _,h,hH,New.refl _ _⟩,Below.refl _ _⟩
 have hpop:∀ {op:Op},o.op=op→isPop E op=true→(popOp E s H op).map (fun d=>(d,H))=some r→∃ v w',Ran P o ρ w v w'∧Step base j base H w r.1 r.2 v w'∧(writer E f o.op=false→Step w.heap.size j base H w r.1 r.2 v w'):=by
  intro op e hp h
  obtain ⟨d,hd,rfl⟩:=Option.map_eq_some_iff.mp h
  subst e
  obtain ⟨v,h1,h2⟩:=sim_pop hE hO hK hH hd hp
  exact hq (.inl h2) (hself h1)
 obtain ⟨dst,op,type,pos,after,guard⟩:=o
 dsimp only at h hnc
 cases op
 case move x=>cases h; exact hq (v:=ρ x) (.inl rfl) (hself (hO x))
 case assign x=>cases h; exact hq (v:=ρ x) (.inl rfl) (hself (hO x))
 case pick c a b=>
  unfold opRes at h
  dsimp only at h
  split at h
  ·rename_i t ht
   have hc:=hO c (by rw [ht]; simp)
   rw [ht] at hc
   cases h
   have hcv:ρ c = .bool t:=by generalize ρ c=z at hc; cases hc; rfl
   refine hq (v:=if t=true then ρ a else ρ b) (w':=w) (.inl ?_) (hself ?_)
   ·simp only [execOp,hcv]
    cases t <;> simp [asBool]
   ·cases t
    ·simpa using hO b
    ·simpa using hO a
  ·cases h
 case makeFunc fn first captured=>
  cases fn <;> try (cases h; done)
  rename_i g
  unfold opRes at h
  dsimp only at h
  cases hc:(Nat.beq first.size 0 && (captured.toList.map (opnd s)).all D.isCell) with
  | false=>rw [hc] at h; cases h
  | true=>
   rw [hc] at h
   cases h
   obtain ⟨h1,h2⟩:=Bool.and_eq_true_iff.mp hc
   have h1:=Nat.eq_of_beq_eq_true h1
   have:first = #[]:=Array.eq_empty_of_size_eq_zero h1
   subst this
   refine hq (v:=.func (.func g) #[] (captured.toList.map ρ).toArray) (w':=w) (.inl ?_) (hself fun _=>.fn (hO.list _ h2))
   simp [execOp,Instr.makeFunc]
   apply Array.ext'
   simp
 case alloc t=>
  unfold opRes at h
  dsimp only at h
  replace h:=Option.bind_eq_some_iff.mp h
  obtain ⟨y,hy,h⟩:=h
  cases hc:y.zero.all D.isCell with
  | false=>rw [hc] at h; cases h
  | true=>
   rw [hc] at h
   cases h
   obtain ⟨ti,td,hti,hd,hty⟩:=ty_kd hE hy
   have hz:=(tyD_size hty).2.2
   rw [hz] at hc
   obtain ⟨z,hz0,hzd,hzv⟩:=zeroD_some (j:=j) hc
   simp only [hz] at hq ⊢
   refine hq (.inl ?_) (sim_new hH hb (hj (.inr (by simp))) hc hzv t)
   simp [execOp,Instr.alloc,zeroValue,typeInfo,hti,hz0,newVar,newRow]
 case box t v=>
  unfold opRes at h
  dsimp only at h
  cases hc:(opnd s v).cells.all D.isCell with
  | false=>rw [hc] at h; cases h
  | true=>
   rw [hc] at h
   cases h
   have hv:=hO v (by intro e; rw [e] at hc; cases hc)
   refine hq (.inl ?_) (sim_new hH hb (hj (.inr (by simp))) hc hv.cells.2 t)
   simp [execOp,Instr.box,newVar,newRow]
 case store t a x=>
  unfold opRes at h
  dsimp only at h
  obtain ⟨H',hs,rfl⟩:=Option.map_eq_some_iff.mp h
  have hane:opnd s a ≠ .undef:=by
   intro e; rw [e] at hs
   obtain ⟨q,_,hs⟩:=Option.bind_eq_some_iff.mp hs
   cases hs
  have hxne:opnd s x ≠ .undef:=by
   intro e; rw [e] at hs
   obtain ⟨q,_,hs⟩:=Option.bind_eq_some_iff.mp hs
   unfold st at hs
   split at hs
   ·obtain ⟨blk,_,hs⟩:=Option.bind_eq_some_iff.mp hs
    split at hs
    ·rename_i hc; cases hc.2
    ·cases hs
   ·cases hs
  obtain ⟨w',h1,h2,h3,h4⟩:=sim_store hE hH hs (hO a hane) (hO x hxne)
  refine ⟨undef,w',.inr ⟨?_,rfl⟩,⟨⟨j,Grows.refl _ _ _,fun h=>absurd rfl h,h2,New.refl _ _⟩,h3⟩,fun hw=>by cases hw⟩
  simp only [execOp,Sem.run_bind,h1,Result.andThen_ok,Sem.run_pure]
 case buildSlice t n ps=>
  obtain ⟨v,w',h1,h2⟩:=sim_buildSlice hE hH hb (fun g=>hj (.inr g)) hO h
  exact hq (.inl (run_v h1)) h2
 case makeSlice t l c=>
  obtain ⟨v,w',h1,h2⟩:=sim_makeSlice hE hH hb (fun g=>hj (.inr g)) (hO l) (hO c) h
  exact hq (.inl (run_v h1)) h2
 case convert a b x=>
  unfold opRes at h
  dsimp only at h
  cases hp:isPop E (.convert a b x) with
  | true=>rw [hp] at h; exact hpop rfl hp h
  | false=>
   rw [hp] at h
   simp only [cond_false] at h
   have hx:=hO x (by
    intro e
    replace h:convert E H a b (opnd s x)=some r:=h
    rw [e] at h
    obtain ⟨q,_,h⟩:=Option.bind_eq_some_iff.mp h
    obtain ⟨q,_,h⟩:=Option.bind_eq_some_iff.mp h
    split at h <;> cases h)
   obtain ⟨v,w',h1,h2⟩:=sim_convert hE hH hb (fun g=>hj (.inr g)) hx h
   exact hq (.inl (run_v h1)) h2
 case call c=>
  unfold opRes at h
  dsimp only at h
  cases hp:isPop E (.call c) with
  | true=>rw [hp] at h; exact hpop rfl hp h
  | false=>
   rw [hp] at h
   simp only [cond_false] at h
   obtain ⟨callee,args,argTypes⟩:=c
   cases callee with
   | value x=>exact absurd rfl (hnc _ x rfl)
   | invoke a b=>cases h
   | builtin bb=>
    cases bb <;> try (cases h; done)
    all_goals unfold stepOp at h; dsimp only at h
    case clear=>
     split at h
     ·rename_i x t ha ht
      have hxne:opnd s x ≠ .undef:=by
       intro e; rw [e] at h
       obtain ⟨q,_,h⟩:=Option.bind_eq_some_iff.mp h
       cases hq:q.isSl with
       | false=>rw [hq] at h; cases h
       | true=>rw [hq] at h; cases h
      obtain ⟨w',h1,h2⟩:=sim_clear (ty:=type) hE hH h (hO x hxne)
      have ha':args = #[x]:=by apply Array.ext'; simpa using ha
      have ht':argTypes = #[t]:=by apply Array.ext'; simpa using ht
      subst ha' ht'
      refine ⟨_,w',.inl ?_,h2,fun hw=>by cases hw⟩
      simp only [execOp,resolve,Sem.run_bind,Sem.run_pure,Result.andThen_ok,invoke,builtin]
      simp [h1]
     ·cases h
    case max=>
     split at h
     ·rename_i x y ha
      obtain ⟨d,hd,rfl⟩:=Option.map_eq_some_iff.mp h
      have hxne:opnd s x ≠ .undef:=by intro e; rw [e] at hd; cases hd
      have hyne:opnd s y ≠ .undef:=by intro e; rw [e] at hd; cases hox:opnd s x <;> rw [hox] at hd <;> cases hd
      have hx:=hO x hxne
      have hy:=hO y hyne
      unfold maxI at hd
      split at hd
      ·rename_i k a k' b e1 e2
       cases hd
       rw [e1] at hx
       rw [e2] at hy
       have ha':args = #[x,y]:=by apply Array.ext'; simpa using ha
       subst ha'
       have vx:ρ x = .int k a:=by generalize ρ x=z at hx; cases hx; rfl
       have vy:ρ y = .int k' b:=by generalize ρ y=z at hy; cases hy; rfl
       refine hq (v:=.int k (if b > a then b else a)) (w':=w) (.inl ?_) (hself fun _=>.int _ _)
       simp only [execOp,resolve,Sem.run_bind,Sem.run_pure,Result.andThen_ok,invoke,builtin]
       simp [vx,vy,Builtin.max_,Builtin.max2]
      ·cases hd
     ·cases h
    split at h
    ·rename_i a x t u ha ht
     generalize hbb:Option.any _ (E.ty u)=bb at h
     cases bb with
     | false=>cases h
     | true=>
      simp only [cond_true] at h
      obtain ⟨z,hz⟩:∃ z,E.ty u=some z:=by
       cases hz:E.ty u with
       | none=>rw [hz] at hbb; cases hbb
       | some z=>exact ⟨z,rfl⟩
      rw [hz] at hbb
      obtain ⟨ui,ud,hui,hud,hut⟩:=ty_kd hE hz
      have hdi:∀ k,ud ≠ .int k:=by
       rintro k rfl
       simp only [tyD] at hut
       cases hut
       cases hbb
      have hane:opnd s a ≠ .undef:=by
       intro e; rw [e] at h
       obtain ⟨q,_,h⟩:=Option.bind_eq_some_iff.mp h
       cases hq:q.isSl with
       | false=>rw [hq] at h; cases h
       | true=>
        rw [hq] at h
        simp only [cond_true] at h
        unfold app at h
        obtain ⟨q,_,h⟩:=Option.bind_eq_some_iff.mp h
        split at h <;> cases h
      have hxne:opnd s x ≠ .undef:=by
       intro e; rw [e] at h
       obtain ⟨q,_,h⟩:=Option.bind_eq_some_iff.mp h
       cases hq:q.isSl with
       | false=>rw [hq] at h; cases h
       | true=>rw [hq] at h; cases h
      obtain ⟨v,w',h1,h2⟩:=sim_append (ty:=type) hE hH hb (hj (.inl rfl)) (hO a hane) (hO x hxne) hud hdi h
      have ha':args = #[a,x]:=by apply Array.ext'; simpa using ha
      have ht':argTypes = #[t,u]:=by apply Array.ext'; simpa using ht
      subst ha' ht'
      refine ⟨v,w',.inl ?_,h2,fun hw=>by cases hw⟩
      simp only [execOp,resolve,Sem.run_bind,Sem.run_pure,Result.andThen_ok,invoke,builtin]
      simp [h1]
    ·cases h
 all_goals first | exact hpop rfl rfl h | (cases h; done)
end Go.Ev
namespace Go.Ev
open Go.RowKit
set_option linter.unusedVariables false
set_option linter.unusedSimpArgs false
variable {E:Env} {P:Program} {j:Inj} {base:Nat} {H:Heap} {w:World}
def Fresh (j:Inj) (n:Nat):Prop:=∀ b,n≤b→j b=none
structure Stp (base:Nat) (j:Inj) (H:Heap) (w:World) (d:D) (H':Heap) (v:Value) (w':World):Prop where
 step:Step0 base j base H w d H' v w'
 len:H.length≤H'.length
theorem Grows.trans {j k l:Inj} {n m q:Nat} (h:Grows j k n m) (h':Grows k l m q) (h1:n≤m) (h2:m≤q):Grows j l n q:=
 ⟨h.ext.trans h'.ext,fun b hb=>(h'.same b (by omega)).trans (h.same b (by omega))⟩
theorem NewZ.trans {B:Nat} {j k l:Inj} (h:NewZ B j k) (h':NewZ B k l) (he:Ext k l):NewZ B j l:=fun b p h1 h2=>by
 cases hk:k.fz b with
 | none=>exact h' b p hk h2
 | some q=>have:=he.fz b q hk; rw [h2] at this; cases this; exact h b p h1 hk
theorem New.trans {B:Nat} {j k l:Inj} (h:New B j k) (h':New B k l) (he:Ext k l):New B j l:=⟨fun b p h1 h2=>by
 cases hk:k b with
 | none=>exact h'.pl b p hk h2
 | some q=>have:=he.pl b q hk; rw [h2] at this; cases this; exact h.pl b p h1 hk,h.fz.trans h'.fz he⟩
theorem Fresh.grow {j k:Inj} {n m:Nat} (hf:Fresh j n) (h:Grows j k n m) (h1:n≤m):Fresh k m:=
 fun b hb=>(h.same b (.inr hb)).trans (hf b (by omega))
theorem opRes_len {rec:FuncId→List Item→Slots→Heap→R} {f:FuncId} {s:Slots} {op:Op} {r:D×Heap} (h:opRes E rec f s H op=some r) (hnc:∀ c x,op = .call c→c.callee ≠ .value x):H.length≤r.2.length:=by
 have hpop:∀ {op:Op},(popOp E s H op).map (fun d=>(d,H))=some r→H.length≤r.2.length:=by
  intro op h
  obtain ⟨d,_,rfl⟩:=Option.map_eq_some_iff.mp h
  exact Nat.le_refl _
 cases op
 case move x=>cases h; exact Nat.le_refl _
 case assign x=>cases h; exact Nat.le_refl _
 case pick c a b=>
  unfold opRes at h
  dsimp only at h
  split at h <;> cases h
  exact Nat.le_refl _
 case makeFunc fn first captured=>
  cases fn <;> try (cases h; done)
  unfold opRes at h
  dsimp only at h
  cases hc:(Nat.beq first.size 0 && (captured.toList.map (opnd s)).all D.isCell) <;> rw [hc] at h <;> cases h
  exact Nat.le_refl _
 case alloc t=>
  unfold opRes at h
  dsimp only at h
  obtain ⟨y,_,h⟩:=Option.bind_eq_some_iff.mp h
  cases hc:y.zero.all D.isCell <;> rw [hc] at h <;> cases h
  simp
 case box t v=>
  unfold opRes at h
  dsimp only at h
  cases hc:(opnd s v).cells.all D.isCell <;> rw [hc] at h <;> cases h
  simp
 case store t a x=>
  unfold opRes at h
  dsimp only at h
  obtain ⟨H',hs,rfl⟩:=Option.map_eq_some_iff.mp h
  obtain ⟨q,_,hs⟩:=Option.bind_eq_some_iff.mp hs
  unfold st at hs
  split at hs
  ·obtain ⟨blk,_,hs⟩:=Option.bind_eq_some_iff.mp hs
   split at hs
   ·obtain ⟨row,_,hs⟩:=Option.bind_eq_some_iff.mp hs
    obtain ⟨r,_,rfl⟩:=Option.map_eq_some_iff.mp hs
    simp
   ·cases hs
  ·cases hs
 case buildSlice t n ps=>
  obtain ⟨q,_,h⟩:=Option.bind_eq_some_iff.mp (show buildSlice E H t n (parts s ps)=some r from h)
  cases hq:q.isSl <;> rw [hq] at h
  ·cases h
  ·simp only [cond_true] at h
   unfold bsl at h
   split at h
   ·obtain ⟨rows,_,rfl⟩:=Option.map_eq_some_iff.mp h
    split <;> simp
   ·cases h
 case makeSlice t l c=>
  obtain ⟨q,_,h⟩:=Option.bind_eq_some_iff.mp (show makeSlice E H t (opnd s l) (opnd s c)=some r from h)
  cases hq:q.isSl <;> rw [hq] at h
  ·cases h
  ·simp only [cond_true] at h
   unfold mks at h
   split at h
   ·split at h
    ·cases h; simp
    ·cases h
   ·cases h
 case convert a b x=>
  unfold opRes at h
  dsimp only at h
  cases hp:isPop E (.convert a b x) with
  | true=>rw [hp] at h; exact hpop h
  | false=>
   rw [hp] at h
   simp only [cond_false] at h
   replace h:convert E H a b (opnd s x)=some r:=h
   obtain ⟨q,_,h⟩:=Option.bind_eq_some_iff.mp h
   obtain ⟨q',_,h⟩:=Option.bind_eq_some_iff.mp h
   split at h
   ·unfold cSS at h
    split at h <;> cases h
    exact Nat.le_refl _
   ·unfold cSB at h
    split at h
    ·split at h <;> cases h
     simp
    ·cases h
   ·unfold cBS at h
    split at h
    ·cases h; exact Nat.le_refl _
    ·obtain ⟨_,_,h⟩:=Option.bind_eq_some_iff.mp h
     obtain ⟨_,_,h⟩:=Option.bind_eq_some_iff.mp h
     cases h; exact Nat.le_refl _
    ·obtain ⟨_,_,h⟩:=Option.bind_eq_some_iff.mp h
     cases h; exact Nat.le_refl _
    ·cases h
   ·cases h
 case call c=>
  unfold opRes at h
  dsimp only at h
  cases hp:isPop E (.call c) with
  | true=>rw [hp] at h; exact hpop h
  | false=>
   rw [hp] at h
   simp only [cond_false] at h
   obtain ⟨callee,args,argTypes⟩:=c
   cases callee with
   | value x=>exact absurd rfl (hnc _ x rfl)
   | invoke a b=>cases h
   | builtin bb=>
    cases bb <;> try (cases h; done)
    all_goals unfold stepOp at h; dsimp only at h
    case clear=>
     split at h
     ·obtain ⟨q,_,h⟩:=Option.bind_eq_some_iff.mp h
      cases hq:q.isSl <;> rw [hq] at h
      ·cases h
      ·simp only [cond_true] at h
       unfold clr at h
       split at h
       ·cases h; exact Nat.le_refl _
       ·split at h
        ·cases h; exact Nat.le_refl _
        ·obtain ⟨_,_,h⟩:=Option.bind_eq_some_iff.mp h
         split at h <;> cases h
         simp
       ·cases h
     ·cases h
    case max=>
     split at h
     ·obtain ⟨d,hd,rfl⟩:=Option.map_eq_some_iff.mp h
      exact Nat.le_refl _
     ·cases h
    split at h
    ·generalize Option.any _ (E.ty _)=bb at h
     cases bb with
     | false=>cases h
     | true=>
      simp only [cond_true] at h
      obtain ⟨q,_,h⟩:=Option.bind_eq_some_iff.mp h
      cases hq:q.isSl <;> rw [hq] at h
      ·cases h
      ·simp only [cond_true] at h
       unfold app at h
       obtain ⟨_,_,h⟩:=Option.bind_eq_some_iff.mp h
       split at h
       ·split at h
        ·split at h
         ·cases h; exact Nat.le_refl _
         ·split at h <;> cases h
          simp
        ·obtain ⟨_,_,h⟩:=Option.bind_eq_some_iff.mp h
         split at h <;> cases h
         simp
        ·cases h
       ·cases h
    ·cases h
 all_goals first | exact hpop h | (cases h; done)
def ARs (j:Inj) (ds:List D) (vs:List Value):Prop:=ds.length=vs.length∧∀ (i:Nat) d v,ds[i]? = some d→vs[i]? = some v→d ≠ .undef→VR j d v
def CallR (P:Program) (g:FuncId) (vs:Array Value) (w:World) (R:Value→World→Prop):Prop:=
 (∃ v w',(callFunc g vs).run P w = .ok (.value v) w'∧R v w') ∨
 ((callFunc g vs).run P w = .ok (.enter g vs) w∧Calls P g vs w fun e w'=>∃ v,e = .returned v∧R v w')
def Mode.isW:Mode→Bool
 | .raw | .view=>true
 | _=>false
def CallOk (E:Env) (P:Program) (rec:FuncId→List Item→Slots→Heap→R):Prop:=
 ∀ m g ds H r,callFn E rec m g ds H=some r→∀ (j:Inj) (base:Nat) (w:World) (vs:List Value),ARs j ds vs→HR j base H w→(∀ b,H.length≤b→(m.isW=true∨b < r.2.length)→j b=none)→base≤w.heap.size →
  CallR P g vs.toArray w fun v w'=>Stp base j H w r.1 r.2 v w'∧(m.isW=false→Step w.heap.size j base H w r.1 r.2 v w')
theorem OR.args {s:Slots} {ρ:Operand→Value} (hO:OR j s ρ) (l:List Operand) {cap:List D} {vs:List Value} (hc:VRs j cap vs):ARs j (l.map (opnd s)++cap) (l.map ρ++vs):=by
 refine ⟨by simp [hc.length],fun i d v h1 h2 hne=>?_⟩
 rcases Nat.lt_or_ge i l.length with hi | hi
 ·rw [List.getElem?_append_left (by simpa using hi),List.getElem?_map,List.getElem?_eq_getElem hi] at h1 h2
  cases h1; cases h2
  exact hO _ hne
 ·rw [List.getElem?_append_right (by simpa using hi)] at h1 h2
  simp only [List.length_map] at h1 h2
  obtain ⟨v',h3,h4⟩:=hc.get h1
  rw [h3] at h2; cases h2; exact h4
theorem yielded_of {ops:Array Oper} {g t:Nat} {tmps:Array Value} (hg:gslot ops g=some t) {b:Bool} (hv:tmps.getD t undef = .bool b):yielded ops tmps g=some b:=by
 unfold gslot at hg
 unfold yielded
 cases ho:ops[g]? with
 | none=>rw [ho] at hg; cases hg
 | some o=>
  rw [ho] at hg
  simp only at hg
  have hlt:t < tmps.size:=by
   rcases Nat.lt_or_ge t tmps.size with h | h
   ·exact h
   ·simp [Array.getElem?_eq_none h,undef] at hv
  simp [hg,hlt] at hv ⊢
  simp [hv]
theorem yielded_none {ops:Array Oper} {g t:Nat} {tmps:Array Value} (hg:gslot ops g=some t) (hv:tmps.getD t undef=undef):yielded ops tmps g=none:=by
 unfold gslot at hg
 unfold yielded
 cases ho:ops[g]? with
 | none=>rw [ho] at hg; cases hg
 | some o=>
  rw [ho] at hg
  simp only at hg
  rcases Nat.lt_or_ge t tmps.size with h | h
  ·simp [hg,h] at hv ⊢
   simp [hv,undef]
  ·simp [hg,Array.getElem?_eq_none h]
theorem slot_cons_same {s:Slots} {t:Nat} {d:D} (h:slot s t=d):∀ k,slot ((t,d) :: s) k=slot s k:=by
 intro k
 show (bif Nat.beq t k then d else slot s k)=_
 cases e:Nat.beq t k with
 | true=>rw [← Nat.eq_of_beq_eq_true e,h]; rfl
 | false=>rfl
def SkOk (sk:List Nat) (s:Slots):Prop:=∀ t ∈ sk,slot s t = .tup []
theorem SkOk.nil (s:Slots):SkOk [] s:=fun t h=>by cases h
theorem SkOk.unsk {sk:List Nat} {s:Slots} (h:SkOk sk s) (dst:Option Nat) (v:D):SkOk (unsk dst sk) (putS s dst v):=by
 intro t ht
 cases dst with
 | none=>exact h t ht
 | some d=>
  simp only [Ev.unsk,List.mem_filter] at ht
  have hne:t ≠ d:=by
   intro e; subst e
   have:=ht.2
   simp at this
  rw [slot_putS,if_neg (fun e=>hne e.symm)]
  exact h t ht.1
theorem SkOk.insk {sk:List Nat} {s:Slots} (h:SkOk sk s) (dst:Option Nat):SkOk (insk dst sk) (putS s dst (.tup [])):=by
 intro t ht
 cases dst with
 | none=>exact h t ht
 | some d=>
  rw [slot_putS]
  by_cases e:d=t
  ·rw [if_pos e]
  ·rw [if_neg e]
   rcases List.mem_cons.mp ht with rfl | ht
   ·exact absurd rfl e
   ·exact h t ht
theorem SkOk.congr {sk:List Nat} {s s':Slots} (h:SkOk sk s) (he:∀ t ∈ sk,slot s' t=slot s t):SkOk sk s':=fun t ht=>(he t ht).trans (h t ht)
theorem VR.undef_of {j:Inj} {v:Value} (h:VR j (.tup []) v):v=undef:=by
 cases h with
 | tup hl h=>
  rename_i vs
  have:vs=[]:=List.length_eq_zero_iff.mp hl.symm
  subst this; rfl
theorem VR.of_undef (j:Inj):VR j (.tup []) undef:=VR.tup (vs:=[]) rfl fun i d v h=>by simp at h
theorem rechk_some {ops:Array Oper} {s:Slots} {H:Heap} {k:R} {q:D×Heap}:∀ {l:List Nat},rechk E ops s H k l=some q→k=some q
 | [],h=>h
 | j :: js,h=>by
  unfold rechk at h
  split at h
  ·split at h
   ·obtain ⟨v,_,h⟩:=Option.bind_eq_some_iff.mp h
    unfold again at h
    cases hs:sameD v (slot s _) <;> rw [hs] at h
    ·cases h
    ·exact rechk_some h
   ·cases h
  ·cases h
theorem sim_evOps (hE:EnvOk E P) {rec:FuncId→List Item→Slots→Heap→R} (hrec:CallOk E P rec) {f:FuncId} {nt:Nat} {ops:Array Oper} {fl:Nat→List Nat} (hdst:dstOk nt ops.toList=true) {k:Slots→Heap→R} {q:D×Heap}
  {j0:Inj} {H0:Heap} {w0:World} {df:List Deferred} {Q:Exit→Act→World→Prop}
  (hQ:∀ a j s H w,k s H=some q→SR j nt s a.tmps→a.defers=df→HR j base H w→Grows j0 j H0.length H.length→H0.length≤H.length→Below base w0 w→NewZ base j0 j→Fresh j H.length→base≤w.heap.size→Q .normal a w) :
  ∀ (l:List Nat) (sk:List Nat) (a:Act) (j:Inj) (s:Slots) (H:Heap) (w:World),evOps E rec f ops fl l sk s H k=some q→SkOk sk s→SR j nt s a.tmps→a.defers=df→HR j base H w→Grows j0 j H0.length H.length→H0.length≤H.length→Below base w0 w→NewZ base j0 j →
   Fresh j H.length→base≤w.heap.size→wpOps P ops Q l a w:=by
 intro l
 induction l with
 | nil=>
  intro sk a j s H w h hK hS hd hH hG hL hB hN hF hb
  exact hQ a j s H w h hS hd hH hG hL hB hN hF hb
 | cons i l ih=>
  intro sk a j s H w h hK hS hd hH hG hL hB hN hF hb
  unfold evOps at h
  simp only [wpOps]
  cases ho:ops[i]? with
  | none=>rw [ho] at h; cases h
  | some o=>
   rw [ho] at h
   simp only at h ⊢
   have hdo:∀ d,o.dst=some d→d < nt:=by
    intro d hd
    have:=(List.all_eq_true.mp hdst) o (by simpa using Array.mem_of_getElem? ho)
    rw [hd] at this
    simpa using this
   -- the operation is done
   have hdone:∀ s:Slots,SR j nt s a.tmps→SkOk sk s→doOp E rec f o s H (fun s H=>rechk E ops s H (evOps E rec f ops fl l (unsk o.dst sk) s H k) (fl i))=some q→o.wp P a w (wpOps P ops Q l) Q:=by
    intro s hS hK h
    rw [doOp_res] at h
    obtain ⟨r,hr,h⟩:=Option.bind_eq_some_iff.mp h
    have h:=rechk_some h
    have hO:=hS.or
    have hnext:∀ v w',Stp base j H w r.1 r.2 v w'→wpOps P ops Q l (a.put o.dst v) w':=by
     intro v w' hst
     obtain ⟨⟨⟨j',g1,g2,g3,g6⟩,g4⟩,g5⟩:=hst
     refine ih _ (a.put o.dst v) j' _ _ w' h (hK.unsk _ _) ((hS.mono g1.ext).put hdo g2) ?_ g3 (hG.trans g1 hL g5) (by omega) (hB.trans g4) (hN.trans g6 g1.ext) (hF.grow g1 g5) (Nat.le_trans hb g4.size)
     rw [← hd]; unfold Act.put; split <;> rfl
    unfold Oper.wp
    by_cases hc:∃ c x,o.op = .call c∧c.callee = .value x
    ·obtain ⟨c,x,hc1,hc2⟩:=hc
     rw [hc1] at hr
     unfold opRes at hr
     have hp:isPop E (.call c)=false:=by obtain ⟨cc,ca,ct⟩:=c; cases hc2; rfl
     simp only [hp,cond_false,hc2] at hr
     split at hr
     ·rename_i g cap hx
      have hv:=hO x (by rw [hx]; simp)
      rw [hx] at hv
      generalize hxv:a.eval x=xv at hv
      cases hv with
      | fn hcap=>
       rename_i vs
       have hC:=hrec _ g _ H r hr j base w _ (hO.args c.args.toList hcap) hH (fun b h1 _=>hF b h1) hb
       have hex:(execOp a.eval o).run P w=(callFunc g (c.args.toList.map a.eval++vs).toArray).run P w:=by
        obtain ⟨dst,op,type,pos,after,guard⟩:=o
        cases hc1
        simp only [execOp,resolve,hc2,hxv,Deferred.ofValue,Sem.run_bind,Sem.run_pure,Result.andThen_ok,invoke]
        congr 2
        apply Array.ext'
        simp
       rw [hex]
       rcases hC with ⟨v,w',h1,h2⟩ | ⟨h1,h2⟩
       ·rw [h1]; exact hnext v w' h2.1
       ·rw [h1]
        rw [Oper.upon_enter]
        refine Calls.mono h2 ?_
        rintro e w' ⟨v,rfl,h3⟩
        exact hnext v w' h3.1
     ·cases hr
    ·have hnc:∀ c x,o.op = .call c→c.callee ≠ .value x:=fun c x h1 h2=>hc ⟨c,x,h1,h2⟩
     obtain ⟨v,w',h1,h2,-⟩:=sim_op hE hO (fun _=>rfl) hH hb (fun _=>hF _ (Nat.le_refl _)) hr hnc
     have h3:=hnext v w' ⟨h2.weak,opRes_len hr hnc⟩
     rcases h1 with h1 | ⟨h1,rfl⟩
     ·rw [h1]; exact h3
     ·rw [h1]; exact h3
   have hskip:∀ s:Slots,SR j nt s a.tmps→SkOk sk s→evOps E rec f ops fl l (insk o.dst sk) (putS s o.dst (.tup [])) H k=some q→wpOps P ops Q l (a.put o.dst undef) w:=by
    intro s hS hK h
    refine ih _ (a.put o.dst undef) j _ _ w h (hK.insk _) (hS.put hdo fun _=>VR.of_undef j) ?_ hH hG hL hB hN hF hb
    rw [← hd]; unfold Act.put; split <;> rfl
   cases hg:o.guard with
   | none=>
    rw [hg] at h
    simp only at h
    have hw:Region.wanted o (yielded ops a.tmps)=true:=by unfold Region.wanted; rw [hg]
    rw [hw,if_pos rfl]
    exact .inl (hdone s hS hK h)
   | some gw=>
    obtain ⟨g,want⟩:=gw
    rw [hg] at h
    simp only at h
    cases ht:gslot ops g with
    | none=>rw [ht] at h; cases h
    | some t=>
     rw [ht] at h
     simp only at h
     cases hsk:sk.any (Nat.beq t) with
     | true=>
      rw [hsk] at h
      simp only [cond_true] at h
      obtain ⟨t',ht',hbq⟩:=List.any_eq_true.mp hsk
      have:t=t':=Nat.eq_of_beq_eq_true hbq
      subst this
      have hsl:=hK t ht'
      have hv:=hS.2 t (by rw [hsl]; simp)
      rw [hsl] at hv
      have hu:=hv.undef_of
      have hy:=yielded_none ht hu
      have hw:Region.wanted o (yielded ops a.tmps)=false:=by
       unfold Region.wanted
       rw [hg]
       simp only [hy]
       rfl
      rw [hw,if_neg (by decide)]
      exact hskip _ hS hK h
     | false=>
     rw [hsk] at h
     simp only [cond_false] at h
     unfold asB at h
     split at h
     ·rename_i b hb'
      have hv:=hS.2 t (by rw [hb']; simp)
      rw [hb'] at hv
      generalize hxv:a.tmps.getD t undef=xv at hv
      cases hv
      have hy:=yielded_of ht hxv
      have hK':∀ b,slot s t = .bool b→SkOk sk ((t,.bool b) :: s):=fun b hb=>hK.congr fun k _=>slot_cons_same hb k
      have hS':∀ b,slot s t = .bool b→SR j nt ((t,.bool b) :: s) a.tmps:=fun b hb=>hS.congr fun k _=>slot_cons_same hb k
      have hw:Region.wanted o (yielded ops a.tmps)=(b == want):=by
       unfold Region.wanted
       rw [hg]
       simp only [hy]
       cases b <;> cases want <;> rfl
      rw [hw]
      cases want <;> cases b <;> simp only [cond_true,cond_false] at h ⊢
      ·rw [if_pos (by decide)]; exact .inl (hdone _ (hS' _ hb') (hK' _ hb') h)
      ·rw [if_neg (by decide)]; exact hskip _ (hS' _ hb') (hK' _ hb') h
      ·rw [if_neg (by decide)]; exact hskip _ (hS' _ hb') (hK' _ hb') h
      ·rw [if_pos (by decide)]; exact .inl (hdone _ (hS' _ hb') (hK' _ hb') h)
     ·cases h
end Go.Ev
namespace Go.Ev
open Go.RowKit
set_option linter.unusedVariables false
set_option linter.unusedSimpArgs false
variable {E:Env} {P:Program} {j:Inj} {base:Nat} {H:Heap} {w:World}
def resV (tmps:Array Value):ResultVar→Sem Value
 | .tmp t=>pure (tmps.getD t undef)
 | .cell a t=>do loadVar t (← asAddr (tmps.getD a undef))
theorem sim_res (hE:EnvOk E P) (hH:HR j base H w) {nt:Nat} {s:Slots} {tmps:Array Value} (hS:SR j nt s tmps):∀ (l:List ResultVar) {ds:List D},optAll id (l.map (resOf E s H))=some ds →
  ∃ vs:List Value,(l.mapM (resV tmps)).run P w = .ok vs w∧ds.length=vs.length∧∀ (i:Nat) d v,ds[i]? = some d→vs[i]? = some v→d ≠ .undef→VR j d v
 | [],ds,h=>by
  cases h
  exact ⟨[],by simp,rfl,fun i d v h=>by simp at h⟩
 | x :: l,ds,h=>by
  obtain ⟨d,hd,h⟩:=Option.bind_eq_some_iff.mp h
  obtain ⟨ds',hds,h⟩:=Option.bind_eq_some_iff.mp h
  cases h
  obtain ⟨vs,h1,h2,h3⟩:=sim_res hE hH hS l hds
  have hx:∃ v,(resV tmps x).run P w = .ok v w∧(d ≠ .undef→VR j d v):=by
   cases x with
   | tmp t=>cases hd; exact ⟨_,rfl,hS.2 t⟩
   | cell a t=>
    have hne:slot s a ≠ .undef:=by
     intro e
     replace hd:load E H t (slot s a)=some d:=hd
     rw [e] at hd
     obtain ⟨q,_,hd⟩:=Option.bind_eq_some_iff.mp hd
     cases hd
    have hv:=hS.2 a hne
    obtain ⟨u,u1,u2⟩:=sim_load hE hH hd hv
    refine ⟨u,?_,fun _=>u1⟩
    have hp:∃ ad,tmps.getD a undef = .pointer (some ad):=by
     replace hd:load E H t (slot s a)=some d:=hd
     obtain ⟨q,_,hd⟩:=Option.bind_eq_some_iff.mp hd
     unfold ld at hd
     split at hd
     ·rename_i hq
      rw [hq] at hv
      generalize tmps.getD a undef=z at hv
      cases hv
      exact ⟨_,rfl⟩
     ·rename_i hq
      rw [hq] at hv
      generalize tmps.getD a undef=z at hv
      cases hv
      exact ⟨_,rfl⟩
     ·cases hd
    obtain ⟨ad,had⟩:=hp
    rw [had] at u2
    unfold resV
    simp only [had]
    simpa [Instr.loadAt,Instr.sureAddr,asAddr] using u2
  obtain ⟨v,v1,v2⟩:=hx
  refine ⟨v :: vs,by simp only [List.mapM_cons,Sem.run_bind,v1,Result.andThen_ok,h1,Sem.run_pure],by simp [h2],fun i d' v' g1 g2 g3=>?_⟩
  cases i with
  | zero=>simp at g1 g2; subst g1 g2; exact v2 g3
  | succ i=>exact h3 i d' v' (by simpa using g1) (by simpa using g2) g3
theorem sim_ret (hE:EnvOk E P) (hH:HR j base H w) {nt:Nat} {s:Slots} {tmps:Array Value} (hS:SR j nt s tmps) {fn:Func} {q:D×Heap} (h:ret_ H (fn.results.toList.map (resOf E s H))=some q) :
  ∃ v,(results fn tmps).run P w = .ok v w∧(q.1 ≠ .undef→VR j q.1 v)∧q.2=H:=by
 obtain ⟨ds,hds,h⟩:=Option.bind_eq_some_iff.mp h
 cases h
 obtain ⟨vs,h1,h2,h3⟩:=sim_res (P:=P) hE hH hS fn.results.toList hds
 have hrun:(results fn tmps).run P w = .ok (if h:vs.toArray.size=1 then vs.toArray[0] else .tuple vs.toArray) w:=by
  have he:results fn tmps=(do let vs ← fn.results.mapM (resV tmps); pure (if h:vs.size=1 then vs[0] else .tuple vs)):=by
   unfold results
   congr 1
  rw [he,Array.mapM_eq_mapM_toList]
  simp only [Sem.run_bind,map_eq_pure_bind,h1,Result.andThen_ok,Sem.run_pure]
 refine ⟨_,hrun,?_,rfl⟩
 rcases vs with _ | ⟨v,_ | ⟨v',vs⟩⟩
 ·have:ds=[]:=List.length_eq_zero_iff.mp h2
  subst this
  exact fun _=>.tup rfl h3
 ·obtain ⟨d,rfl⟩:∃ d,ds=[d]:=by
   rcases ds with _ | ⟨d,_ | ⟨d',ds⟩⟩
   ·simp at h2
   ·exact ⟨d,rfl⟩
   ·simp at h2
  exact fun hne=>h3 0 d v rfl rfl hne
 ·rcases ds with _ | ⟨d,_ | ⟨d',ds⟩⟩
  ·simp at h2
  ·simp at h2
  ·intro _
   exact .tup h2 h3
theorem slot_restrict_some (s:Slots) (t:Nat):∀ keep:List Nat,slot (restrict s keep) t ≠ .undef→slot (restrict s keep) t=slot s t
 | [],h=>absurd rfl h
 | k :: keep,h=>by
  show (bif Nat.beq k t then slot s k else slot (restrict s keep) t)=_
  replace h:(bif Nat.beq k t then slot s k else slot (restrict s keep) t) ≠ .undef:=h
  cases e:Nat.beq k t with
  | true=>rw [Nat.eq_of_beq_eq_true e]; rfl
  | false=>rw [e] at h; exact slot_restrict_some s t keep h
def RecOk (E:Env) (P:Program) (rec:FuncId→List Item→Slots→Heap→R):Prop:=
 ∀ f todo s H q,rec f todo s H=some q→∀ (j:Inj) (base:Nat) (w:World) (a:Act) (b:Frame) (cs:List Frame),b.fn=f→b.kind = .normal→a.defers=[]→SR j (E.nt f) s a.tmps→HR j base H w→Fresh j H.length→base≤w.heap.size →
  ∃ w' fr v,Steps P (lone (b.at a todo) cs w) (lone fr cs w')∧fr.fn=f∧fr.leaving P w' (.returned v)∧Stp base j H w q.1 q.2 v w'
def DrawOk (E:Env) (P:Program) (rec:FuncId→List Item→Slots→Heap→R):Prop:=
 ∀ (f:FuncId) (ops:Array Oper) (m:List Nat),drawOk E f m ops=true→dstOk (E.nt f) ops.toList=true→∀ (k:Slots→Heap→R) (q:D×Heap) (j0:Inj) (H0:Heap) (w0:World) (base:Nat) (Q:Exit→Act→World→Prop),
  (∀ a j s H w,k s H=some q→SR j (E.nt f) s a.tmps→a.defers=[]→HR j base H w→Grows j0 j H0.length H.length→H0.length≤H.length→Below base w0 w→NewZ base j0 j→Fresh j H.length→base≤w.heap.size→Q .normal a w) →
  ∀ (a:Act) (s:Slots),evOps E rec f ops (flOf E f m ops) (List.range ops.size) [] s H0 k=some q→SR j0 (E.nt f) s a.tmps→a.defers=[]→HR j0 base H0 w0→Fresh j0 H0.length→base≤w0.heap.size →
   wpAny P .any ops Q ops.size (Array.replicate ops.size false) a { w0 with drawn:=w0.drawn + 1 }
theorem sim_X (hE:EnvOk E P) {rec cont':FuncId→List Item→Slots→Heap→R} (hrec:CallOk E P rec) (hdraw:DrawOk E P rec) (hcont:RecOk E P cont') :
  RecOk E P fun f todo s H=>X E rec f (cont' f) todo s H:=by
 intro f todo s H q h j base w a b cs hbf hbk had hS hH hF hb
 have go:∀ {m:Machine} {todo':List Item} {s':Slots},Steps P m (lone (b.at a todo') cs w)→SR j (E.nt f) s' a.tmps→cont' f todo' s' H=some q →
   ∃ w' fr v,Steps P m (lone fr cs w')∧fr.fn=f∧fr.leaving P w' (.returned v)∧Stp base j H w q.1 q.2 v w':=by
  intro m todo' s' hst hS' hc
  obtain ⟨w',fr,v,h1,h2⟩:=hcont f todo' s' H q hc j base w a b cs hbf hbk had hS' hH hF hb
  exact ⟨w',fr,v,hst.trans h1,h2⟩
 replace h:X E rec f (cont' f) todo s H=some q:=h
 unfold X at h
 have ret:∀ {fn:Func} {todo':List Item},E.code f=some fn→ret_ H (fn.results.toList.map (resOf E s H))=some q→Steps P (lone (b.at a todo) cs w) (lone { b.at a todo' with mode:=.returning } cs w) →
   ∃ w' fr v,Steps P (lone (b.at a todo) cs w) (lone fr cs w')∧fr.fn=f∧fr.leaving P w' (.returned v)∧Stp base j H w q.1 q.2 v w':=by
  intro fn todo' hfn hr hst
  obtain ⟨v,h1,h2,h3⟩:=sim_ret (P:=P) hE hH hS hr
  refine ⟨w,_,v,hst,hbf,⟨rfl,had,hbk,fn,?_,h1⟩,⟨⟨⟨j,?_,h2,by rw [h3]; exact hH,NewZ.refl _ _⟩,Below.refl _ _⟩,by rw [h3]; exact Nat.le_refl _⟩⟩
  ·show P.funcs[b.fn]? = some fn
   rw [hbf]; exact (hE.code f fn hfn).1
  ·rw [h3]; exact Grows.refl _ _ _
 split at h
 ·cases hfn:E.code f with
  | none=>rw [hfn] at h; cases h
  | some fn=>rw [hfn] at h; exact ret hfn h (.one step_end)
 ·cases hfn:E.code f with
  | none=>rw [hfn] at h; cases h
  | some fn=>rw [hfn] at h; exact ret hfn h (.one step_ret)
 ·exact go (.one step_skip) hS h
 ·exact go (.one step_inBlock) hS h
 ·exact go (.one step_seq) hS h
 ·rename_i c x y k
  have brB:∀ t,opnd s c = .bool t→(bif t then cont' f (.code x :: k) s H else cont' f (.code y :: k) s H)=some q→∃ w' fr v,Steps P (lone (b.at a (.code (.cond c x y) :: k)) cs w) (lone fr cs w')∧fr.fn=f∧fr.leaving P w' (.returned v)∧Stp base j H w q.1 q.2 v w':=by
   intro t ht h
   have hv:=hS.or c (by rw [ht]; simp)
   rw [ht] at hv
   generalize hxv:a.eval c=xv at hv
   cases hv
   have hst:=step_cond (P:=P) (b:=b) (k:=k) (cs:=cs) (w:=w) (x:=x) (y:=y) hxv
   cases t
   ·exact go (.one hst) hS h
   ·exact go (.one hst) hS h
  cases hnd:E.nd f with
  | false=>
   rw [hnd] at h
   simp only [cond_false] at h
   unfold asB at h
   split at h
   ·rename_i t ht
    exact brB t ht h
   ·cases h
  | true=>
   rw [hnd] at h
   simp only [cond_true] at h
   rcases asE_some h with ⟨t,ht,h1⟩ | ⟨ht,h1,h2⟩
   ·exact brB t ht h1
   ·have hv:=hS.or c (by rw [ht]; simp)
    rw [ht] at hv
    generalize hxv:a.eval c=xv at hv
    cases hv
    rename_i t
    have hst:=step_cond (P:=P) (b:=b) (k:=k) (cs:=cs) (w:=w) (x:=x) (y:=y) hxv
    cases t
    ·exact go (.one hst) hS h2
    ·exact go (.one hst) hS h1
 ·exact go (.one step_block) hS h
 ·exact go (.one step_loop) hS h
 ·exact go (.one step_inLoop) hS h
 ·split at h
  ·rename_i k' hk
   exact go (.one (step_exit hk)) hS h
  ·cases h
 ·rename_i id ops draw k
  cases hc:(!dstOk (E.nt f) ops.toList || (draw && !drawOk E f (E.cert f id) ops)) with
  | true=>rw [hc] at h; cases h
  | false=>
   rw [hc] at h
   simp only [cond_false] at h
   rw [Bool.or_eq_false_iff,Bool.and_eq_false_iff] at hc
   obtain ⟨hdst,hdr⟩:=hc
   have hdst:dstOk (E.nt f) ops.toList=true:=by simpa using hdst
   have hS':SR j (E.nt f) (match E.keep f id with | some l=>restrict s l | none=>s) a.tmps:=by
    split
    ·exact hS.congr fun t ht=>slot_restrict_some s t _ ht
    ·exact hS
   let Q:Exit→Act→World→Prop:=fun e a' w'=>e = .normal∧∃ j' s' H',cont' f k s' H'=some q∧SR j' (E.nt f) s' a'.tmps∧a'.defers=[]∧HR j' base H' w'∧Grows j j' H.length H'.length∧H.length≤H'.length∧Below base w w'∧NewZ base j j'∧Fresh j' H'.length∧base≤w'.heap.size
   have hQ:∀ a' j' s' H' w',cont' f k s' H'=some q→SR j' (E.nt f) s' a'.tmps→a'.defers=[]→HR j' base H' w'→Grows j j' H.length H'.length→H.length≤H'.length→Below base w w'→NewZ base j j'→Fresh j' H'.length→base≤w'.heap.size→Q .normal a' w':=
    fun a' j' s' H' w' h1 h2 h3 h4 h5 h6 h7 h10 h8 h9=>⟨rfl,j',s',H',h1,h2,h3,h4,h5,h6,h7,h10,h8,h9⟩
   have hfin:∀ {e a' w'},Q e a' w'→Arrives P (lone (b.at a (.code (.region id ops draw) :: k)) cs w) b k cs e a' w' →
     ∃ w' fr v,Steps P (lone (b.at a (.code (.region id ops draw) :: k)) cs w) (lone fr cs w')∧fr.fn=f∧fr.leaving P w' (.returned v)∧Stp base j H w q.1 q.2 v w':=by
    rintro e a' w' ⟨rfl,j',s',H',h1,h2,h3,h4,h5,h6,h7,h10,h8,h9⟩ harr
    obtain ⟨w'', fr, v, g1, g2, g3, ⟨⟨⟨j'', k1, k2, k3, k6⟩, k4⟩, k5⟩⟩ := hcont f k s' H' q h1 j' base w' a' b cs hbf hbk h3 h2 h4 h8 h9
    exact ⟨w'', fr, v, Steps.trans harr g1, g2, g3, ⟨⟨⟨j'', h5.trans k1 h6 k5, k2, k3, h10.trans k6 k1.ext⟩, h7.trans k4⟩, by omega⟩⟩
   cases draw with
   | false=>
    have hw:=sim_evOps hE hrec hdst (k:=fun s H=>cont' f k s H) (df:=[]) (Q:=Q) hQ (List.range ops.size) [] a j _ H w h (SkOk.nil _) hS' had hH (Grows.refl _ _ _) (Nat.le_refl _) (Below.refl _ _) (NewZ.refl _ _) hF hb
    obtain ⟨e,a',w',hq,harr⟩:=wp_region (id:=id) hw b k cs
    exact hfin hq harr
   | true=>
    have hdr:drawOk E f (E.cert f id) ops=true:=by simpa using hdr
    have hw:=hdraw f ops _ hdr hdst (fun s H=>cont' f k s H) q j H w base Q hQ a _ h hS' had hH hF hb
    obtain ⟨e,a',w',hq,harr⟩:=wp_region_any (id:=id) hE.mixed hw b k cs
    exact hfin hq harr
 ·cases h
end Go.Ev
namespace Go.Ev
open Go.RowKit
set_option linter.unusedVariables false
set_option linter.unusedSimpArgs false
variable {E:Env} {P:Program} {j:Inj} {base:Nat} {H:Heap} {w:World}
theorem slot_nums:∀ (ds:List D) (i t:Nat),slot (nums i ds) t ≠ .undef→∃ k,t=i + k∧ds[k]? = some (slot (nums i ds) t)
 | [],i,t,h=>absurd rfl h
 | d :: ds,i,t,h=>by
  have hs:slot (nums i (d :: ds)) t=bif Nat.beq i t then d else slot (nums (i + 1) ds) t:=rfl
  rw [hs] at h ⊢
  cases e:Nat.beq i t with
  | true=>exact ⟨0,(Nat.eq_of_beq_eq_true e).symm,rfl⟩
  | false=>
   rw [e] at h
   obtain ⟨k,h1,h2⟩:=slot_nums ds (i + 1) t h
   exact ⟨k + 1,by omega,h2⟩
theorem enter_ok (hE:EnvOk E P) {rec:FuncId→List Item→Slots→Heap→R} (hrec:RecOk E P rec) {g:FuncId} {ds:List D} {r:D×Heap} (h:enter E rec g ds H=some r) {vs:List Value} (hA:ARs j ds vs) (hH:HR j base H w) (hF:Fresh j H.length)
  (hb:base≤w.heap.size):(callFunc g vs.toArray).run P w = .ok (.enter g vs.toArray) w∧Calls P g vs.toArray w fun e w'=>∃ v,e = .returned v∧Stp base j H w r.1 r.2 v w':=by
 unfold enter at h
 split at h
 ·rename_i fn hfn
  split at h
  ·rename_i body hbody
   obtain ⟨hf,hnt,hname,_⟩:=hE.code g fn hfn
   have hname' : ¬ fn.name = "runtime.NumGoroutine" := by simpa using hname
   refine ⟨by simp [callFunc,hf,hname',hbody],fun cs=>?_⟩
   let b:Frame:={ (default:Frame) with fn:=g,kind:=.normal }
   have henter:Frame.enter P g vs.toArray .normal=b.at { tmps:=vs.toArray++Array.replicate (fn.ntmps - vs.toArray.size) undef,defers:=[] } [.code body]:=by
    simp [Frame.enter,Frame.at,hf,hbody,b]
   have hSR:SR j (E.nt g) (nums 0 ds) (vs.toArray++Array.replicate (fn.ntmps - vs.toArray.size) undef):=by
    refine ⟨by rw [← hnt]; simp; omega,fun t ht=>?_⟩
    obtain ⟨k,h1,h2⟩:=slot_nums ds 0 t ht
    have hk:k < vs.length:=by
     have:=get_lt h2
     have:=hA.1
     omega
    have e:t=k:=by omega
    subst e
    have:(vs.toArray++Array.replicate (fn.ntmps - vs.toArray.size) undef).getD t undef=vs[t]:=by
     simp [Array.getElem?_append,hk]
    rw [this]
    exact hA.2 t _ _ h2 (List.getElem?_eq_getElem hk) ht
   obtain ⟨w',fr,v,h1,h2,h3,h4⟩:=hrec g _ _ H r h j base w { tmps:=vs.toArray++Array.replicate (fn.ntmps - vs.toArray.size) undef,defers:=[] } b cs rfl rfl rfl hSR hH hF hb
   refine ⟨.returned v,w',fr,⟨v,rfl,h4⟩,?_,h2,h3⟩
   rw [henter]
   exact h1
  ·cases h
 ·cases h
end Go.Ev
namespace Go.Ev
open Go.RowKit
set_option linter.unusedVariables false
set_option linter.unusedSimpArgs false
variable {E:Env} {P:Program} {base:Nat} {w:World}
theorem VR.scalar {j j':Inj} {d:D} {v:Value} (h:VR j d v) (hs:d.scalar=true):VR j' d v:=by
 cases h <;> first | (cases hs; done) | constructor
def visT:Nat→Heap→D→Nat→Prop
 | 0,_,_,_=>False
 | n + 1,H,d,b=>
  match d with
  | .agg cs=>∃ c ∈ cs,visT n H c b
  | .tup cs=>∃ c ∈ cs,visT n H c b
  | .sl b' off len=>∃ rows,getBlk H b'=some rows∧(b=b'∨∃ r ∈ (rows.drop off).take len,∃ c ∈ r,visT n H c b)
  | _=>False
structure Kl (K K':Heap):Prop where
 len:K'.length=K.length
 sub:∀ b rows,getBlk K' b=some rows→getBlk K b=some rows
theorem Kl.refl (K:Heap):Kl K K:=⟨rfl,fun _ _ h=>h⟩
theorem Kl.trans {K K' K2:Heap} (h:Kl K K') (h':Kl K' K2):Kl K K2:=⟨h'.len.trans h.len,fun b r hb=>h.sub b r (h'.sub b r hb)⟩
theorem Kl.gone {K K':Heap} (h:Kl K K') {b:Nat} (hb:getBlk K b=none):getBlk K' b=none:=by
 cases hx:getBlk K' b with
 | none=>rfl
 | some r=>rw [h.sub b r hx] at hb; cases hb
theorem Kl.set (K:Heap) (b:Nat):Kl K (K.set b none):=⟨by simp,fun b' r h=>by
 rcases getBlk_set h with ⟨_,h⟩ | ⟨_,h⟩
 ·cases h
 ·exact h⟩
theorem getBlk_set_none (K:Heap) (b:Nat):getBlk (K.set b none) b=none:=by
 cases h:getBlk (K.set b none) b with
 | none=>rfl
 | some x=>
  rcases getBlk_set h with ⟨_,h⟩ | ⟨h,_⟩
  ·cases h
  ·exact absurd rfl h
theorem fold_kl {α:Type} (f:α→Heap→Heap) (hf:∀ a K,Kl K (f a K)):∀ (l:List α) (K:Heap),Kl K (l.foldl (fun K a=>f a K) K)
 | [],K=>Kl.refl K
 | a :: l,K=>(hf a K).trans (fold_kl f hf l _)
theorem fold_mem {α:Type} (f:α→Heap→Heap) (hf:∀ a K,Kl K (f a K)) {b:Nat} {a:α} (ha:∀ K,getBlk (f a K) b=none):∀ (l:List α) (K:Heap),a ∈ l→getBlk (l.foldl (fun K a=>f a K) K) b=none
 | x :: l,K,h=>by
  rw [List.foldl_cons]
  rcases List.mem_cons.mp h with rfl | h
  ·exact (fold_kl f hf l _).gone (ha K)
  ·exact fold_mem f hf ha l _ h
theorem kill_kl:∀ (n:Nat) (H:Heap) (d:D) (K:Heap),Kl K (killT n H d K)
 | 0,_,_,K=>Kl.refl K
 | n + 1,H,d,K=>by
  have ih:=kill_kl n H
  cases d <;> (try exact Kl.refl K) <;> simp only [killT]
  case agg cs=>exact fold_kl (fun c K=>killT n H c K) ih cs K
  case tup cs=>exact fold_kl (fun c K=>killT n H c K) ih cs K
  case sl b off len=>
   cases getBlk H b with
   | none=>exact Kl.refl K
   | some rows=>exact (Kl.set K b).trans (fold_kl (fun (r:List D) K=>r.foldl (fun K c=>killT n H c K) K) (fun r K=>fold_kl (fun c K=>killT n H c K) ih r K) _ _)
theorem kill_vis:∀ (n:Nat) (H:Heap) (d:D) (b:Nat),visT n H d b→∀ K,getBlk (killT n H d K) b=none
 | 0,_,_,_,h,_=>h.elim
 | n + 1,H,d,b,h,K=>by
  have ih:=kill_vis n H
  cases d <;> simp only [visT] at h <;> try exact h.elim
  case agg cs=>
   obtain ⟨c,hc,h⟩:=h
   exact fold_mem (fun c K=>killT n H c K) (kill_kl n H) (ih c b h) cs K hc
  case tup cs=>
   obtain ⟨c,hc,h⟩:=h
   exact fold_mem (fun c K=>killT n H c K) (kill_kl n H) (ih c b h) cs K hc
  case sl b' off len=>
   obtain ⟨rows,hr,h⟩:=h
   simp only [killT,hr]
   have hk:=fun r K=>fold_kl (fun c K=>killT n H c K) (kill_kl n H) r K
   rcases h with rfl | ⟨r,hr,c,hc,h⟩
   ·exact (fold_kl (fun (r:List D) K=>r.foldl (fun K c=>killT n H c K) K) hk _ _).gone (getBlk_set_none K b)
   ·exact fold_mem (fun (r:List D) K=>r.foldl (fun K c=>killT n H c K) K) hk (fun K=>fold_mem (fun c K=>killT n H c K) (kill_kl n H) (ih c b h) r K hc) _ _ hr
theorem BR.vrows {j:Inj} {blk:Rows} {p:Pl} (h:BR j base w blk p):∀ (rs:List (List D)) (i:Nat),(∀ (k:Nat) row,rs[k]? = some row→blk[i + k]? = some row) →
  ∃ vss,RRs j rs vss∧(∀ (k:Nat) vs,vss[k]? = some vs→∀ (f:Nat) v,vs[f]? = some v→w.cell? (p.at (i + k) f)=some v)
 | [],i,_=>⟨[],.nil,fun k vs h=>by simp at h⟩
 | r :: rs,i,hr=>by
  have h0:=hr 0 r rfl
  obtain ⟨cs1,a1,a2,a3⟩:=h.row h0 0 p.e
  have hl:=(h.rows i r h0).1
  rw [List.drop_zero,List.take_of_length_le (by omega)] at a1
  obtain ⟨vss,b1,b2⟩:=h.vrows rs (i + 1) fun k row hk=>by
   have:=hr (k + 1) row (by simpa using hk)
   rwa [show i + (k + 1)=i + 1 + k by omega] at this
  refine ⟨cs1 :: vss,.cons a1 b1,fun k vs hk f v hv=>?_⟩
  cases k with
  | zero=>simp at hk; subst hk; simpa using a2 f v hv
  | succ k=>
   have:=b2 k vs (by simpa using hk) f v hv
   rwa [show i + 1 + k=i + (k + 1) by omega] at this
def frz (fz:Frz):Inj:=⟨fun _=>none,fz⟩
theorem read_list {j1:Inj} {fz':Frz} {f:D→Option D}:∀ {ds ts:List D} {vs:List Value},(∀ d ∈ ds,∀ t v,f d=some t→VR j1 d v→VR (frz fz') t v∧(d.isCell=true→FR fz' t v)) →
  optAll f ds=some ts→VRs j1 ds vs→VRs (frz fz') ts vs∧(ds.all D.isCell=true→FRs fz' ts vs)
 | [],ts,vs,_,h,hv=>by
  cases h; cases hv
  exact ⟨.nil,fun _=>.nil⟩
 | d :: ds,ts,vs,hf,h,hv=>by
  obtain ⟨t,h1,h⟩:=Option.bind_eq_some_iff.mp h
  obtain ⟨ts',h2,h⟩:=Option.bind_eq_some_iff.mp h
  cases h
  cases hv with
  | cons hv hvs=>
   obtain ⟨a1,a2⟩:=hf d (by simp) t _ h1 hv
   obtain ⟨c1,c2⟩:=read_list (fun d hd=>hf d (by simp [hd])) h2 hvs
   refine ⟨.cons a1 c1,fun hc=>?_⟩
   simp only [List.all_cons,Bool.and_eq_true] at hc
   exact .cons (a2 hc.1) (c2 hc.2)
theorem read_rows {j1:Inj} {fz':Frz} {f:D→Option D}:∀ {rs ts:List (List D)} {vss:List (List Value)},(∀ r ∈ rs,∀ d ∈ r,∀ t v,f d=some t→VR j1 d v→VR (frz fz') t v∧(d.isCell=true→FR fz' t v)) →
  optAll (optAll f) rs=some ts→RRs j1 rs vss→(∀ r ∈ rs,r.all D.isCell=true)→FRRs fz' ts vss∧ts.length=rs.length
 | [],ts,vss,_,h,hv,hc=>by
  cases h; cases hv
  exact ⟨.nil,rfl⟩
 | r :: rs,ts,vss,hf,h,hv,hc=>by
  obtain ⟨t,h1,h⟩:=Option.bind_eq_some_iff.mp h
  obtain ⟨ts',h2,h⟩:=Option.bind_eq_some_iff.mp h
  cases h
  cases hv with
  | cons hv hvs=>
   obtain ⟨a1,a2⟩:=read_list (hf r (by simp)) h1 hv
   obtain ⟨c1,c2⟩:=read_rows (fun r hr=>hf r (by simp [hr])) h2 hvs fun r hr=>hc r (by simp [hr])
   exact ⟨.cons (a2 (hc r (by simp))) c1,by simp [c2]⟩
theorem read_ne {f:D→Option D} (hf:f .undef=none):∀ {ds:List D} {r:List D},optAll f ds=some r→∀ d ∈ ds,d ≠ .undef
 | [],_,_,d,hd=>by cases hd
 | x :: ds,r,h,d,hd=>by
  obtain ⟨t,h1,h⟩:=Option.bind_eq_some_iff.mp h
  obtain ⟨ts',h2,h⟩:=Option.bind_eq_some_iff.mp h
  rcases List.mem_cons.mp hd with rfl | hd
  ·rintro rfl
   rw [hf] at h1; cases h1
  ·exact read_ne hf h2 d hd
theorem readT_undef (l:Bool) (n:Nat) (H:Heap):readT l n H .undef=none:=by cases n <;> rfl
theorem FR.frz {fz:Frz} {d:D} {v:Value} (h:FR fz d v):VR (frz fz) d v:=h.vr (j:=Ev.frz fz)
theorem read_ok {j1:Inj} {b1:Nat} {H1:Heap} (hH:HR j1 b1 H1 w) {l:Bool} {fz':Frz} (hl:l=true→∀ rb o,j1.fz rb=some o→fz' rb=some o) :
  ∀ (n:Nat) (d t:D) (v:Value),(∀ b rows p,visT n H1 d b→getBlk H1 b=some rows→j1 b=some p→fz' p.rb=w.heap[p.rb]?)→readT l n H1 d=some t→VR j1 d v→VR (frz fz') t v∧(d.isCell=true→FR fz' t v)
 | 0,d,t,v,_,h,hv=>by
  simp only [readT] at h
  split at h
  ·rename_i hs
   cases h
   refine ⟨hv.scalar hs,fun _=>?_⟩
   cases hv <;> first | (cases hs; done) | constructor
  ·cases h
 | n + 1,d,t,v,hvis,h,hv=>by
  have ih:=read_ok hH hl n
  have both:∀ {t v},FR fz' t v→VR (frz fz') t v∧(d.isCell=true→FR fz' t v):=fun h=>⟨h.frz,fun _=>h⟩
  cases d <;> simp only [readT] at h <;> (try (cases h; done))
  case int k i=>cases h; cases hv; exact both (.int _ _)
  case bool k=>cases h; cases hv; exact both (.bool _)
  case str k=>cases h; cases hv; exact both (.str _)
  case sl0=>
   cases h; cases hv
   exact both (.list rfl (Nat.le_refl _) .nil (.inl rfl))
  case list rows=>
   cases l with
   | false=>cases h
   | true=>
    cases h
    cases hv with
    | list h1 h2 h3 h5=>
     exact both (.list h1 h2 (h3.mono (hl rfl)) (h5.imp id fun ⟨e,rb,ro,ha,hf⟩=>⟨e,rb,ro,ha,hf.mono (hl rfl)⟩))
  case agg cs=>
   obtain ⟨ts,h1,h⟩:=Option.map_eq_some_iff.mp h
   cases h
   cases hv with
   | agg hc hv=>
    obtain ⟨a1,a2⟩:=read_list (fun d hd t v h1 h2=>ih d t v (fun b rows p g=>hvis b rows p ⟨d,hd,g⟩) h1 h2) h1 hv
    exact ⟨.agg (a2 hc).cells a1,fun h=>by cases h⟩
  case tup cs=>
   obtain ⟨ts,h1,h⟩:=Option.map_eq_some_iff.mp h
   cases h
   cases hv with
   | tup hl' hv=>
    have hv':VRs j1 cs _:=VRs.of_get hl' fun i d v g1 g2=>hv i d v g1 g2 (read_ne (readT_undef l n H1) h1 d (List.mem_of_getElem? g1))
    obtain ⟨a1,a2⟩:=read_list (fun d hd t v h1 h2=>ih d t v (fun b rows p g=>hvis b rows p ⟨d,hd,g⟩) h1 h2) h1 hv'
    refine ⟨.tup a1.length fun i d v g1 g2 g3=>?_,fun h=>by cases h⟩
    obtain ⟨u,g4,g5⟩:=a1.get g1
    rw [g4] at g2; cases g2; exact g5
  case sl b off len=>
   obtain ⟨rows,hblk,h⟩:=Option.bind_eq_some_iff.mp h
   split at h
   ·rename_i hle
    obtain ⟨ts,h1,h⟩:=Option.map_eq_some_iff.mp h
    cases h
    have hlen2:((rows.drop off).take len).length=len:=by simp; omega
    cases hv with
    | sl k1 k2=>
     rename_i a cap
     by_cases hcap:cap=0
     ·have h0:len=0:=by omega
      subst h0 hcap
      rw [List.take_zero] at h1
      cases h1
      exact both (.list rfl (Nat.le_refl _) .nil (.inl rfl))
     ·rcases k2 with k2 | ⟨p,hp,hC,rfl⟩
      ·exact absurd k2 hcap
      ·have hB:=hH.blk b rows p hblk hp
       obtain ⟨vss,r1,r2⟩:=hB.vrows ((rows.drop off).take len) off fun k row hk=>by
        rw [List.getElem?_take] at hk
        split at hk
        ·simpa using hk
        ·cases hk
       have hcells:∀ r ∈ (rows.drop off).take len,r.length=p.e∧r.all D.isCell=true:=by
        intro r hr
        obtain ⟨k,hk⟩:=List.getElem?_of_mem (List.mem_of_mem_drop (List.mem_of_mem_take hr))
        obtain ⟨q1,q2⟩:=hB.rows k r hk
        refine ⟨q1,List.all_eq_true.mpr fun d hd=>?_⟩
        obtain ⟨f,hf⟩:=List.getElem?_of_mem hd
        exact (q2 f d hf).1
       obtain ⟨a1,a2⟩:=read_rows (fun r hr d hd t v h1 h2=>ih d t v (fun b' rows' p' g=>hvis b' rows' p' ⟨rows,hblk,.inr ⟨r,hr,d,hd,g⟩⟩) h1 h2) h1 r1 fun r hr=>(hcells r hr).2
       obtain ⟨hbase,cs,el,fr,hheap,hfr,hCC⟩:=hB.own
       have hz:=hvis b rows p ⟨rows,hblk,.inl rfl⟩ hblk hp
       rw [hheap] at hz
       refine both (.list (by rw [a2,hlen2]) k1 a1 (.inr ⟨p.e,p.rb,p.ro + off * p.e,rfl,cs,el,fr,hz,fun i vs hvs=>?_⟩))
       have hi:i < ((rows.drop off).take len).length:=by rw [r1.length]; exact get_lt hvs
       obtain ⟨vs',u1,u2⟩:=r1.get (List.getElem?_eq_getElem hi)
       rw [hvs] at u1; cases u1
       refine ⟨by rw [← u2.length]; exact (hcells _ (List.getElem_mem hi)).1,fun k v hk=>?_⟩
       have:=r2 i vs hvs k v hk
       simp only [World.cell?,Pl.at,hheap] at this
       rw [show p.ro + off * p.e + i * p.e + k=p.ro + (off + i) * p.e + k by rw [Nat.add_mul]; omega]
       simpa using this
   ·cases h
end Go.Ev
namespace Go.Ev
open Go.RowKit
set_option linter.unusedVariables false
set_option linter.unusedSimpArgs false
variable {E:Env} {P:Program} {base:Nat} {w:World}
theorem mapS_app {α β:Type} (f:α→Heap→β×Heap) (hf:∀ a H,∃ K,(f a H).2=H++K):∀ (l:List α) (H:Heap),∃ K,(mapS f l H).2=H++K
 | [],H=>⟨[],by simp [mapS]⟩
 | a :: l,H=>by
  obtain ⟨K,hK⟩:=hf a H
  obtain ⟨K',hK'⟩:=mapS_app f hf l (f a H).2
  exact ⟨K++K',by show (mapS f l (f a H).2).2=_; rw [hK',hK,List.append_assoc]⟩
theorem layT_app:∀ (n:Nat) (d:D) (H:Heap),∃ K,(layT n d H).2=H++K
 | 0,d,H=>⟨[],by simp [layT]⟩
 | n + 1,d,H=>by
  have ih:=layT_app n
  cases d
  case agg cs=>exact mapS_app _ ih cs H
  case tup cs=>exact mapS_app _ ih cs H
  case list rows=>
   obtain ⟨K,hK⟩:=mapS_app _ (fun a H=>mapS_app _ ih a H) rows H
   exact ⟨K++[some (mapS (mapS (layT n)) rows H).1],by simp only [layT,hK,List.append_assoc]⟩
  all_goals exact ⟨[],by simp [layT]⟩
structure St (j1:Inj) (b1 base:Nat) (w:World) (N:Nat) (Bad:Nat→Prop) (H1 K:Heap) (j:Inj):Prop where
 own:HR j1 b1 H1 w
 good:∀ b blk p,getBlk H1 b=some blk→j1 b=some p→¬ Bad p.rb
 nz:∀ b blk p,getBlk H1 b=some blk→j1 b=some p→j.fz p.rb=none
 hr:HR j base K w
 fresh:∀ b,K.length≤b→b < N→j b=none
 cross:∀ b blk p c blk' p',getBlk H1 b=some blk→j1 b=some p→getBlk K c=some blk'→j c=some p'→p'.rb ≠ p.rb
 av:∀ c blk p,getBlk K c=some blk→j c=some p→¬ Bad p.rb
def TakeOk (j1:Inj) (b1 base:Nat) (w:World) (n:Nat):Prop:=
 ∀ (N:Nat) (Bad:Nat→Prop) (d:D) (H1:Heap) (t:D) (H2:Heap) (v:Value) (K:Heap) (j:Inj),takeT n d H1=some (t,H2)→VR j1 d v→St j1 b1 base w N Bad H1 K j→(layT n t K).2.length≤N →
  ∃ j',Grows j j' K.length (layT n t K).2.length∧K.length≤(layT n t K).2.length∧St j1 b1 base w N Bad H2 (layT n t K).2 j'∧VR j' (layT n t K).1 v∧(d.isCell=true→(layT n t K).1.isCell=true)∧New b1 j j'∧j'.fz=j.fz
theorem take_list {j1:Inj} {b1 n:Nat} (hn:TakeOk j1 b1 base w n) (N:Nat) (Bad:Nat→Prop):∀ (ds:List D) (H1:Heap) (ts:List D) (H2:Heap) (vs:List Value) (K:Heap) (j:Inj),optAllS (takeT n) ds H1=some (ts,H2)→VRs j1 ds vs→St j1 b1 base w N Bad H1 K j→(mapS (layT n) ts K).2.length≤N →
  ∃ j',Grows j j' K.length (mapS (layT n) ts K).2.length∧K.length≤(mapS (layT n) ts K).2.length∧St j1 b1 base w N Bad H2 (mapS (layT n) ts K).2 j'∧VRs j' (mapS (layT n) ts K).1 vs ∧
   (ds.all D.isCell=true→(mapS (layT n) ts K).1.all D.isCell=true)∧New b1 j j'∧j'.fz=j.fz
 | [],H1,ts,H2,vs,K,j,h,hv,hS,hN=>by
  cases h; cases hv
  exact ⟨j,Grows.refl _ _ _,Nat.le_refl _,hS,.nil,fun _=>rfl,New.refl _ _,rfl⟩
 | d :: ds,H1,ts,H2,vs,K,j,h,hv,hS,hN=>by
  obtain ⟨⟨t,H3⟩,h1,h⟩:=Option.bind_eq_some_iff.mp h
  obtain ⟨⟨ts',H4⟩,h2,h⟩:=Option.bind_eq_some_iff.mp h
  cases h
  cases hv with
  | cons hv hvs=>
   obtain ⟨j2,a1,a2,a3,a4,a5,a6,z1⟩:=hn N Bad d H1 t H3 _ K j h1 hv hS (by
    obtain ⟨X,hX⟩:=mapS_app _ (layT_app n) ts' (layT n t K).2
    have:(mapS (layT n) ts' (layT n t K).2).2.length≤N:=hN
    rw [hX,List.length_append] at this; omega)
   obtain ⟨j3,c1,c2,c3,c4,c5,c6,z2⟩:=take_list hn N Bad ds H3 ts' _ _ _ j2 h2 hvs a3 hN
   refine ⟨j3,a1.trans c1 a2 c2,Nat.le_trans a2 c2,c3,.cons (a4.mono c1.ext) c4,fun hc=>?_,a6.trans c6 c1.ext,z2.trans z1⟩
   simp only [List.all_cons,Bool.and_eq_true] at hc
   show ((layT n t K).1 :: _).all D.isCell=true
   rw [List.all_cons,a5 hc.1]
   exact c5 hc.2
theorem take_rows {j1:Inj} {b1 n:Nat} (hn:TakeOk j1 b1 base w n) (N:Nat) (Bad:Nat→Prop):∀ (rs:List (List D)) (H1:Heap) (ts:List (List D)) (H2:Heap) (vss:List (List Value)) (K:Heap) (j:Inj),optAllS (optAllS (takeT n)) rs H1=some (ts,H2)→RRs j1 rs vss→St j1 b1 base w N Bad H1 K j→(mapS (mapS (layT n)) ts K).2.length≤N →
  ∃ j',Grows j j' K.length (mapS (mapS (layT n)) ts K).2.length∧K.length≤(mapS (mapS (layT n)) ts K).2.length∧St j1 b1 base w N Bad H2 (mapS (mapS (layT n)) ts K).2 j'∧RRs j' (mapS (mapS (layT n)) ts K).1 vss ∧
   ((∀ r ∈ rs,r.all D.isCell=true)→∀ r ∈ (mapS (mapS (layT n)) ts K).1,r.all D.isCell=true)∧ts.length=rs.length∧(mapS (mapS (layT n)) ts K).1.length=rs.length∧New b1 j j'∧j'.fz=j.fz
 | [],H1,ts,H2,vss,K,j,h,hv,hS,hN=>by
  cases h; cases hv
  exact ⟨j,Grows.refl _ _ _,Nat.le_refl _,hS,.nil,(fun _ r hr=>by cases hr),rfl,rfl,New.refl _ _,rfl⟩
 | r :: rs,H1,ts,H2,vss,K,j,h,hv,hS,hN=>by
  obtain ⟨⟨t,H3⟩,h1,h⟩:=Option.bind_eq_some_iff.mp h
  obtain ⟨⟨ts',H4⟩,h2,h⟩:=Option.bind_eq_some_iff.mp h
  cases h
  cases hv with
  | cons hv hvs=>
   obtain ⟨j2,a1,a2,a3,a4,a5,a6,z1⟩:=take_list hn N Bad r H1 t H3 _ K j h1 hv hS (by
    obtain ⟨X,hX⟩:=mapS_app _ (fun a H=>mapS_app _ (layT_app n) a H) ts' (mapS (layT n) t K).2
    have:(mapS (mapS (layT n)) ts' (mapS (layT n) t K).2).2.length≤N:=hN
    rw [hX,List.length_append] at this; omega)
   obtain ⟨j3,c1,c2,c3,c4,c5,c6,c7,c8,z2⟩:=take_rows hn N Bad rs H3 ts' _ _ _ j2 h2 hvs a3 hN
   refine ⟨j3,a1.trans c1 a2 c2,Nat.le_trans a2 c2,c3,.cons (a4.mono c1.ext) c4,fun hc x hx=>?_,by simp [c6],?_,a6.trans c8 c1.ext,z2.trans z1⟩
   ·replace hx:x ∈ (mapS (layT n) t K).1 :: (mapS (mapS (layT n)) ts' (mapS (layT n) t K).2).1:=hx
    rcases List.mem_cons.mp hx with rfl | hx
    ·exact a5 (hc r (by simp))
    ·exact c5 (fun r hr=>hc r (by simp [hr])) x hx
   ·show ((mapS (layT n) t K).1 :: (mapS (mapS (layT n)) ts' (mapS (layT n) t K).2).1).length=_
    simp [c7]
theorem take_ne {n:Nat}:∀ {ds:List D} {H1:Heap} {r:List D×Heap},optAllS (takeT n) ds H1=some r→∀ d ∈ ds,d ≠ .undef
 | [],_,_,_,d,hd=>by cases hd
 | x :: ds,H1,r,h,d,hd=>by
  obtain ⟨⟨t,H3⟩,h1,h⟩:=Option.bind_eq_some_iff.mp h
  obtain ⟨⟨ts',H4⟩,h2,h⟩:=Option.bind_eq_some_iff.mp h
  rcases List.mem_cons.mp hd with rfl | hd
  ·rintro rfl
   cases n <;> cases h1
  ·exact take_ne h2 d hd
theorem take_ok (j1:Inj) (b1 base:Nat) (w:World) (hb:base≤b1):∀ n,TakeOk j1 b1 base w n
 | 0=>by
  intro N Bad d H1 t H2 v K j h hv hS hN
  simp only [takeT] at h
  split at h
  ·rename_i hs
   cases h
   exact ⟨j,Grows.refl _ _ _,Nat.le_refl _,hS,hv.scalar hs,fun h=>h,New.refl _ _,rfl⟩
  ·cases h
 | n + 1=>by
  have ih:=take_ok j1 b1 base w hb n
  intro N Bad d H1 t H2 v K j h hv hS hN
  cases d <;> simp only [takeT] at h <;> (try (cases h; done))
  case int k i=>cases h; exact ⟨j,Grows.refl _ _ _,Nat.le_refl _,hS,hv.scalar rfl,fun h=>h,New.refl _ _,rfl⟩
  case bool k=>cases h; exact ⟨j,Grows.refl _ _ _,Nat.le_refl _,hS,hv.scalar rfl,fun h=>h,New.refl _ _,rfl⟩
  case str k=>cases h; exact ⟨j,Grows.refl _ _ _,Nat.le_refl _,hS,hv.scalar rfl,fun h=>h,New.refl _ _,rfl⟩
  case sl0=>cases h; cases hv; exact ⟨j,Grows.refl _ _ _,Nat.le_refl _,hS,.sl0 _,fun h=>h,New.refl _ _,rfl⟩
  case agg cs=>
   obtain ⟨⟨ts,H3⟩,h1,h⟩:=Option.map_eq_some_iff.mp h
   cases h
   cases hv with
   | agg hc hv=>
    obtain ⟨j',a1,a2,a3,a4,a5,a6,z1⟩:=take_list ih N Bad cs H1 ts _ _ K j h1 hv hS hN
    exact ⟨j',a1,a2,a3,.agg (a5 hc) a4,(fun h=>by cases h),a6,z1⟩
  case tup cs=>
   obtain ⟨⟨ts,H3⟩,h1,h⟩:=Option.map_eq_some_iff.mp h
   cases h
   cases hv with
   | tup hl hv=>
    have hv':VRs j1 cs _:=VRs.of_get hl fun i d v g1 g2=>hv i d v g1 g2 (take_ne h1 d (List.mem_of_getElem? g1))
    obtain ⟨j',a1,a2,a3,a4,a5,a6,z1⟩:=take_list ih N Bad cs H1 ts _ _ K j h1 hv' hS hN
    refine ⟨j',a1,a2,a3,.tup a4.length fun i d v g1 g2 g3=>?_,(fun h=>by cases h),a6,z1⟩
    obtain ⟨u,g4,g5⟩:=a4.get g1
    rw [g4] at g2; cases g2; exact g5
  case sl b off len=>
   obtain ⟨blk,hblk,h⟩:=Option.bind_eq_some_iff.mp h
   split at h
   ·rename_i hcond
    have hle:=hcond
    obtain ⟨⟨ts,H3⟩,h1,h⟩:=Option.map_eq_some_iff.mp h
    cases h
    have hlen2:((blk.drop off).take len).length=len:=by simp; omega
    have hset:HR j1 b1 (H1.set b none) w:=hS.own.drop b
    cases hv with
    | sl k1 k2=>
     rename_i a cap
     by_cases hcap:cap=0
     ·have h0:len=0:=by omega
      subst h0 hcap
      rw [List.take_zero] at h1
      cases h1
      have hN':K.length + 1≤N:=by simpa [layT,mapS] using hN
      have hnone:=hS.fresh K.length (Nat.le_refl _) (by omega)
      have hK:∀ {c blk' p'},getBlk (K++[some ([]:Rows)]) c=some blk'→j c=some p'→getBlk K c=some blk':=by
       intro c blk' p' g1 g2
       rcases getBlk_snoc g1 with ⟨rfl,_⟩ | ⟨_,g1⟩
       ·rw [hnone] at g2; cases g2
       ·exact g1
      refine ⟨j,Grows.refl _ _ _,by simp [layT,mapS],⟨hset,?_,?_,⟨?_,?_,hS.hr.fz⟩,?_,?_,?_⟩,.sl (Nat.le_refl _) (.inl rfl),fun _=>rfl,New.refl _ _,rfl⟩
      ·intro b' blk' p g1
       rcases getBlk_set g1 with ⟨_,g1⟩ | ⟨_,g1⟩
       ·cases g1
       ·exact hS.good b' blk' p g1
      ·intro b' blk' p g1
       rcases getBlk_set g1 with ⟨_,g1⟩ | ⟨_,g1⟩
       ·cases g1
       ·exact hS.nz b' blk' p g1
      ·exact fun c blk' p' g1 g2=>hS.hr.blk c blk' p' (hK g1 g2) g2
      ·exact fun c c' k1 k2 p1 p2 g1 g2 e1 e2=>hS.hr.sep c c' k1 k2 p1 p2 (hK g1 e1) (hK g2 e2) e1 e2
      ·intro c hc hc2; simp [layT,mapS] at hc; exact hS.fresh c (by omega) hc2
      ·intro b' blk' p c blk2 p2 g1 g3 g4 g5
       rcases getBlk_set g1 with ⟨_,g1⟩ | ⟨_,g1⟩
       ·cases g1
       ·exact hS.cross b' blk' p c blk2 p2 g1 g3 (hK g4 g5) g5
      ·exact fun c blk' p' g1 g2=>hS.av c blk' p' (hK g1 g2) g2
     ·rcases k2 with k2 | ⟨p,hp,hC,rfl⟩
      ·exact absurd k2 hcap
      ·have hB:=hS.own.blk b blk p hblk hp
       obtain ⟨vss,r1,r2⟩:=hB.vrows ((blk.drop off).take len) off fun k row hk=>by
        rw [List.getElem?_take] at hk
        split at hk
        ·simpa using hk
        ·cases hk
       have hcells:∀ r ∈ (blk.drop off).take len,r.length=p.e∧r.all D.isCell=true:=by
        intro r hr
        obtain ⟨k,hk⟩:=List.getElem?_of_mem (List.mem_of_mem_drop (List.mem_of_mem_take hr))
        obtain ⟨q1,q2⟩:=hB.rows k r hk
        refine ⟨q1,List.all_eq_true.mpr fun d hd=>?_⟩
        obtain ⟨f,hf⟩:=List.getElem?_of_mem hd
        exact (q2 f d hf).1
       have hS1:St j1 b1 base w N (fun rb=>Bad rb∨rb=p.rb) (H1.set b none) K j:=by
        refine ⟨hset,?_,?_,hS.hr,hS.fresh,?_,?_⟩
        ·intro b' blk' p' g1 g3
         rcases getBlk_set g1 with ⟨_,g1⟩ | ⟨hne,g1⟩
         ·cases g1
         ·rintro (hbad | hrb)
          ·exact hS.good b' blk' p' g1 g3 hbad
          ·exact hS.own.sep b' b blk' blk p' p g1 hblk g3 hp hne hrb
        ·intro b' blk' p' g1
         rcases getBlk_set g1 with ⟨_,g1⟩ | ⟨_,g1⟩
         ·cases g1
         ·exact hS.nz b' blk' p' g1
        ·intro b' blk' p' c blk2 p2 g1 g3 g4 g5
         rcases getBlk_set g1 with ⟨_,g1⟩ | ⟨_,g1⟩
         ·cases g1
         ·exact hS.cross b' blk' p' c blk2 p2 g1 g3 g4 g5
        ·intro c blk' p' g1 g2
         rintro (hbad | hrb)
         ·exact hS.av c blk' p' g1 g2 hbad
         ·exact hS.cross b blk p c blk' p' hblk hp g1 g2 hrb
       obtain ⟨j2,a1,a2,a3,a4,a5,a6,a7,a8,z1⟩:=take_rows ih N _ _ _ ts H3 vss K j h1 r1 hS1 (by
        have h9:((mapS (mapS (layT n)) ts K).2++[some (mapS (mapS (layT n)) ts K).1]).length≤N:=hN
        rw [List.length_append,List.length_singleton] at h9; omega)
       have a5':=a5 fun r hr=>(hcells r hr).2
       obtain ⟨hbase,cs,el,fr,hheap,hfr,hCC⟩:=hB.own
       have hj2:=a3.fresh _ (Nat.le_refl _) (by
        have h9:((mapS (mapS (layT n)) ts K).2++[some (mapS (mapS (layT n)) ts K).1]).length≤N:=hN
        rw [List.length_append,List.length_singleton] at h9; omega)
       generalize hR:mapS (mapS (layT n)) ts K=R at a1 a2 a3 a4 a5' a7 hj2
       have hlay:layT (n + 1) (.list ts) K=(.sl R.2.length 0 ts.length,R.2++[some R.1]):=by
        simp only [layT,hR]
       rw [hlay]
       simp only
       have hnew:BR (upd j2 R.2.length ⟨p.rb,p.ro + off * p.e,p.e,p.C - off⟩) base w R.1 ⟨p.rb,p.ro + off * p.e,p.e,p.C - off⟩:=by
        refine ⟨fun i row hr=>?_,hB.lt,⟨Nat.le_trans hb hbase,cs,el,fr,hheap,hfr,?_⟩,by rw [show (upd j2 R.2.length ⟨p.rb,p.ro + off * p.e,p.e,p.C - off⟩).fz=j.fz from z1]; exact hS.nz b blk p hblk hp⟩
        ·obtain ⟨vs,s1,s2⟩:=a4.get hr
         have hsrc:∃ r0,((blk.drop off).take len)[i]? = some r0∧r0.length=vs.length:=by
          have hi:i < ((blk.drop off).take len).length:=by have:=get_lt (show R.1[i]? = some row from hr); omega
          refine ⟨_,List.getElem?_eq_getElem hi,?_⟩
          obtain ⟨vs',u1,u2⟩:=r1.get (List.getElem?_eq_getElem hi)
          rw [s1] at u1; cases u1
          exact u2.length
         obtain ⟨r0,u1,u2⟩:=hsrc
         refine ⟨by rw [s2.length,← u2]; exact (hcells r0 (List.mem_of_getElem? u1)).1,fun f d hd=>⟨(List.all_eq_true.mp (a5' row (List.mem_of_getElem? hr))) d (List.mem_of_getElem? hd),?_⟩⟩
         obtain ⟨v,v1,v2⟩:=s2.get hd
         refine ⟨v,?_,v2.mono (upd_ext _ hj2)⟩
         have:=r2 i vs s1 f v v1
         rw [← this]
         congr 1
         unfold Pl.at
         simp only [Nat.add_mul]
         congr 1
         omega
        ·show p.ro + off * p.e + (p.C - off) * p.e≤_
         rw [Nat.add_assoc,← Nat.add_mul,show off + (p.C - off)=p.C by omega]
         exact hCC
       have hadd:=a3.hr.addAt hj2 hnew (fun c blk' p' g1 g2 g3=>absurd (Or.inr g3) (a3.av c blk' p' g1 g2))
       have hgood:¬ Bad p.rb:=hS.good b blk p hblk hp
       refine ⟨upd j2 R.2.length ⟨p.rb,p.ro + off * p.e,p.e,p.C - off⟩,a1.trans (upd_grows _ hj2 (by simp)) a2 (by simp),by simp; omega,⟨a3.own,?_,a3.nz,hadd,?_,?_,?_⟩,?_,fun _=>rfl,a8.trans (upd_new hbase) (upd_ext _ hj2),z1⟩
       ·exact fun b' blk' p' g1 g3 hbad=>a3.good b' blk' p' g1 g3 (.inl hbad)
       ·intro c hc hc2
        simp at hc
        rw [upd_ne _ _ (by omega)]
        exact a3.fresh c (by omega) hc2
       ·intro b' blk' p' c blk2 p2 g1 g3 g4 g5
        rcases getBlk_snoc g4 with ⟨rfl,_⟩ | ⟨hlt,g4⟩
        ·rw [upd_self] at g5; cases g5
         intro e
         exact a3.good b' blk' p' g1 g3 (.inr e.symm)
        ·rw [upd_ne _ _ (by omega)] at g5
         exact a3.cross b' blk' p' c blk2 p2 g1 g3 g4 g5
       ·intro c blk' p' g1 g2
        rcases getBlk_snoc g1 with ⟨rfl,_⟩ | ⟨hlt,g1⟩
        ·rw [upd_self] at g2; cases g2
         exact hgood
        ·rw [upd_ne _ _ (by omega)] at g2
         exact fun hbad=>a3.av c blk' p' g1 g2 (.inl hbad)
       ·rw [a6,hlen2]
        refine .sl k1 (.inr ⟨_,upd_self _ _ _,by simp; omega,?_⟩)
        simp [Pl.at]
   ·cases h
end Go.Ev
namespace Go.Ev
open Go.RowKit
set_option linter.unusedVariables false
set_option linter.unusedSimpArgs false
variable {E:Env} {P:Program} {base:Nat} {w:World}
theorem layL_app:∀ (n:Nat) (d:D) (H:Heap),∃ K,(layL n d H).2=H++K
 | 0,d,H=>⟨[],by simp [layL]⟩
 | n + 1,d,H=>by
  have ih:=layL_app n
  cases d
  case agg cs=>exact mapS_app _ ih cs H
  case tup cs=>exact mapS_app _ ih cs H
  case list rows=>
   obtain ⟨K,hK⟩:=mapS_app _ (fun a H=>mapS_app _ ih a H) rows H
   exact ⟨K++[some (mapS (mapS (layL n)) rows H).1],by simp only [layL,hK,List.append_assoc]⟩
  case el row f=>
   refine ⟨[],?_⟩
   rw [List.append_nil]
   unfold layL
   split <;> first | rfl | (rename_i h; cases h; done) | skip
  all_goals exact ⟨[],by simp [layL]⟩
def TakeOkL (j1:Inj) (b1 base:Nat) (w:World) (n:Nat):Prop:=
 ∀ (N:Nat) (Bad:Nat→Prop) (d:D) (H1:Heap) (t:D) (H2:Heap) (v:Value) (K:Heap) (j:Inj),takeL n d H1=some (t,H2)→VR j1 d v→St j1 b1 base w N Bad H1 K j→(∀ b o,j1.fz b=some o→j.fz b=some o)→(layL n t K).2.length≤N →
  ∃ j',Grows j j' K.length (layL n t K).2.length∧K.length≤(layL n t K).2.length∧St j1 b1 base w N Bad H2 (layL n t K).2 j'∧VR j' (layL n t K).1 v∧(d.isCell=true→(layL n t K).1.isCell=true)∧New b1 j j'∧j'.fz=j.fz
theorem takeL_list {j1:Inj} {b1 n:Nat} (hn:TakeOkL j1 b1 base w n) (N:Nat) (Bad:Nat→Prop):∀ (ds:List D) (H1:Heap) (ts:List D) (H2:Heap) (vs:List Value) (K:Heap) (j:Inj),optAllS (takeL n) ds H1=some (ts,H2)→VRs j1 ds vs→St j1 b1 base w N Bad H1 K j→(∀ b o,j1.fz b=some o→j.fz b=some o)→(mapS (layL n) ts K).2.length≤N →
  ∃ j',Grows j j' K.length (mapS (layL n) ts K).2.length∧K.length≤(mapS (layL n) ts K).2.length∧St j1 b1 base w N Bad H2 (mapS (layL n) ts K).2 j'∧VRs j' (mapS (layL n) ts K).1 vs ∧
   (ds.all D.isCell=true→(mapS (layL n) ts K).1.all D.isCell=true)∧New b1 j j'∧j'.fz=j.fz
 | [],H1,ts,H2,vs,K,j,h,hv,hS,hZ,hN=>by
  cases h; cases hv
  exact ⟨j,Grows.refl _ _ _,Nat.le_refl _,hS,.nil,fun _=>rfl,New.refl _ _,rfl⟩
 | d :: ds,H1,ts,H2,vs,K,j,h,hv,hS,hZ,hN=>by
  obtain ⟨⟨t,H3⟩,h1,h⟩:=Option.bind_eq_some_iff.mp h
  obtain ⟨⟨ts',H4⟩,h2,h⟩:=Option.bind_eq_some_iff.mp h
  cases h
  cases hv with
  | cons hv hvs=>
   obtain ⟨j2,a1,a2,a3,a4,a5,a6,z1⟩:=hn N Bad d H1 t H3 _ K j h1 hv hS hZ (by
    obtain ⟨X,hX⟩:=mapS_app _ (layL_app n) ts' (layL n t K).2
    have:(mapS (layL n) ts' (layL n t K).2).2.length≤N:=hN
    rw [hX,List.length_append] at this; omega)
   obtain ⟨j3,c1,c2,c3,c4,c5,c6,z2⟩:=takeL_list hn N Bad ds H3 ts' _ _ _ j2 h2 hvs a3 (by rw [z1]; exact hZ) hN
   refine ⟨j3,a1.trans c1 a2 c2,Nat.le_trans a2 c2,c3,.cons (a4.mono c1.ext) c4,fun hc=>?_,a6.trans c6 c1.ext,z2.trans z1⟩
   simp only [List.all_cons,Bool.and_eq_true] at hc
   show ((layL n t K).1 :: _).all D.isCell=true
   rw [List.all_cons,a5 hc.1]
   exact c5 hc.2
theorem takeL_rows {j1:Inj} {b1 n:Nat} (hn:TakeOkL j1 b1 base w n) (N:Nat) (Bad:Nat→Prop):∀ (rs:List (List D)) (H1:Heap) (ts:List (List D)) (H2:Heap) (vss:List (List Value)) (K:Heap) (j:Inj),optAllS (optAllS (takeL n)) rs H1=some (ts,H2)→RRs j1 rs vss→St j1 b1 base w N Bad H1 K j→(∀ b o,j1.fz b=some o→j.fz b=some o)→(mapS (mapS (layL n)) ts K).2.length≤N →
  ∃ j',Grows j j' K.length (mapS (mapS (layL n)) ts K).2.length∧K.length≤(mapS (mapS (layL n)) ts K).2.length∧St j1 b1 base w N Bad H2 (mapS (mapS (layL n)) ts K).2 j'∧RRs j' (mapS (mapS (layL n)) ts K).1 vss ∧
   ((∀ r ∈ rs,r.all D.isCell=true)→∀ r ∈ (mapS (mapS (layL n)) ts K).1,r.all D.isCell=true)∧ts.length=rs.length∧(mapS (mapS (layL n)) ts K).1.length=rs.length∧New b1 j j'∧j'.fz=j.fz
 | [],H1,ts,H2,vss,K,j,h,hv,hS,hZ,hN=>by
  cases h; cases hv
  exact ⟨j,Grows.refl _ _ _,Nat.le_refl _,hS,.nil,(fun _ r hr=>by cases hr),rfl,rfl,New.refl _ _,rfl⟩
 | r :: rs,H1,ts,H2,vss,K,j,h,hv,hS,hZ,hN=>by
  obtain ⟨⟨t,H3⟩,h1,h⟩:=Option.bind_eq_some_iff.mp h
  obtain ⟨⟨ts',H4⟩,h2,h⟩:=Option.bind_eq_some_iff.mp h
  cases h
  cases hv with
  | cons hv hvs=>
   obtain ⟨j2,a1,a2,a3,a4,a5,a6,z1⟩:=takeL_list hn N Bad r H1 t H3 _ K j h1 hv hS hZ (by
    obtain ⟨X,hX⟩:=mapS_app _ (fun a H=>mapS_app _ (layL_app n) a H) ts' (mapS (layL n) t K).2
    have:(mapS (mapS (layL n)) ts' (mapS (layL n) t K).2).2.length≤N:=hN
    rw [hX,List.length_append] at this; omega)
   obtain ⟨j3,c1,c2,c3,c4,c5,c6,c7,c8,z2⟩:=takeL_rows hn N Bad rs H3 ts' _ _ _ j2 h2 hvs a3 (by rw [z1]; exact hZ) hN
   refine ⟨j3,a1.trans c1 a2 c2,Nat.le_trans a2 c2,c3,.cons (a4.mono c1.ext) c4,fun hc x hx=>?_,by simp [c6],?_,a6.trans c8 c1.ext,z2.trans z1⟩
   ·replace hx:x ∈ (mapS (layL n) t K).1 :: (mapS (mapS (layL n)) ts' (mapS (layL n) t K).2).1:=hx
    rcases List.mem_cons.mp hx with rfl | hx
    ·exact a5 (hc r (by simp))
    ·exact c5 (fun r hr=>hc r (by simp [hr])) x hx
   ·show ((mapS (layL n) t K).1 :: (mapS (mapS (layL n)) ts' (mapS (layL n) t K).2).1).length=_
    simp [c7]
theorem takeL_ne {n:Nat}:∀ {ds:List D} {H1:Heap} {r:List D×Heap},optAllS (takeL n) ds H1=some r→∀ d ∈ ds,d ≠ .undef
 | [],_,_,_,d,hd=>by cases hd
 | x :: ds,H1,r,h,d,hd=>by
  obtain ⟨⟨t,H3⟩,h1,h⟩:=Option.bind_eq_some_iff.mp h
  obtain ⟨⟨ts',H4⟩,h2,h⟩:=Option.bind_eq_some_iff.mp h
  rcases List.mem_cons.mp hd with rfl | hd
  ·rintro rfl
   cases n <;> cases h1
  ·exact takeL_ne h2 d hd
theorem takeL_ok (j1:Inj) (b1 base:Nat) (w:World) (hb:base≤b1):∀ n,TakeOkL j1 b1 base w n
 | 0=>by
  intro N Bad d H1 t H2 v K j h hv hS hZ hN
  simp only [takeL] at h
  split at h
  ·rename_i hs
   cases h
   exact ⟨j,Grows.refl _ _ _,Nat.le_refl _,hS,hv.scalar hs,fun h=>h,New.refl _ _,rfl⟩
  ·cases h
 | n + 1=>by
  have ih:=takeL_ok j1 b1 base w hb n
  intro N Bad d H1 t H2 v K j h hv hS hZ hN
  cases d <;> simp only [takeL] at h <;> (try (cases h; done))
  case int k i=>cases h; exact ⟨j,Grows.refl _ _ _,Nat.le_refl _,hS,hv.scalar rfl,fun h=>h,New.refl _ _,rfl⟩
  case bool k=>cases h; exact ⟨j,Grows.refl _ _ _,Nat.le_refl _,hS,hv.scalar rfl,fun h=>h,New.refl _ _,rfl⟩
  case str k=>cases h; exact ⟨j,Grows.refl _ _ _,Nat.le_refl _,hS,hv.scalar rfl,fun h=>h,New.refl _ _,rfl⟩
  case sl0=>cases h; cases hv; exact ⟨j,Grows.refl _ _ _,Nat.le_refl _,hS,.sl0 _,fun h=>h,New.refl _ _,rfl⟩
  case list rows=>
   cases h
   cases hv with
   | list h1 h2 h3 h5=>exact ⟨j,Grows.refl _ _ _,Nat.le_refl _,hS,.list h1 h2 (h3.mono hZ) (h5.imp id fun ⟨e,rb,ro,ha,hf⟩=>⟨e,rb,ro,ha,hf.mono hZ⟩),fun h=>rfl,New.refl _ _,rfl⟩
  case agg cs=>
   obtain ⟨⟨ts,H3⟩,h1,h⟩:=Option.map_eq_some_iff.mp h
   cases h
   cases hv with
   | agg hc hv=>
    obtain ⟨j',a1,a2,a3,a4,a5,a6,z1⟩:=takeL_list ih N Bad cs H1 ts _ _ K j h1 hv hS hZ hN
    exact ⟨j',a1,a2,a3,.agg (a5 hc) a4,(fun h=>by cases h),a6,z1⟩
  case tup cs=>
   obtain ⟨⟨ts,H3⟩,h1,h⟩:=Option.map_eq_some_iff.mp h
   cases h
   cases hv with
   | tup hl hv=>
    have hv':VRs j1 cs _:=VRs.of_get hl fun i d v g1 g2=>hv i d v g1 g2 (takeL_ne h1 d (List.mem_of_getElem? g1))
    obtain ⟨j',a1,a2,a3,a4,a5,a6,z1⟩:=takeL_list ih N Bad cs H1 ts _ _ K j h1 hv' hS hZ hN
    refine ⟨j',a1,a2,a3,.tup a4.length fun i d v g1 g2 g3=>?_,(fun h=>by cases h),a6,z1⟩
    obtain ⟨u,g4,g5⟩:=a4.get g1
    rw [g4] at g2; cases g2; exact g5
  case sl b off len=>
   obtain ⟨blk,hblk,h⟩:=Option.bind_eq_some_iff.mp h
   split at h
   ·rename_i hcond
    have hle:=hcond
    obtain ⟨⟨ts,H3⟩,h1,h⟩:=Option.map_eq_some_iff.mp h
    cases h
    have hlen2:((blk.drop off).take len).length=len:=by simp; omega
    have hset:HR j1 b1 (H1.set b none) w:=hS.own.drop b
    cases hv with
    | sl k1 k2=>
     rename_i a cap
     by_cases hcap:cap=0
     ·have h0:len=0:=by omega
      subst h0 hcap
      rw [List.take_zero] at h1
      cases h1
      have hN':K.length + 1≤N:=by simpa [layL,mapS] using hN
      have hnone:=hS.fresh K.length (Nat.le_refl _) (by omega)
      have hK:∀ {c blk' p'},getBlk (K++[some ([]:Rows)]) c=some blk'→j c=some p'→getBlk K c=some blk':=by
       intro c blk' p' g1 g2
       rcases getBlk_snoc g1 with ⟨rfl,_⟩ | ⟨_,g1⟩
       ·rw [hnone] at g2; cases g2
       ·exact g1
      refine ⟨j,Grows.refl _ _ _,by simp [layL,mapS],⟨hset,?_,?_,⟨?_,?_,hS.hr.fz⟩,?_,?_,?_⟩,.sl (Nat.le_refl _) (.inl rfl),fun _=>rfl,New.refl _ _,rfl⟩
      ·intro b' blk' p g1
       rcases getBlk_set g1 with ⟨_,g1⟩ | ⟨_,g1⟩
       ·cases g1
       ·exact hS.good b' blk' p g1
      ·intro b' blk' p g1
       rcases getBlk_set g1 with ⟨_,g1⟩ | ⟨_,g1⟩
       ·cases g1
       ·exact hS.nz b' blk' p g1
      ·exact fun c blk' p' g1 g2=>hS.hr.blk c blk' p' (hK g1 g2) g2
      ·exact fun c c' k1 k2 p1 p2 g1 g2 e1 e2=>hS.hr.sep c c' k1 k2 p1 p2 (hK g1 e1) (hK g2 e2) e1 e2
      ·intro c hc hc2; simp [layL,mapS] at hc; exact hS.fresh c (by omega) hc2
      ·intro b' blk' p c blk2 p2 g1 g3 g4 g5
       rcases getBlk_set g1 with ⟨_,g1⟩ | ⟨_,g1⟩
       ·cases g1
       ·exact hS.cross b' blk' p c blk2 p2 g1 g3 (hK g4 g5) g5
      ·exact fun c blk' p' g1 g2=>hS.av c blk' p' (hK g1 g2) g2
     ·rcases k2 with k2 | ⟨p,hp,hC,rfl⟩
      ·exact absurd k2 hcap
      ·have hB:=hS.own.blk b blk p hblk hp
       obtain ⟨vss,r1,r2⟩:=hB.vrows ((blk.drop off).take len) off fun k row hk=>by
        rw [List.getElem?_take] at hk
        split at hk
        ·simpa using hk
        ·cases hk
       have hcells:∀ r ∈ (blk.drop off).take len,r.length=p.e∧r.all D.isCell=true:=by
        intro r hr
        obtain ⟨k,hk⟩:=List.getElem?_of_mem (List.mem_of_mem_drop (List.mem_of_mem_take hr))
        obtain ⟨q1,q2⟩:=hB.rows k r hk
        refine ⟨q1,List.all_eq_true.mpr fun d hd=>?_⟩
        obtain ⟨f,hf⟩:=List.getElem?_of_mem hd
        exact (q2 f d hf).1
       have hS1:St j1 b1 base w N (fun rb=>Bad rb∨rb=p.rb) (H1.set b none) K j:=by
        refine ⟨hset,?_,?_,hS.hr,hS.fresh,?_,?_⟩
        ·intro b' blk' p' g1 g3
         rcases getBlk_set g1 with ⟨_,g1⟩ | ⟨hne,g1⟩
         ·cases g1
         ·rintro (hbad | hrb)
          ·exact hS.good b' blk' p' g1 g3 hbad
          ·exact hS.own.sep b' b blk' blk p' p g1 hblk g3 hp hne hrb
        ·intro b' blk' p' g1
         rcases getBlk_set g1 with ⟨_,g1⟩ | ⟨_,g1⟩
         ·cases g1
         ·exact hS.nz b' blk' p' g1
        ·intro b' blk' p' c blk2 p2 g1 g3 g4 g5
         rcases getBlk_set g1 with ⟨_,g1⟩ | ⟨_,g1⟩
         ·cases g1
         ·exact hS.cross b' blk' p' c blk2 p2 g1 g3 g4 g5
        ·intro c blk' p' g1 g2
         rintro (hbad | hrb)
         ·exact hS.av c blk' p' g1 g2 hbad
         ·exact hS.cross b blk p c blk' p' hblk hp g1 g2 hrb
       obtain ⟨j2,a1,a2,a3,a4,a5,a6,a7,a8,z1⟩:=takeL_rows ih N _ _ _ ts H3 vss K j h1 r1 hS1 hZ (by
        have h9:((mapS (mapS (layL n)) ts K).2++[some (mapS (mapS (layL n)) ts K).1]).length≤N:=hN
        rw [List.length_append,List.length_singleton] at h9; omega)
       have a5':=a5 fun r hr=>(hcells r hr).2
       obtain ⟨hbase,cs,el,fr,hheap,hfr,hCC⟩:=hB.own
       have hj2:=a3.fresh _ (Nat.le_refl _) (by
        have h9:((mapS (mapS (layL n)) ts K).2++[some (mapS (mapS (layL n)) ts K).1]).length≤N:=hN
        rw [List.length_append,List.length_singleton] at h9; omega)
       generalize hR:mapS (mapS (layL n)) ts K=R at a1 a2 a3 a4 a5' a7 hj2
       have hlay:layL (n + 1) (.list ts) K=(.sl R.2.length 0 ts.length,R.2++[some R.1]):=by
        simp only [layL,hR]
       rw [hlay]
       simp only
       have hnew:BR (upd j2 R.2.length ⟨p.rb,p.ro + off * p.e,p.e,p.C - off⟩) base w R.1 ⟨p.rb,p.ro + off * p.e,p.e,p.C - off⟩:=by
        refine ⟨fun i row hr=>?_,hB.lt,⟨Nat.le_trans hb hbase,cs,el,fr,hheap,hfr,?_⟩,by rw [show (upd j2 R.2.length ⟨p.rb,p.ro + off * p.e,p.e,p.C - off⟩).fz=j.fz from z1]; exact hS.nz b blk p hblk hp⟩
        ·obtain ⟨vs,s1,s2⟩:=a4.get hr
         have hsrc:∃ r0,((blk.drop off).take len)[i]? = some r0∧r0.length=vs.length:=by
          have hi:i < ((blk.drop off).take len).length:=by have:=get_lt (show R.1[i]? = some row from hr); omega
          refine ⟨_,List.getElem?_eq_getElem hi,?_⟩
          obtain ⟨vs',u1,u2⟩:=r1.get (List.getElem?_eq_getElem hi)
          rw [s1] at u1; cases u1
          exact u2.length
         obtain ⟨r0,u1,u2⟩:=hsrc
         refine ⟨by rw [s2.length,← u2]; exact (hcells r0 (List.mem_of_getElem? u1)).1,fun f d hd=>⟨(List.all_eq_true.mp (a5' row (List.mem_of_getElem? hr))) d (List.mem_of_getElem? hd),?_⟩⟩
         obtain ⟨v,v1,v2⟩:=s2.get hd
         refine ⟨v,?_,v2.mono (upd_ext _ hj2)⟩
         have:=r2 i vs s1 f v v1
         rw [← this]
         congr 1
         unfold Pl.at
         simp only [Nat.add_mul]
         congr 1
         omega
        ·show p.ro + off * p.e + (p.C - off) * p.e≤_
         rw [Nat.add_assoc,← Nat.add_mul,show off + (p.C - off)=p.C by omega]
         exact hCC
       have hadd:=a3.hr.addAt hj2 hnew (fun c blk' p' g1 g2 g3=>absurd (Or.inr g3) (a3.av c blk' p' g1 g2))
       have hgood:¬ Bad p.rb:=hS.good b blk p hblk hp
       refine ⟨upd j2 R.2.length ⟨p.rb,p.ro + off * p.e,p.e,p.C - off⟩,a1.trans (upd_grows _ hj2 (by simp)) a2 (by simp),by simp; omega,⟨a3.own,?_,a3.nz,hadd,?_,?_,?_⟩,?_,fun _=>rfl,a8.trans (upd_new hbase) (upd_ext _ hj2),z1⟩
       ·exact fun b' blk' p' g1 g3 hbad=>a3.good b' blk' p' g1 g3 (.inl hbad)
       ·intro c hc hc2
        simp at hc
        rw [upd_ne _ _ (by omega)]
        exact a3.fresh c (by omega) hc2
       ·intro b' blk' p' c blk2 p2 g1 g3 g4 g5
        rcases getBlk_snoc g4 with ⟨rfl,_⟩ | ⟨hlt,g4⟩
        ·rw [upd_self] at g5; cases g5
         intro e
         exact a3.good b' blk' p' g1 g3 (.inr e.symm)
        ·rw [upd_ne _ _ (by omega)] at g5
         exact a3.cross b' blk' p' c blk2 p2 g1 g3 g4 g5
       ·intro c blk' p' g1 g2
        rcases getBlk_snoc g1 with ⟨rfl,_⟩ | ⟨hlt,g1⟩
        ·rw [upd_self] at g2; cases g2
         exact hgood
        ·rw [upd_ne _ _ (by omega)] at g2
         exact fun hbad=>a3.av c blk' p' g1 g2 (.inl hbad)
       ·rw [a6,hlen2]
        refine .sl k1 (.inr ⟨_,upd_self _ _ _,by simp; omega,?_⟩)
        simp [Pl.at]
   ·cases h
end Go.Ev
namespace Go.Ev
open Go.RowKit
set_option linter.unusedVariables false
set_option linter.unusedSimpArgs false
variable {E:Env} {P:Program} {base:Nat} {w:World}
def ExtOk (E:Env) (P:Program):Prop:=
 ∀ g ds H r rec,callFn E rec .ext g ds H=some r→∀ (j:Inj) (base:Nat) (w:World) (vs:List Value),ARs j ds vs→HR j base H w→(∀ b,H.length≤b→b < r.2.length→j b=none)→base≤w.heap.size →
  CallR P g vs.toArray w fun v w'=>Stp base j H w r.1 r.2 v w'∧Step w.heap.size j base H w r.1 r.2 v w'
theorem ARs.full {j:Inj} {ds:List D} {vs:List Value} (hA:ARs j ds vs) {l:Bool} {H:Heap} {ts:List D} (h:optAll (readT l depth H) ds=some ts):VRs j ds vs:=
 VRs.of_get hA.1 fun i d v g1 g2=>hA.2 i d v g1 g2 (read_ne (readT_undef l depth H) h d (List.mem_of_getElem? g1))
theorem readA_undef (H:Heap):readA H .undef=none:=rfl
theorem ARs.fullA {j:Inj} {ds:List D} {vs:List Value} (hA:ARs j ds vs) {H:Heap} {ts:List D} (h:optAll (readA H) ds=some ts):VRs j ds vs:=
 VRs.of_get hA.1 fun i d v g1 g2=>hA.2 i d v g1 g2 (read_ne (readA_undef H) h d (List.mem_of_getElem? g1))
theorem readA_ok {j:Inj} {H:Heap} (hH:HR j base H w) {d t:D} {v:Value} (h:readA H d=some t) (hv:VR j d v):VR (frz fun rb=>w.heap[rb]?) t v:=by
 have plain:∀ {d:D},VR j d v→readT true depth H d=some t→VR (frz fun rb=>w.heap[rb]?) t v:=fun hv h=>(read_ok (fz':=fun rb=>w.heap[rb]?) hH (fun _=>hH.fz) depth _ t v (fun _ _ _ _ _ _=>rfl) h hv).1
 cases d <;> try exact plain hv h
 case ptr b i f=>
  obtain ⟨row,hrow,h⟩:=Option.bind_eq_some_iff.mp h
  obtain ⟨r,h1,h⟩:=Option.map_eq_some_iff.mp h
  obtain ⟨rows,hblk,hi⟩:=Option.bind_eq_some_iff.mp hrow
  cases h
  cases hv with
  | ptr hp=>
   rename_i p
   have hB:=hH.blk b rows p hblk hp
   obtain ⟨vss,r1,r2⟩:=hB.vrows [row] i fun k row' hk=>by
    cases k with
    | zero=>simp at hk; subst hk; simpa using hi
    | succ k=>simp at hk
   cases r1 with
   | cons h2 h3=>
    rename_i vs vss
    have hc:row.all D.isCell=true:=List.all_eq_true.mpr fun d hd=>by
     obtain ⟨f,hf⟩:=List.getElem?_of_mem hd
     exact ((hB.rows i row hi).2 f d hf).1
    obtain ⟨a1,a2⟩:=read_list (fun d hd t v h2 h3=>read_ok hH (fun _=>hH.fz) 8 d t v (fun _ _ _ _ _ _=>rfl) h2 h3) h1 h2
    obtain ⟨hbase,cs,el,fr,hheap,hfr,hCC⟩:=hB.own
    have:=VR.el (j:=frz fun rb=>w.heap[rb]?) (f:=f) (a2 hc) (rb:=p.rb) (o:=p.ro + i * p.e) ⟨cs,el,fr,hheap,fun k v hk=>by
     have:=r2 0 vs rfl k v hk
     simp only [World.cell?,Pl.at,hheap] at this
     simpa using this⟩
    exact this
 case el row f=>
  cases h
  cases hv with
  | el h1 h2=>exact .el (h1.mono hH.fz) (h2.mono hH.fz)
theorem VR.frzC {j:Inj} {d:D} {v:Value} (h:VR j d v) (hd:Ev.frzC d=true):VR (frz j.fz) d v:=by
 cases h with
 | int k n=>exact .int k n
 | bool b=>exact .bool b
 | str l=>exact .str l
 | sl0 a=>exact .sl0 a
 | list h1 h2 h3 h4=>exact .list h1 h2 h3 h4
 | el h1 h2=>exact .el h1 h2
 | _=>cases hd
theorem VRs.frzC {j:Inj}:∀ {ds:List D} {vs:List Value},VRs j ds vs→ds.all Ev.frzC=true→VRs (frz j.fz) ds vs
 | _,_,.nil,_=>.nil
 | _,_,.cons h hs,hd=>by
  simp only [List.all_cons,Bool.and_eq_true] at hd
  exact .cons (h.frzC hd.1) (hs.frzC hd.2)
theorem VR.frzD {j:Inj} {d:D} {v:Value} (h:VR j d v) (hd:Ev.frzD d=true):VR (frz j.fz) d v:=by
 cases d with
 | agg cs=>
  cases h with
  | agg hc h=>exact .agg hc (h.frzC hd)
 | _=>exact h.frzC hd
theorem frzD_ne {d:D} (h:Ev.frzD d=true):d ≠ .undef:=by rintro rfl; cases h
theorem VRs.frzD {j:Inj}:∀ {ds:List D} {vs:List Value},VRs j ds vs→ds.all Ev.frzD=true→VRs (frz j.fz) ds vs
 | _,_,.nil,_=>.nil
 | _,_,.cons h hs,hd=>by
  simp only [List.all_cons,Bool.and_eq_true] at hd
  exact .cons (h.frzD hd.1) (hs.frzD hd.2)
theorem takeL_ne' {n:Nat} {H:Heap} {d:D} {t:D×Heap} (h:takeL n d H=some t):d ≠ .undef:=by
 rintro rfl
 cases n <;> cases h
theorem readA_vrs {j:Inj} {H:Heap} (hH:HR j base H w):∀ {ds ts:List D} {vs:List Value},optAll (readA H) ds=some ts→VRs j ds vs→VRs (frz fun rb=>w.heap[rb]?) ts vs
 | [],ts,vs,h,hv=>by
  cases h; cases hv; exact .nil
 | d :: ds,ts,vs,h,hv=>by
  obtain ⟨t,h1,h⟩:=Option.bind_eq_some_iff.mp h
  obtain ⟨ts',h2,h⟩:=Option.bind_eq_some_iff.mp h
  cases h
  cases hv with
  | cons hv hvs=>exact .cons (readA_ok hH h1 hv) (readA_vrs hH h2 hvs)
theorem VRs.ars {j:Inj} {ds:List D} {vs:List Value} (h:VRs j ds vs):ARs j ds vs:=⟨h.length,fun i d v g1 g2 _=>by
 obtain ⟨u,g3,g4⟩:=h.get g1
 rw [g3] at g2; cases g2; exact g4⟩
theorem VR.of_frz {fz:Frz} {j:Inj} {d:D} {v:Value} (h:VR (frz fz) d v) (he:∀ b o,fz b=some o→j.fz b=some o):VR j d v:=
 h.mono ⟨(fun b p h=>by cases h),he⟩
theorem readT_ne {l:Bool} {n:Nat} {H:Heap} {d t:D} (h:readT l n H d=some t):d ≠ .undef:=by
 rintro rfl
 rw [readT_undef] at h; cases h
theorem takeT_ne {n:Nat} {H:Heap} {d:D} {t:D×Heap} (h:takeT n d H=some t):d ≠ .undef:=by
 rintro rfl
 cases n <;> cases h
theorem tree_call (hE:EnvOk E P) {rec:FuncId→List Item→Slots→Heap→R} (hrec:RecOk E P rec) {g:FuncId} {ts:List D} {q:D×Heap} (hq:enter E rec g ts []=some q) {fz0:Frz} (hz:∀ rb o,fz0 rb=some o→w.heap[rb]? = some o)
  {vs:List Value} (hA:VRs (frz fz0) ts vs) {R:Value→World→Prop}
  (hR:∀ v w' j1,Ext (frz fz0) j1→(q.1 ≠ .undef→VR j1 q.1 v)→HR j1 w.heap.size q.2 w'→NewZ w.heap.size (frz fz0) j1→Below w.heap.size w w'→R v w'):CallR P g vs.toArray w R:=by
 have h0:HR (frz fz0) w.heap.size [] w:=⟨(fun b rws p h=>by cases h),(fun b b' rws rws' p p' h=>by cases h),hz⟩
 obtain ⟨c1,c2⟩:=enter_ok hE hrec hq hA.ars h0 (fun _ _=>rfl) (Nat.le_refl _)
 refine .inr ⟨c1,Calls.mono c2 ?_⟩
 rintro e w' ⟨v,rfl,⟨⟨⟨j1,k1,k2,k3,k4⟩,k5⟩,k6⟩⟩
 exact ⟨v,rfl,hR v w' j1 k1.ext k2 k3 k4 k5⟩
open Classical in
theorem call_ok (hE:EnvOk E P) (hx:ExtOk E P) {rec:FuncId→List Item→Slots→Heap→R} (hrec:RecOk E P rec):CallOk E P rec:=by
 intro m g ds H r h j base w vs hA hH hF hb
 -- the whole heap of the caller,for a call that cannot write it
 have snap:∀ {ts},optAll (readA H) ds=some ts→VRs (frz fun rb=>w.heap[rb]?) ts vs:=fun h1=>readA_vrs hH h1 (hA.fullA h1)
 have hlt:∀ {rb o},j.fz rb=some o→rb < w.heap.size:=fun h=>(Array.getElem?_eq_some_iff.1 (hH.fz _ _ h)).1
 cases m with
 | pure=>
  unfold callFn at h
  obtain ⟨ts,h1,h⟩:=Option.bind_eq_some_iff.mp h
  obtain ⟨t,h2,h⟩:=Option.bind_eq_some_iff.mp h
  cases h
  obtain ⟨q,hq,h2⟩:=Option.bind_eq_some_iff.mp h2
  refine tree_call hE hrec hq (fun _ _ h=>h) (snap h1) fun v w' j1 k1 k2 k3 k4 k5=>?_
  let fz':Frz:=fun rb=>if rb < w.heap.size then j.fz rb else w'.heap[rb]?
  have hext:∀ b o,j.fz b=some o→fz' b=some o:=fun b o h=>by simp only [fz',if_pos (hlt h)]; exact h
  have hres:=(read_ok k3 (fz':=fz') (fun h=>by cases h) depth q.1 t v (fun b rows p _ g1 g2=>by
   have:=(k3.blk b rows p g1 g2).own.1
   simp only [fz',if_neg (show ¬ p.rb < w.heap.size by omega)]) h2 (k2 (readT_ne h2))).1
  have hst:Step w.heap.size j base H w t H v w':=by
   refine ⟨⟨⟨j.pl,fz'⟩,⟨⟨fun _ _ h=>h,hext⟩,fun _ _=>rfl⟩,fun _=>hres.of_frz fun _ _ h=>h,⟨fun b rws p g1 g2=>?_,hH.sep,fun rb o hz=>?_⟩,⟨fun b p g1 g2=>?_,fun b o g1 g2=>?_⟩⟩,k5⟩
   ·have hB:=hH.blk b rws p g1 g2
    refine hB.grow ⟨fun _ _ h=>h,hext⟩ ?_ k5
    simp only [fz',if_pos hB.lt]; exact hB.nz
   ·by_cases hlt':rb < w.heap.size
    ·simp only [fz',if_pos hlt'] at hz
     exact hH.fz_below k5 rb o hz
    ·simp only [fz',if_neg hlt'] at hz; exact hz
   ·rw [g1] at g2; cases g2
   ·by_cases hlt':b < w.heap.size
    ·simp only [fz',if_pos hlt'] at g2
     rw [g1] at g2; cases g2
    ·omega
  exact ⟨⟨(hst.mono hb).weak,Nat.le_refl _⟩,fun _=>hst⟩
 | own=>
  unfold callFn at h
  obtain ⟨ts,h1,h⟩:=Option.bind_eq_some_iff.mp h
  obtain ⟨t,h2,h⟩:=Option.bind_eq_some_iff.mp h
  cases h
  obtain ⟨q,hq,h2⟩:=Option.bind_eq_some_iff.mp h2
  obtain ⟨⟨t',H2⟩,ht,rfl⟩:=Option.map_eq_some_iff.mp h2
  refine tree_call hE hrec hq (fun _ _ h=>h) (snap h1) fun v w' j1 k1 k2 k3 k4 k5=>?_
  have hSt:St j1 w.heap.size base w' (layT depth t' H).2.length (fun _=>False) q.2 H j:=by
   refine ⟨k3,fun _ _ _ _ _ h=>h,fun b blk p g1 g2=>?_,hH.grow k5,fun b g1 g2=>hF b g1 (.inr g2),?_,fun _ _ _ _ _ h=>h⟩
   ·exact hH.fz_none ((k3.blk b blk p g1 g2).own).1
   ·intro b blk p c blk' p' g1 g3 g4 g5 e
    have:=((k3.blk b blk p g1 g3).own).1
    have:=(hH.blk c blk' p' g4 g5).lt
    omega
  obtain ⟨j',b1,b2,b3,b4,b5,b6,-⟩:=take_ok j1 w.heap.size base w' hb depth _ (fun _=>False) q.1 q.2 t' H2 v H j ht (k2 (takeT_ne ht)) hSt (Nat.le_refl _)
  have hst:Step w.heap.size j base H w (layT depth t' H).1 (layT depth t' H).2 v w':=⟨⟨j',b1,fun _=>b4,b3.hr,b6⟩,k5⟩
  exact ⟨⟨(hst.mono hb).weak,b2⟩,fun _=>hst⟩
 | view=>
  unfold callFn at h
  obtain ⟨ts,h1,h⟩:=Option.bind_eq_some_iff.mp h
  obtain ⟨t,h2,h⟩:=Option.bind_eq_some_iff.mp h
  cases h
  obtain ⟨q,hq,h2⟩:=Option.bind_eq_some_iff.mp h2
  have hK:Kl H (ds.foldl (fun K d=>killT depth H d K) H):=fold_kl (fun d K=>killT depth H d K) (kill_kl depth H) ds H
  generalize hH2:ds.foldl (fun K d=>killT depth H d K) H=H2 at hK
  let Kd:Nat→Prop:=fun rb=>∃ b rows p,getBlk H b=some rows∧j b=some p∧p.rb=rb∧getBlk H2 b=none
  let fz0:Frz:=fun rb=>if Kd rb then w.heap[rb]? else j.fz rb
  have hz0:∀ rb o,fz0 rb=some o→w.heap[rb]? = some o:=fun rb o h=>by
   simp only [fz0] at h
   split at h
   ·exact h
   ·exact hH.fz rb o h
  have hsub:∀ rb o,j.fz rb=some o→fz0 rb=some o:=fun rb o h=>by
   simp only [fz0]
   split
   ·exact hH.fz rb o h
   ·exact h
  have hargs:VRs (frz fz0) ts vs:=(read_list (fun d hd t v h2 h3=>read_ok hH (fun _=>hsub) depth d t v (fun b rows p hv g1 g2=>by
   have:Kd p.rb:=⟨b,rows,p,g1,g2,rfl,by
    rw [← hH2]
    exact fold_mem (fun d K=>killT depth H d K) (kill_kl depth H) (kill_vis depth H d b hv) ds H hd⟩
   simp only [fz0,if_pos this]) h2 h3) h1 (hA.full h1)).1
  refine tree_call hE hrec hq hz0 hargs fun v w' j1 k1 k2 k3 k4 k5=>?_
  let fz':Frz:=fun rb=>if rb < w.heap.size then fz0 rb else w'.heap[rb]?
  have hext:∀ b o,j.fz b=some o→fz' b=some o:=fun b o h=>by simp only [fz',if_pos (hlt h)]; exact hsub b o h
  have hj1:∀ rb o,j1.fz rb=some o→fz' rb=some o:=fun rb o h=>by
   by_cases hl:rb < w.heap.size
   ·simp only [fz',if_pos hl]
    cases hx:fz0 rb with
    | none=>have:=k4 rb o hx h; omega
    | some o'=>have:=k1.fz rb o' hx; rw [h] at this; exact this.symm
   ·simp only [fz',if_neg hl]; exact k3.fz rb o h
  have hres:=(read_ok k3 (fz':=fz') (fun _=>hj1) depth q.1 t v (fun b rows p _ g1 g2=>by
   have:=(k3.blk b rows p g1 g2).own.1
   simp only [fz',if_neg (show ¬ p.rb < w.heap.size by omega)]) h2 (k2 (readT_ne h2))).1
  refine ⟨⟨⟨⟨⟨j.pl,fz'⟩,⟨⟨fun _ _ h=>h,hext⟩,fun _ _=>rfl⟩,fun _=>hres.of_frz fun _ _ h=>h,⟨fun b rws p g1 g2=>?_,fun b b' r r' p p' g1 g2 g3 g4=>hH.sep b b' r r' p p' (hK.sub b r g1) (hK.sub b' r' g2) g3 g4,fun rb o hz=>?_⟩,fun b o g1 g2=>?_⟩,k5.mono hb⟩,by rw [hK.len]; exact Nat.le_refl _⟩,fun h=>by cases h⟩
  ·have hB:=hH.blk b rws p (hK.sub b rws g1) g2
   refine hB.grow ⟨fun _ _ h=>h,hext⟩ ?_ k5
   simp only [fz',if_pos hB.lt]
   simp only [fz0]
   rw [if_neg]
   ·exact hB.nz
   ·rintro ⟨b',rows',p',q1,q2,q3,q4⟩
    by_cases e:b'=b
    ·rw [e,g1] at q4; cases q4
    ·exact hH.sep b' b rows' rws p' p q1 (hK.sub b rws g1) q2 g2 e q3
  ·by_cases hlt':rb < w.heap.size
   ·simp only [fz',if_pos hlt'] at hz
    rw [k5.block rb hlt']
    exact hz0 rb o hz
   ·simp only [fz',if_neg hlt'] at hz; exact hz
  ·by_cases hlt':b < w.heap.size
   ·simp only [fz',if_pos hlt'] at g2
    simp only [fz0] at g2
    split at g2
    ·rename_i hk
     obtain ⟨b',rows',p',q1,q2,q3,q4⟩:=hk
     have:=(hH.blk b' rows' p' q1 q2).own.1
     omega
    ·rw [g1] at g2; cases g2
   ·omega
 | raw=>
  unfold callFn at h
  obtain ⟨c1,c2⟩:=enter_ok hE hrec h hA hH (fun b g1=>hF b g1 (.inl rfl)) hb
  exact .inr ⟨c1,Calls.mono c2 fun e w' ⟨v,e1,e2⟩=>⟨v,e1,e2,fun hne=>by cases hne⟩⟩
 | shr=>
  unfold callFn at h
  cases hall:ds.all frzD with
  | false=>simp only [hall,cond_false] at h; cases h
  | true=>
   simp only [hall,cond_true] at h
   obtain ⟨q,hq,h⟩:=Option.bind_eq_some_iff.mp h
   obtain ⟨⟨t',H2⟩,ht,h⟩:=Option.bind_eq_some_iff.mp h
   cases h
   have hfull:VRs j ds vs:=VRs.of_get hA.1 fun i d v g1 g2=>hA.2 i d v g1 g2 (frzD_ne ((List.all_eq_true.mp hall) d (List.mem_of_getElem? g1)))
   refine tree_call hE hrec hq hH.fz (hfull.frzD hall) fun v w' j1 k1 k2 k3 k4 k5=>?_
   let j0:Inj:=⟨j.pl,j1.fz⟩
   have he:Ext j j0:=⟨fun _ _ h=>h,fun b o h=>k1.fz b o h⟩
   have hnz:∀ {b blk p},getBlk H b=some blk→j b=some p→j1.fz p.rb=none:=fun {b blk p} g1 g2=>by
    have hB:=hH.blk b blk p g1 g2
    cases hx:j1.fz p.rb with
    | none=>rfl
    | some o=>
     have:=k4 p.rb o hB.nz hx
     have:=hB.lt
     omega
   have hH0:HR j0 base H w':=⟨fun b blk p g1 g2=>(hH.blk b blk p g1 g2).grow he (hnz g1 g2) k5,hH.sep,k3.fz⟩
   have hSt:St j1 w.heap.size base w' (layL depth t' H).2.length (fun _=>False) q.2 H j0:=by
    refine ⟨k3,fun _ _ _ _ _ h=>h,fun b blk p g1 g2=>(k3.blk b blk p g1 g2).nz,hH0,fun b g1 g2=>hF b g1 (.inr g2),?_,fun _ _ _ _ _ h=>h⟩
    intro b blk p c blk' p' g1 g3 g4 g5 e
    have:=((k3.blk b blk p g1 g3).own).1
    have:=(hH.blk c blk' p' g4 g5).lt
    omega
   obtain ⟨j',b1,b2,b3,b4,b5,b6,b7⟩:=takeL_ok j1 w.heap.size base w' hb depth _ (fun _=>False) q.1 q.2 t' H2 v H j0 ht (k2 (takeL_ne' ht)) hSt (fun _ _ h=>h) (Nat.le_refl _)
   have hst:Step w.heap.size j base H w (layL depth t' H).1 (layL depth t' H).2 v w':=by
    refine ⟨⟨j',⟨⟨fun b p h=>b1.ext.pl b p h,fun b o h=>b1.ext.fz b o (he.fz b o h)⟩,b1.same⟩,fun _=>b4,b3.hr,⟨b6.pl,fun b o g1 g2=>?_⟩⟩,k5⟩
    rw [b7] at g2
    exact k4 b o g1 g2
   exact ⟨⟨(hst.mono hb).weak,b2⟩,fun _=>hst⟩
 | ext=>
  obtain h' | h':=hx g ds H r rec h j base w vs hA hH (fun b g1 g2=>hF b g1 (.inr g2)) hb
  ·obtain ⟨v,w',c1,c2⟩:=h'
   exact .inl ⟨v,w',c1,c2.1,fun _=>c2.2⟩
  ·exact .inr ⟨h'.1,Calls.mono h'.2 fun e w' ⟨v,e1,e2⟩=>⟨v,e1,e2.1,fun _=>e2.2⟩⟩
end Go.Ev
