import Derived.Test.YtmpfooibdekppaaGreatDoorD2
namespace Go.Ev.YtmpfooibdekppaaGreatDoor
set_option linter.unusedVariables false
set_option linter.unusedSimpArgs false
set_option linter.unusedSectionVars false
set_option linter.defProp false
set_option maxHeartbeats 1000000
open Go.Ev
def fin (g:Get SClass) (s:List UInt8) (bad:Bool):Option SClass:=match (if bad=true then none else g s) with
 | some (c,[])=>some c
 | _=>none
theorem fin_seq {α:Type} {g:Get α} {h:α→Get SClass} {s s1:List UInt8} {bad b1:Bool} {a:α} (t:Took g s bad a s1 b1):fin (bindG g h) s bad=fin (h a) s1 b1:=by
 obtain ⟨-,t⟩:=t
 cases bad with
 | true=>simp at t; subst t; rfl
 | false=>
  simp only [Bool.false_eq_true,if_false] at t
  unfold fin bindG
  simp only [Bool.false_eq_true,if_false]
  cases hg:g s with
  | none=>rw [hg] at t; simp only at t; subst t; rfl
  | some q=>
   rw [hg] at t
   simp only at t
   obtain ⟨rfl,rfl,rfl⟩:=t
   simp
theorem bindG_assoc {α β γ:Type} (g:Get α) (h:α→Get β) (k:β→Get γ):bindG (bindG g h) k=bindG g fun a=>bindG (h a) k:=by
 funext s
 unfold bindG
 simp only [Option.bind_assoc]
theorem fin_many {α:Type} {f:Get α} {n:Nat} {h:List α→Get SClass} {s s1:List UInt8} {bad b1:Bool} {a:α} (t:Took f s bad a s1 b1):fin (bindG (gMany f (n + 1)) h) s bad=fin (bindG (gMany f n) fun l=>h (a :: l)) s1 b1:=by
 show fin (bindG (bindG f fun a=>bindG (gMany f n) fun l=>pureG (a :: l)) h) s bad=_
 rw [bindG_assoc,fin_seq t,bindG_assoc]
 rfl
theorem fin_list {α:Type} {f:Get α} {most:Int} {h:List α→Get SClass} {s s1:List UInt8} {bad b1:Bool} {k:Nat} (t:Took (gUp most gOne) s bad (k:Int) s1 b1):fin (bindG (gList most f) h) s bad=fin (bindG (gMany f k) h) s1 b1:=by
 show fin (bindG (bindG (gUp most gOne) fun n=>gMany f n.toNat) h) s bad=_
 rw [bindG_assoc,fin_seq t]
 rfl
def FOut (res:Option (D×Heap)) (q:Option SClass):Prop:=∃ cs H' L,res=some (.tup [.agg cs,.bool q.isSome],H')∧Own H' (.val 5 (.agg cs) (.agg (q.getD {}).row) :: L)
abbrev crow (c:SClass):List Cell:=c.row.map Cell.own
abbrev zcls:List D:=[.sl0,.int .i64 0,.int .i64 0,.int .i64 0,.sl0,.sl0,.sl0]
theorem zcls_rep:RepR true [] 4 zcls (({}:SClass)).row []:=
 .cons (B:=[]) (B':=[]) .sl0 (.cons (B:=[]) (B':=[]) (.sc rfl) (.cons (B:=[]) (B':=[]) (.sc rfl) (.cons (B:=[]) (B':=[]) (.sc rfl) (.cons (B:=[]) (B':=[]) .sl0 (.cons (B:=[]) (B':=[]) .sl0 (.cons (B:=[]) (B':=[]) .sl0 .nil))))))
theorem zcls_nil:∀ f:Nat,(({}:SClass)).row[f]? = some (D.list [])→zcls[f]? = some D.sl0:=fun f hf=>by
 rcases f with _ | _ | _ | _ | _ | _ | _ | f <;> simp [SClass.row,zcls] at hf ⊢
theorem fnone {H:Heap} {L:List Asset} {q:Nat} {ts0:List Cell} (h:Own H (.var 4 q ts0 :: L)) (h0:ts0.length=7):FOut ((bld [.sl0,.int .i64 0,.int .i64 0,.int .i64 0,.sl0,.sl0,.sl0] [(0,1,false),(1,1,false),(2,1,false),(3,1,false),(4,1,false),(5,1,false),(6,1,false)] []).bind fun v=>(st 7 H (.ptr q 0 0) v).bind fun H1=>ret_ H1 [ld true 7 H1 (.ptr q 0 0),some (D.bool false)]) none:=by
 obtain ⟨H',e1,h1,e2⟩:=h.init (cs:=zcls) (ts:=(({}:SClass)).row) (zcls_rep.frame fun c hc=>by cases hc) rfl zcls_nil (z:=7) rfl h0
 obtain ⟨cs,e3,h3,-⟩:=h1.whole (z:=7) rfl
 rw [e2] at e3
 cases e3
 rw [show bld [.sl0,.int .i64 0,.int .i64 0,.int .i64 0,.sl0,.sl0,.sl0] [(0,1,false),(1,1,false),(2,1,false),(3,1,false),(4,1,false),(5,1,false),(6,1,false)] []=some (.agg zcls) from rfl]
 simp only [Option.bind_some,e1,e2,ret_two]
 exact ⟨_,_,_,rfl,h3⟩
theorem fsome {H:Heap} {L:List Asset} {p q:Nat} {c:SClass} {ts0:List Cell} (h:Own H (.var 4 p (crow c) :: .var 4 q ts0 :: L)) (h0:ts0.length=7):FOut ((ld true 7 H (.ptr p 0 0)).bind fun v=>(st 7 H (.ptr q 0 0) v).bind fun H1=>ret_ H1 [ld true 7 H1 (.ptr q 0 0),some (D.bool true)]) (some c):=by
 obtain ⟨cs,H',e1,e2,e3,h1⟩:=h.copyout (z:=7) rfl h0
 simp only [e1,e2,e3,Option.bind_some,ret_two]
 exact ⟨_,_,_,rfl,h1⟩
theorem fend {H:Heap} {L:List Asset} {b p q:Nat} {c:SClass} {ts0:List Cell} {s:List UInt8} {bad:Bool} (h:Own H (.var 4 p (crow c) :: .var 4 q ts0 :: tk b s bad :: L)) (h0:ts0.length=7) :
  FOut ((nilCheck (.ptr b 0 0)).bind fun v107=>(fa 1 v107).bind fun v108=>(ld false 1 H v108).bind fun v109=>asB v109 fun t=>bif t then ((bld [.sl0,.int .i64 0,.int .i64 0,.int .i64 0,.sl0,.sl0,.sl0] [(0,1,false),(1,1,false),(2,1,false),(3,1,false),(4,1,false),(5,1,false),(6,1,false)] []).bind fun v110=>(st 7 H (.ptr q 0 0) v110).bind fun H111=>ret_ H111 [ld true 7 H111 (.ptr q 0 0),some (D.bool false)]) else ((nilCheck (.ptr b 0 0)).bind fun v112=>(fa 0 v112).bind fun v113=>(ld false 1 H v113).bind fun v114=>(bS .neq v114 (D.str [])).bind fun v115=>asB v115 fun t=>bif t then ((bld [.sl0,.int .i64 0,.int .i64 0,.int .i64 0,.sl0,.sl0,.sl0] [(0,1,false),(1,1,false),(2,1,false),(3,1,false),(4,1,false),(5,1,false),(6,1,false)] []).bind fun v116=>(st 7 H (.ptr q 0 0) v116).bind fun H117=>ret_ H117 [ld true 7 H117 (.ptr q 0 0),some (D.bool false)]) else ((ld true 7 H (.ptr p 0 0)).bind fun v118=>(st 7 H (.ptr q 0 0) v118).bind fun H119=>ret_ H119 [ld true 7 H119 (.ptr q 0 0),some (D.bool true)]))) (fin (pureG c) s bad):=by
 have l1:=h.pull2.ld (f:=1) rfl rfl
 have l0:=h.pull2.ld (f:=0) rfl rfl
 simp only [nilCheck_ptr,fa_ptr,Nat.zero_add,l1,l0,Option.bind_some,asB_bool]
 cases bad with
 | true=>exact fnone h.pull1 h0
 | false=>
  simp only [cond_false,bS_neq,asB_bool]
  by_cases hs:s=[]
  ·subst hs
   simp only [decide_true,Bool.not_true,cond_false]
   exact fsome h h0
  ·simp only [hs,decide_false,Bool.not_false,cond_true]
   have:fin (pureG c) s false=none:=by
    cases s with
    | nil=>exact absurd rfl hs
    | cons a r=>rfl
   rw [this]
   exact fnone h.pull1 h0
theorem c68_26 (b p q:Nat) (ts0:List Cell) (h0:ts0.length=7):∀ (n:Nat) (c:SClass) (H:Heap) (L:List Asset) (s:List UInt8) (bad:Bool),Own H (.var 4 p (crow c) :: .var 4 q ts0 :: tk b s bad :: L)→c.Methods.length + n≤1000 →
  FOut (J E 68 26 [.ptr q 0 0,.ptr b 0 0,.ptr p 0 0,.int .i64 n] H) (fin (bindG (gMany gMethod n) fun l=>pureG { c with Methods:=c.Methods++l }) s bad)
 | 0,c,H,L,s,bad,h,hn=>by
  rw [j68_26]
  simp only [bI_gtr,Int.natCast_zero,Int.lt_irrefl,decide_false,Option.bind_some,asB_bool,cond_false]
  have:=fend h h0
  have e:fin (bindG (gMany gMethod 0) fun l=>pureG { c with Methods:=c.Methods++l }) s bad=fin (pureG c) s bad:=by
   show fin (pureG { c with Methods:=c.Methods++[] }) s bad=_
   rw [List.append_nil]
  rw [e]
  exact this
 | n + 1,c,H,L,s,bad,h,hn=>by
  have hgt:(0:Int) < ((n + 1:Nat):Int):=by omega
  have l1:=h.pull2.ld (f:=1) rfl rfl
  rw [j68_26]
  simp only [bI_gtr,hgt,decide_true,Option.bind_some,asB_bool,cond_true,nilCheck_ptr,fa_ptr,Nat.zero_add,l1,unOp_not]
  cases bad with
  | true=>
   have:=fend h h0
   simp only [nilCheck_ptr,fa_ptr,Nat.zero_add,l1,Option.bind_some,asB_bool] at this
   simp only [Bool.not_true,cond_false]
   exact this
  | false=>
   obtain ⟨d,e1,h1⟩:=h.take (f:=6) (t:=.list (c.Methods.map SMethod.row)) rfl
   have hsame:=rep_same h1.val.choose_spec.1
   obtain ⟨cs,H2,s2,b2,m,e2,h2,t2⟩:=c123 h1.pull3
   have l2:=(h2.pull3.ldraw (f:=6) (d:=d) rfl)
   obtain ⟨d3,H3,e3,e4,h3,c3⟩:=h2.pull2.app (n:=3) (t:=m.row) rowOf_agg (esz:=8) (eb:=104) (zero:=[.int .i64 0,.int .i64 0,.int .i64 0,.int .i64 0,.int .i64 0,.str [],.sl0,.sl0]) rfl (by decide) rfl rfl (fun r hr=>by obtain ⟨x,_,rfl⟩:=List.mem_map.mp hr; rfl) (by simp [maxLen]; omega)
   obtain ⟨H5,e5,h5⟩:=h3.pull2.pull1.put (f:=6) (by decide) (by simp [SClass.row]) rfl c3
   simp only [Bool.not_false,cond_true,call_raw,e1,e2,l2,e3,e4,e5,Option.bind_some,again_same hsame,bI_sub]
   rw [wrap_i64 (n:=((n + 1:Nat):Int) - 1) (by omega) (by omega),show ((n + 1:Nat):Int) - 1=(n:Int) by omega,fin_many t2]
   have hrow:((((crow c).set 6 (Cell.raw d)).set 6 (Cell.own (D.list (c.Methods.map SMethod.row++[m.row])))))=crow { c with Methods:=c.Methods++[m] }:=by
    simp [crow,SClass.row]
   rw [hrow] at h5
   have:=c68_26 b p q ts0 h0 n { c with Methods:=c.Methods++[m] } H5 L s2 b2 (h5.pull2.pull1) (by simp; omega)
   simpa using this
theorem fup {H:Heap} {L:List Asset} {b:Nat} {s:List UInt8} {bad:Bool} (h:Own H (tk b s bad :: L)) (most:Int) (hm:0≤most):∃ (k:Nat) (H':Heap) (s':List UInt8) (b':Bool),(∀ F:D×Heap→R,((ent E 120 [.ptr b 0 0] H).bind fun r=>(ent E 119 [.ptr b 0 0,r.1,.int .i64 most] r.2).bind F)=F (.int .i64 k,H'))∧Own H' (tk b s' b' :: L)∧Took (gUp most gOne) s bad (k:Int) s' b'∧(k:Int)≤most:=by
 obtain ⟨t0,H1,s1,b1,e1,h1,t1,g0,g1⟩:=c120 h
 obtain ⟨t,H2,b2,e2,h2,t2,g2,g3,-⟩:=c119 h1 t1 g0 most hm
 obtain ⟨k,rfl⟩:∃ k:Nat,t=k:=⟨t.toNat,by omega⟩
 exact ⟨k,H2,s1,b2,fun F=>by simp only [e1,e2,Option.bind_some],h2,t2,g3⟩
theorem c68_19 (b p q:Nat) (ts0:List Cell) (h0:ts0.length=7):∀ (n:Nat) (c:SClass) (H:Heap) (L:List Asset) (s:List UInt8) (bad:Bool),Own H (.var 4 p (crow c) :: .var 4 q ts0 :: tk b s bad :: L)→c.Fields.length + n≤1000→c.Methods=[] →
  FOut (J E 68 19 [.ptr q 0 0,.ptr b 0 0,.ptr p 0 0,.int .i64 n] H) (fin (bindG (gMany gField n) fun i=>bindG (gList 6 gMethod) fun m=>pureG { c with Fields:=c.Fields++i,Methods:=m }) s bad):=by
 have rest:∀ (c:SClass) (H:Heap) (L:List Asset) (s:List UInt8) (bad:Bool),Own H (.var 4 p (crow c) :: .var 4 q ts0 :: tk b s bad :: L)→c.Methods=[] →
   FOut ((callFn E (exec E) .raw 120 [.ptr b 0 0] H).bind fun r63=>(callFn E (exec E) .raw 119 [.ptr b 0 0,r63.1,(D.int .i64 6)] r63.2).bind fun r64=>J E 68 26 [.ptr q 0 0,.ptr b 0 0,.ptr p 0 0,r64.1] r64.2) (fin (bindG (gList 6 gMethod) fun m=>pureG { c with Methods:=m }) s bad):=by
  intro c H L s bad h hc
  obtain ⟨k,H',s',b',e,h1,t,hk⟩:=fup h.pull2 6 (by decide)
  simp only [call_raw]
  rw [e,fin_list t]
  have:=c68_26 b p q ts0 h0 k c H' L s' b' (h1.pull2.pull2) (by simp [hc]; omega)
  rw [hc] at this
  simpa using this
 intro n
 induction n with
 | zero=>
  intro c H L s bad h hn hc
  rw [j68_19]
  simp only [bI_gtr,Int.natCast_zero,Int.lt_irrefl,decide_false,Option.bind_some,asB_bool,cond_false]
  have:=rest c H L s bad h hc
  have e:fin (bindG (gMany gField 0) fun i=>bindG (gList 6 gMethod) fun m=>pureG { c with Fields:=c.Fields++i,Methods:=m }) s bad=fin (bindG (gList 6 gMethod) fun m=>pureG { c with Methods:=m }) s bad:=by
   show fin (bindG (gList 6 gMethod) fun m=>pureG { c with Fields:=c.Fields++[],Methods:=m }) s bad=_
   rw [List.append_nil]
  rw [e]
  exact this
 | succ n ih=>
  intro c H L s bad h hn hc
  have hgt:(0:Int) < ((n + 1:Nat):Int):=by omega
  have l1:=h.pull2.ld (f:=1) rfl rfl
  rw [j68_19]
  simp only [bI_gtr,hgt,decide_true,Option.bind_some,asB_bool,cond_true,nilCheck_ptr,fa_ptr,Nat.zero_add,l1,unOp_not]
  cases bad with
  | true=>
   simp only [Bool.not_true,cond_false]
   exact rest c H L s true h hc
  | false=>
   simp only [Bool.not_false,cond_true,call_raw]
   obtain ⟨t,H1,s1,b1,e1,h1,t1,g0,g1⟩:=c120 h.pull2
   simp only [e1,Option.bind_some]
   rw [show bld [.int .i64 0,.int .i64 0,.int .i64 0] [(0,1,false),(1,1,false),(2,1,false)] [(0,.int .i64 t)]=some (.agg (SField.row ⟨t,0,0⟩)) from rfl]
   simp only [Option.bind_some]
   rw [alloc_eq _ _ _ rfl]
   have z2:∀ t:SField,∀ f:Nat,t.row[f]? = some (D.list [])→t.row[f]? = some D.sl0:=fun t f hf=>by rcases f with _ | _ | _ | f <;> simp [SField.row] at hf
   obtain ⟨H3,e3,h3,-⟩:=(h1.alloc 0 (cs:=SField.row ⟨0,0,0⟩) (ts:=SField.row ⟨0,0,0⟩) (RepR.scalars rfl) rfl (z2 _)).init (cs:=SField.row ⟨t,0,0⟩) (ts:=SField.row ⟨t,0,0⟩) (RepR.scalars rfl) rfl (z2 _) (z:=3) rfl rfl
   rw [show H1++[some [SField.row ⟨0,0,0⟩]]=H1++[some [[D.int .i64 0,.int .i64 0,.int .i64 0]]] from rfl] at e3
   obtain ⟨t2,H4,s4,b4,e4,h4,k4,-,-⟩:=c122 h3.pull1
   obtain ⟨H5,e5,h5⟩:=h4.pull1.st (f:=1) (v:=.int .i64 t2) (by simp [SField.row]) rfl rfl
   obtain ⟨t3,H6,s6,b6,e6,h6,k6,-,-⟩:=c122 h5.pull1
   obtain ⟨H7,e7,h7⟩:=h6.pull1.st (f:=2) (v:=.int .i64 t3) (by simp [SField.row]) rfl rfl
   simp only [e3,e4,e5,e6,e7,Option.bind_some,fa_ptr,Nat.zero_add]
   have h9':Own H7 (.var 0 H1.length ((SField.row ⟨t,t2,t3⟩).map Cell.own) :: tk b s6 b6 :: .var 4 p (crow c) :: .var 4 q ts0 :: L):=h7
   obtain ⟨d10,e10,h10⟩:=h9'.pull2.take (f:=5) (t:=.list (c.Fields.map SField.row)) rfl
   obtain ⟨cs,e11,h11,-⟩:=(h10.pull2.whole (z:=3) rfl)
   obtain ⟨d12,H12,e12,e13,h12,c12⟩:=h11.pull1.app (n:=3) (t:=SField.row ⟨t,t2,t3⟩) (fun B hB=>(rowOf_agg B hB).up (by decide)) (esz:=3) (eb:=24) (zero:=[.int .i64 0,.int .i64 0,.int .i64 0]) rfl (by decide) rfl rfl (fun r hr=>by obtain ⟨x,_,rfl⟩:=List.mem_map.mp hr; rfl) (by simp [maxLen]; omega)
   obtain ⟨H14,e14,h14⟩:=h12.put (f:=5) (by decide) (by simp [SClass.row]) rfl c12
   simp only [e10,e11,e12,e13,e14,Option.bind_some,bI_sub]
   have tf:Took gField s false ⟨t,t2,t3⟩ s6 b6:=t1.seq (k4.seq (k6.seq (Took.pure _ _ _)))
   rw [wrap_i64 (n:=((n + 1:Nat):Int) - 1) (by omega) (by omega),show ((n + 1:Nat):Int) - 1=(n:Int) by omega,fin_many tf]
   have hrow:((((crow c).set 5 (Cell.raw d10)).set 5 (Cell.own (D.list (c.Fields.map SField.row++[SField.row ⟨t,t2,t3⟩])))))=crow { c with Fields:=c.Fields++[⟨t,t2,t3⟩] }:=by
    simp [crow,SClass.row]
   rw [hrow] at h14
   have:=ih { c with Fields:=c.Fields++[⟨t,t2,t3⟩] } H14 L s6 b6 (h14.pull2.pull1) (by simp; omega) hc
   simpa using this
theorem c68_15 (b p q:Nat) (ts0:List Cell) (h0:ts0.length=7):∀ (n:Nat) (c:SClass) (H:Heap) (L:List Asset) (s:List UInt8) (bad:Bool),Own H (.var 4 p (crow c) :: .var 4 q ts0 :: tk b s bad :: L)→c.Faces.length + n≤1000→c.Fields=[]→c.Methods=[] →
  FOut (J E 68 15 [.ptr q 0 0,.ptr b 0 0,.ptr p 0 0,.int .i64 n] H) (fin (bindG (gMany gTwo n) fun a=>bindG (gList 5 gField) fun i=>bindG (gList 6 gMethod) fun m=>pureG { c with Faces:=c.Faces++a,Fields:=i,Methods:=m }) s bad):=by
 have rest:∀ (c:SClass) (H:Heap) (L:List Asset) (s:List UInt8) (bad:Bool),Own H (.var 4 p (crow c) :: .var 4 q ts0 :: tk b s bad :: L)→c.Fields=[]→c.Methods=[] →
   FOut ((callFn E (exec E) .raw 120 [.ptr b 0 0] H).bind fun r63=>(callFn E (exec E) .raw 119 [.ptr b 0 0,r63.1,(D.int .i64 5)] r63.2).bind fun r64=>J E 68 19 [.ptr q 0 0,.ptr b 0 0,.ptr p 0 0,r64.1] r64.2) (fin (bindG (gList 5 gField) fun i=>bindG (gList 6 gMethod) fun m=>pureG { c with Fields:=i,Methods:=m }) s bad):=by
  intro c H L s bad h hf hc
  obtain ⟨k,H',s',b',e,h1,t,hk⟩:=fup h.pull2 5 (by decide)
  simp only [call_raw]
  rw [e,fin_list t]
  have:=c68_19 b p q ts0 h0 k c H' L s' b' (h1.pull2.pull2) (by simp [hf]; omega) hc
  rw [hf] at this
  simpa using this
 intro n
 induction n with
 | zero=>
  intro c H L s bad h hn hf hc
  rw [j68_15]
  simp only [bI_gtr,Int.natCast_zero,Int.lt_irrefl,decide_false,Option.bind_some,asB_bool,cond_false]
  have:=rest c H L s bad h hf hc
  have e:fin (bindG (gMany gTwo 0) fun a=>bindG (gList 5 gField) fun i=>bindG (gList 6 gMethod) fun m=>pureG { c with Faces:=c.Faces++a,Fields:=i,Methods:=m }) s bad=fin (bindG (gList 5 gField) fun i=>bindG (gList 6 gMethod) fun m=>pureG { c with Fields:=i,Methods:=m }) s bad:=by
   show fin (bindG (gList 5 gField) fun i=>bindG (gList 6 gMethod) fun m=>pureG { c with Faces:=c.Faces++[],Fields:=i,Methods:=m }) s bad=_
   rw [List.append_nil]
  rw [e]
  exact this
 | succ n ih=>
  intro c H L s bad h hn hf hc
  have hgt:(0:Int) < ((n + 1:Nat):Int):=by omega
  have l1:=h.pull2.ld (f:=1) rfl rfl
  rw [j68_15]
  simp only [bI_gtr,hgt,decide_true,Option.bind_some,asB_bool,cond_true,nilCheck_ptr,fa_ptr,Nat.zero_add,l1,unOp_not]
  cases bad with
  | true=>
   simp only [Bool.not_true,cond_false]
   exact rest c H L s true h hf hc
  | false=>
   obtain ⟨d,e1,h1⟩:=h.take (f:=4) (t:=.list (c.Faces.map rInt)) rfl
   have hsame:=rep_same h1.val.choose_spec.1
   obtain ⟨m,H2,s2,b2,e2,h2,t2,-,-⟩:=c122 h1.pull3
   have l2:=(h2.pull2.ldraw (f:=4) (d:=d) rfl)
   obtain ⟨d3,H3,e3,e4,h3,c3⟩:=((h2.sc 3 (v:=.int .i64 m) rfl).pull2).app (n:=3) (t:=rInt m) (rowOf_sc rfl rfl) (esz:=1) (eb:=8) (zero:=[.int .i64 0]) rfl (by decide) rfl rfl (fun r hr=>by obtain ⟨x,_,rfl⟩:=List.mem_map.mp hr; rfl) (by simp [maxLen]; omega)
   obtain ⟨H5,e5,h5⟩:=h3.pull2.pull1.put (f:=4) (by decide) (by simp [SClass.row]) rfl c3
   simp only [Bool.not_false,cond_true,call_raw,e1,e2,l2,e3,e4,e5,Option.bind_some,again_same hsame,bI_sub]
   rw [wrap_i64 (n:=((n + 1:Nat):Int) - 1) (by omega) (by omega),show ((n + 1:Nat):Int) - 1=(n:Int) by omega,fin_many t2]
   have hrow:((((crow c).set 4 (Cell.raw d)).set 4 (Cell.own (D.list (c.Faces.map rInt++[rInt m])))))=crow { c with Faces:=c.Faces++[m] }:=by
    simp [crow,SClass.row]
   rw [hrow] at h5
   have:=ih { c with Faces:=c.Faces++[m] } H5 L s2 b2 (h5.pull2.pull1) (by simp; omega) hf hc
   simpa using this
theorem c68_8 (b p q:Nat) (ts0:List Cell) (h0:ts0.length=7):∀ (n:Nat) (c:SClass) (H:Heap) (L:List Asset) (s:List UInt8) (bad:Bool),Own H (.var 4 p (crow c) :: .var 4 q ts0 :: tk b s bad :: L)→c.Pool.length + n≤1000→c={ Pool:=c.Pool } →
  FOut (J E 68 8 [.ptr q 0 0,.ptr b 0 0,.ptr p 0 0,.int .i64 n] H) (fin (bindG (gMany gConst n) fun x=>bindG gOne fun f=>bindG gTwo fun nm=>bindG gTwo fun u=>bindG (gList 3 gTwo) fun a=>bindG (gList 5 gField) fun i=>bindG (gList 6 gMethod) fun m=>pureG ⟨c.Pool++x,f,nm,u,a,i,m⟩) s bad):=by
 have rest:∀ (c:SClass) (H:Heap) (L:List Asset) (s:List UInt8) (bad:Bool),Own H (.var 4 p (crow c) :: .var 4 q ts0 :: tk b s bad :: L)→c={ Pool:=c.Pool } →
   FOut ((callFn E (exec E) .raw 120 [.ptr b 0 0] H).bind fun r28=>(fa 1 (.ptr p 0 0)).bind fun v29=>(st 1 r28.2 v29 r28.1).bind fun H30=>(callFn E (exec E) .raw 122 [.ptr b 0 0] H30).bind fun r31=>(fa 2 (.ptr p 0 0)).bind fun v32=>(st 1 r31.2 v32 r31.1).bind fun H33=>(callFn E (exec E) .raw 122 [.ptr b 0 0] H33).bind fun r34=>(fa 3 (.ptr p 0 0)).bind fun v35=>(st 1 r34.2 v35 r34.1).bind fun H36=>(callFn E (exec E) .raw 120 [.ptr b 0 0] H36).bind fun r37=>(callFn E (exec E) .raw 119 [.ptr b 0 0,r37.1,(D.int .i64 3)] r37.2).bind fun r38=>J E 68 15 [.ptr q 0 0,.ptr b 0 0,.ptr p 0 0,r38.1] r38.2)
    (fin (bindG gOne fun f=>bindG gTwo fun nm=>bindG gTwo fun u=>bindG (gList 3 gTwo) fun a=>bindG (gList 5 gField) fun i=>bindG (gList 6 gMethod) fun m=>pureG ⟨c.Pool,f,nm,u,a,i,m⟩) s bad):=by
  intro c H L s bad h hc
  obtain ⟨f,H1,s1,b1,e1,h1,t1,-,-⟩:=c120 h.pull2
  obtain ⟨H2,e2,h2⟩:=h1.pull1.st (f:=1) (v:=.int .i64 f) (by simp [SClass.row]) rfl rfl
  obtain ⟨nm,H3,s3,b3,e3,h3,t3,-,-⟩:=c122 h2.pull1
  obtain ⟨H4,e4,h4⟩:=h3.pull1.st (f:=2) (v:=.int .i64 nm) (by simp [SClass.row]) rfl rfl
  obtain ⟨u,H5,s5,b5,e5,h5,t5,-,-⟩:=c122 h4.pull1
  obtain ⟨H6,e6,h6⟩:=h5.pull1.st (f:=3) (v:=.int .i64 u) (by simp [SClass.row]) rfl rfl
  have h6':Own H6 (.var 4 p (crow ⟨c.Pool,f,nm,u,[],[],[]⟩) :: tk b s5 b5 :: .var 4 q ts0 :: L):=by
   rw [hc] at h6
   exact h6
  obtain ⟨k,H',s',b',e,h7,t,hk⟩:=fup h6'.pull1 3 (by decide)
  have:=c68_15 b p q ts0 h0 k ⟨c.Pool,f,nm,u,[],[],[]⟩ H' L s' b' (h7.pull1.pull2.pull1) (by simp; omega) rfl rfl
  rw [fin_seq t1,fin_seq t3,fin_seq t5,fin_list t]
  simp only [call_raw,e1,e2,e3,e4,e5,e6,Option.bind_some,fa_ptr,Nat.zero_add]
  rw [e]
  exact this
 intro n
 induction n with
 | zero=>
  intro c H L s bad h hn hc
  rw [j68_8]
  simp only [bI_gtr,Int.natCast_zero,Int.lt_irrefl,decide_false,Option.bind_some,asB_bool,cond_false]
  have:=rest c H L s bad h hc
  have e:fin (bindG (gMany gConst 0) fun x=>bindG gOne fun f=>bindG gTwo fun nm=>bindG gTwo fun u=>bindG (gList 3 gTwo) fun a=>bindG (gList 5 gField) fun i=>bindG (gList 6 gMethod) fun m=>pureG ⟨c.Pool++x,f,nm,u,a,i,m⟩) s bad=fin (bindG gOne fun f=>bindG gTwo fun nm=>bindG gTwo fun u=>bindG (gList 3 gTwo) fun a=>bindG (gList 5 gField) fun i=>bindG (gList 6 gMethod) fun m=>pureG ⟨c.Pool,f,nm,u,a,i,m⟩) s bad:=by
   show fin (bindG gOne fun f=>bindG gTwo fun nm=>bindG gTwo fun u=>bindG (gList 3 gTwo) fun a=>bindG (gList 5 gField) fun i=>bindG (gList 6 gMethod) fun m=>pureG (SClass.mk (c.Pool++[]) f nm u a i m)) s bad=_
   rw [List.append_nil]
  rw [e]
  exact this
 | succ n ih=>
  intro c H L s bad h hn hc
  have hgt:(0:Int) < ((n + 1:Nat):Int):=by omega
  have l1:=h.pull2.ld (f:=1) rfl rfl
  rw [j68_8]
  simp only [bI_gtr,hgt,decide_true,Option.bind_some,asB_bool,cond_true,nilCheck_ptr,fa_ptr,Nat.zero_add,l1,unOp_not]
  cases bad with
  | true=>
   simp only [Bool.not_true,cond_false]
   exact rest c H L s true h hc
  | false=>
   obtain ⟨d,e1,h1⟩:=h.take (f:=0) (t:=.list (c.Pool.map SConst.row)) rfl
   have hsame:=rep_same h1.val.choose_spec.1
   obtain ⟨cs,H2,s2,b2,m,e2,h2,t2⟩:=c121 h1.pull3
   have l2:=(h2.pull3.ldraw (f:=0) (d:=d) rfl)
   obtain ⟨d3,H3,e3,e4,h3,c3⟩:=h2.pull2.app (n:=3) (t:=m.row) (fun B hB=>(rowOf_agg B hB).up (by decide)) (esz:=4) (eb:=40) (zero:=[.int .i64 0,.str [],.int .i64 0,.int .i64 0]) rfl (by decide) rfl rfl (fun r hr=>by obtain ⟨x,_,rfl⟩:=List.mem_map.mp hr; rfl) (by simp [maxLen]; omega)
   obtain ⟨H5,e5,h5⟩:=h3.pull2.pull1.put (f:=0) (by decide) (by simp [SClass.row]) rfl c3
   simp only [Bool.not_false,cond_true,call_raw,e1,e2,l2,e3,e4,e5,Option.bind_some,again_same hsame,bI_sub]
   rw [wrap_i64 (n:=((n + 1:Nat):Int) - 1) (by omega) (by omega),show ((n + 1:Nat):Int) - 1=(n:Int) by omega,fin_many t2]
   have hrow:((((crow c).set 0 (Cell.raw d)).set 0 (Cell.own (D.list (c.Pool.map SConst.row++[m.row])))))=crow { c with Pool:=c.Pool++[m] }:=by
    simp [crow,SClass.row]
   rw [hrow] at h5
   have:=ih { c with Pool:=c.Pool++[m] } H5 L s2 b2 (h5.pull2.pull1) (by simp; omega) (by rw [hc])
   simpa using this
def fileRes (q:Option SClass):D:=.tup [.agg (q.getD {}).row,.bool q.isSome]
theorem fileGet_fin {s:List UInt8} (h:¬ 900 < s.length):fileGet s=fin gClass s false:=by
 unfold fileGet fin
 simp only [h,if_false,Bool.false_eq_true]
 cases gClass s with
 | none=>rfl
 | some q=>obtain ⟨c,r⟩:=q; cases r <;> rfl
theorem c68o (s:List UInt8):FOut (ent E 68 [.str s] []) (fileGet s):=by
 rw [e68,alloc_eq _ _ _ rfl]
 have h1:=(Own.nil []).alloc 4 (cs:=zcls) (ts:=(({}:SClass)).row) (zcls_rep.frame fun c hc=>by cases hc) rfl zcls_nil
 simp only [lnS_str,Option.bind_some,bI_gtr,asB_bool]
 by_cases hl:900 < s.length
 ·have:(900:Int) < (s.length:Int):=by omega
  simp only [this,decide_true,cond_true]
  have e:fileGet s=none:=by simp [fileGet,hl]
  rw [e]
  exact fnone h1 rfl
 ·have:¬ (900:Int) < (s.length:Int):=by omega
  simp only [this,decide_false,cond_false]
  rw [fileGet_fin hl]
  rw [show bld [.str [],.bool false] [(0,1,false),(1,1,false)] [(0,.str s)]=some (.agg [.str s,.bool false]) from rfl]
  simp only [Option.bind_some]
  rw [alloc_eq _ _ _ rfl]
  have h2:=h1.alloc 0 (cs:=[.str s,.bool false]) (ts:=[.str s,.bool false]) (RepR.scalars rfl) rfl (fun f hf=>by rcases f with _ | _ | f <;> simp at hf)
  obtain ⟨t,H3,s3,b3,e3,h3,t3,-,-⟩:=c118 h2 4 (by decide)
  rw [show D.cells (.agg [.str s,.bool false])=[.str s,.bool false] from rfl]
  simp only [call_raw,e3,Option.bind_some,bS_neq,asB_bool]
  show FOut _ (fin (bindG (gText 4) _) s false)
  rw [fin_seq (show Took (gText 4) s false t s3 b3 from t3)]
  by_cases ht:t=[83,84,79,87]
  ·simp only [ht,decide_true,Bool.not_true,cond_false]
   rw [if_pos (show ([83,84,79,87]:List UInt8)=stow from rfl)]
   rw [alloc_eq _ _ _ rfl]
   have h4:=h3.alloc 4 (cs:=zcls) (ts:=(({}:SClass)).row) (zcls_rep.frame fun c hc=>by cases hc) rfl zcls_nil
   obtain ⟨k,H',s',b',e,h7,tt,hk⟩:=fup h4.pull1 60 (by decide)
   rw [show H3++[some [zcls]]=H3++[some [[D.sl0,.int .i64 0,.int .i64 0,.int .i64 0,.sl0,.sl0,.sl0]]] from rfl] at e
   rw [e,fin_list tt]
   exact c68_8 _ _ _ _ rfl k {} H' [] s' b' (h7.pull1.pull2.pull1) (by simp; omega) rfl
  ·simp only [ht,decide_false,Bool.not_false,cond_true]
   rw [if_neg (show ¬ t=stow from ht)]
   have:∀ s b,fin failG s b=none:=fun s b=>by cases b <;> rfl
   rw [this]
   exact fnone h3.pull1 rfl
theorem c68 (s:List UInt8):OwnC E 6 68 [.str s] (fileRes (fileGet s)):=by
 obtain ⟨cs,H',L,e,h⟩:=c68o s
 obtain ⟨B,r,hn⟩:=h.val
 refine ⟨_,H',B,e,?_,hn⟩
 have:=RepT.tup (n:=5) (RepR.cons r (RepR.cons (B:=[]) (B':=[]) (.sc (d:=.bool (fileGet s).isSome) rfl) .nil))
 simpa [fileRes] using this
theorem p68 (s:List UInt8):run E (exec E) false 68 [.str s]=some (fileRes (fileGet s)):=(c68 s).run (by decide) false
end Go.Ev.YtmpfooibdekppaaGreatDoor
namespace Go.Ev.YtmpfooibdekppaaGreatDoor
set_option linter.unusedVariables false
set_option linter.unusedSimpArgs false
set_option linter.unusedSectionVars false
set_option linter.defProp false
set_option maxHeartbeats 1000000
open Go.Ev
abbrev rd (b:Nat) (s:List UInt8) (at_:Nat) (bad:Bool):Asset:=.var 0 b [.own (.str s),.own (.int .i64 at_),.own (.bool bad)]
theorem c151 {H:Heap} {L:List Asset} {b:Nat} {s:List UInt8} {k:Nat} {bad:Bool} (h:Own H (rd b s k bad :: L)) (hk:k≤s.length) (hs:s.length≤900):∃ n H' k' bad',ent E 151 [.ptr b 0 0] H=some (.int .i64 n,H')∧Own H' (rd b s k' bad' :: L)∧k'≤s.length∧Took gOne (s.drop k) bad n (s.drop k') bad'∧0≤n∧n≤255:=by
 rw [e151]
 have l0:=h.ld (f:=0) rfl rfl
 have l1:=h.ld (f:=1) rfl rfl
 have l2:=h.ld (f:=2) rfl rfl
 simp only [nilCheck_ptr,Option.bind_some,fa_ptr,Nat.zero_add,l0,l1,l2,asB_bool]
 cases bad with
 | true=>
  obtain ⟨H',e1,h1⟩:=h.st (f:=2) (v:=.bool true) (by simp) rfl rfl
  simp only [cond_true,e1,Option.bind_some,ret_one]
  exact ⟨0,H',k,true,rfl,h1,hk,Took.bad _ _ _,by decide,by decide⟩
 | false=>
  simp only [cond_false,lnS_str,Option.bind_some,bI_geq,asB_bool]
  by_cases hlt:k < s.length
  ·have hd:s.drop k=s[k] :: s.drop (k + 1):=List.drop_eq_getElem_cons hlt
   have hc:=(s[k]).toNat_lt
   obtain ⟨H',e1,h1⟩:=h.st (f:=1) (v:=.int .i64 ((k + 1:Nat):Int)) (by simp) rfl rfl
   have m0:=h1.ld (f:=0) rfl rfl
   have m1:=h1.ld (f:=1) rfl rfl
   simp only [show ¬ (s.length:Int)≤(k:Int) by omega,decide_false,cond_false,bI_add,Option.bind_some]
   rw [wrap_i64 (n:=(k:Int) + 1) (by omega) (by omega),show (k:Int) + 1=((k + 1:Nat):Int) by omega]
   simp only [e1,m0,m1,Option.bind_some,bI_sub]
   rw [wrap_i64 (n:=((k + 1:Nat):Int) - 1) (by omega) (by omega),show ((k + 1:Nat):Int) - 1=(k:Int) by omega,ix_nat,List.getElem?_eq_getElem hlt]
   simp only [Option.map_some,Option.bind_some,cI_int,ret_one]
   rw [wrap_i64 (n:=((s[k]).toNat:Int)) (by omega) (by omega)]
   refine ⟨(s[k]).toNat,H',k + 1,false,rfl,h1,by omega,⟨by simp; omega,?_⟩,by omega,by omega⟩
   rw [hd]
   simp [gOne]
  ·have hk':k=s.length:=by omega
   obtain ⟨H',e1,h1⟩:=h.st (f:=2) (v:=.bool true) (by simp) rfl rfl
   simp only [show (s.length:Int)≤(k:Int) by omega,decide_true,cond_true,e1,Option.bind_some,ret_one]
   refine ⟨0,H',k,true,rfl,h1,hk,⟨Nat.le_refl _,?_⟩,by decide,by decide⟩
   rw [hk',List.drop_length]
   simp [gOne]
theorem c152 {H:Heap} {L:List Asset} {b:Nat} {s:List UInt8} {k:Nat} {bad:Bool} (h:Own H (rd b s k bad :: L)) (hk:k≤s.length) (hs:s.length≤900):∃ n H' k' bad',ent E 152 [.ptr b 0 0] H=some (.int .i64 n,H')∧Own H' (rd b s k' bad' :: L)∧k'≤s.length∧Took gTwo (s.drop k) bad n (s.drop k') bad'∧0≤n∧n≤65535:=by
 rw [e152]
 obtain ⟨n1,H1,k1,b1,e1,h1,q1,t1,g1,g2⟩:=c151 h hk hs
 obtain ⟨n2,H2,k2,b2,e2,h2,q2,t2,g3,g4⟩:=c151 h1 q1 hs
 simp only [call_raw,e1,e2,Option.bind_some,bI_mul,bI_add,ret_one]
 rw [wrap_i64 (n:=n1 * 256) (by omega) (by omega),wrap_i64 (n:=n1 * 256 + n2) (by omega) (by omega),show n1 * 256 + n2=256 * n1 + n2 by omega]
 exact ⟨256 * n1 + n2,H2,k2,b2,rfl,h2,q2,t1.seq (t2.seq (Took.pure _ _ _)),by omega,by omega⟩
theorem c149 {H:Heap} {L:List Asset} {b:Nat} {s:List UInt8} {k:Nat} {bad:Bool} (h:Own H (rd b s k bad :: L)) (hk:k≤s.length) (hs:s.length≤900) (n:Int) (hn:0≤n) (hn2:n≤65535):∃ t H' k' bad',ent E 149 [.ptr b 0 0,.int .i64 n] H=some (.str t,H')∧Own H' (rd b s k' bad' :: L)∧k'≤s.length∧Took (gText n.toNat) (s.drop k) bad t (s.drop k') bad':=by
 rw [e149]
 have l0:=h.ld (f:=0) rfl rfl
 have l1:=h.ld (f:=1) rfl rfl
 have l2:=h.ld (f:=2) rfl rfl
 simp only [nilCheck_ptr,Option.bind_some,fa_ptr,Nat.zero_add,l0,l1,l2,asB_bool]
 cases bad with
 | true=>
  obtain ⟨H',e1,h1⟩:=h.st (f:=2) (v:=.bool true) (by simp) rfl rfl
  simp only [cond_true,e1,Option.bind_some,ret_one]
  exact ⟨[],H',k,true,rfl,h1,hk,Took.bad _ _ _⟩
 | false=>
  simp only [cond_false,lnS_str,Option.bind_some,bI_add,bI_gtr,asB_bool]
  rw [wrap_i64 (n:=(k:Int) + n) (by omega) (by omega)]
  by_cases hlt:(s.length:Int) < (k:Int) + n
  ·obtain ⟨H',e1,h1⟩:=h.st (f:=2) (v:=.bool true) (by simp) rfl rfl
   simp only [hlt,decide_true,cond_true,e1,Option.bind_some,ret_one]
   refine ⟨[],H',k,true,rfl,h1,hk,⟨Nat.le_refl _,?_⟩⟩
   have:¬ n.toNat≤(s.drop k).length:=by simp; omega
   simp only [Bool.false_eq_true,if_false,gText,if_neg this]
  ·obtain ⟨H',e1,h1⟩:=h.st (f:=1) (v:=.int .i64 ((k + n.toNat:Nat):Int)) (by simp) rfl rfl
   have m0:=h1.ld (f:=0) rfl rfl
   have m1:=h1.ld (f:=1) rfl rfl
   simp only [hlt,decide_false,cond_false]
   rw [show (k:Int) + n=((k + n.toNat:Nat):Int) by omega]
   simp only [e1,m0,m1,Option.bind_some,bI_sub]
   rw [wrap_i64 (n:=((k + n.toNat:Nat):Int) - n) (by omega) (by omega),show ((k + n.toNat:Nat):Int) - n=(k:Int) by omega]
   rw [slS_mid (by omega) (by omega) (by omega)]
   simp only [Option.bind_some,ret_one,Int.toNat_natCast]
   refine ⟨_,H',k + n.toNat,false,rfl,h1,by omega,⟨by simp; omega,?_⟩⟩
   have:n.toNat≤(s.drop k).length:=by simp; omega
   simp only [Bool.false_eq_true,if_false,gText,if_pos this]
   refine ⟨?_,by rw [List.drop_drop],trivial⟩
   rw [List.drop_take,show k + n.toNat - k=n.toNat by omega]
theorem rup {g:Get Int} {s s1:List UInt8} {bad b1:Bool} {n most:Int} (t:Took g s bad n s1 b1):Took (gUp most g) s bad n s1 (b1 || decide (most < n)):=by
 refine t.seq ?_
 by_cases h:most < n
 ·rw [if_pos h]; simp only [h,decide_true,Bool.or_true]; exact Took.fail _ _ _
 ·rw [if_neg h]; simp only [h,decide_false,Bool.or_false]; exact Took.pure _ _ _
theorem rlimit {H:Heap} {L:List Asset} {b:Nat} {s:List UInt8} {k:Nat} {bad:Bool} (h:Own H (rd b s k bad :: L)) (n most:Int):∃ H',Own H' (rd b s k (bad || decide (most < n)) :: L)∧∀ F:Heap→R,((bI .gtr (.int .i64 n) (.int .i64 most)).bind fun v=>asB v fun t=>bif t then ((nilCheck (.ptr b 0 0)).bind fun v4=>(fa 2 v4).bind fun v5=>(st 1 H v5 (D.bool true)).bind F) else F H)=F H':=by
 by_cases hlt:most < n
 ·obtain ⟨H',e1,h1⟩:=h.st (f:=2) (v:=.bool true) (by simp) rfl rfl
  refine ⟨H',by simpa [hlt] using h1,fun F=>?_⟩
  simp only [bI_gtr,hlt,decide_true,Option.bind_some,asB_bool,cond_true,nilCheck_ptr,fa_ptr,Nat.zero_add,e1]
 ·refine ⟨H,by simpa [hlt] using h,fun F=>?_⟩
  simp only [bI_gtr,hlt,decide_false,Option.bind_some,asB_bool,cond_false]
theorem c189_6 (b:Nat) (s:List UInt8) (hs:s.length≤900) (N:Nat) (hN:N≤65535):∀ (n:Nat) (acc:List SKind) (d:D) (H:Heap) (L:List Asset) (k:Nat) (bad:Bool),Own H (.val 1 d (.list (acc.map SKind.row)) :: rd b s k bad :: L)→k≤s.length→n≤N→acc.length + n≤100000 →
  ∃ d' H' k' bad' l,J E 189 6 [.ptr b 0 0,d,.int .i64 N,.int .i64 ((N - n:Nat):Int)] H=some (d',H')∧Own H' (.val 1 d' (.list ((acc++l).map SKind.row)) :: rd b s k' bad' :: L)∧k'≤s.length∧Took (gMany gKind n) (s.drop k) bad l (s.drop k') bad'
 | 0,acc,d,H,L,k,bad,h,hk,hn,ha=>by
  rw [j189_6,Nat.sub_zero]
  simp only [bI_lss,Int.lt_irrefl,decide_false,Option.bind_some,asB_bool,cond_false,ret_one]
  exact ⟨d,H,k,bad,[],rfl,by simpa using h,hk,Took.pure _ _ _⟩
 | n + 1,acc,d,H,L,k,bad,h,hk,hn,ha=>by
  have hlt:((N - (n + 1):Nat):Int) < (N:Int):=by omega
  have l1:=h.pull1.ld (f:=2) rfl rfl
  rw [j189_6]
  simp only [bI_lss,hlt,decide_true,Option.bind_some,asB_bool,cond_true,nilCheck_ptr,fa_ptr,Nat.zero_add,l1,unOp_not]
  cases bad with
  | true=>
   simp only [Bool.not_true,cond_false,ret_one]
   exact ⟨d,H,k,true,[],rfl,by simpa using h,hk,Took.bad _ _ _⟩
  | false=>
   simp only [Bool.not_false,cond_true,call_raw]
   obtain ⟨t,H1,k1,b1,e1,h1,q1,t1,g0,g1⟩:=c151 h.pull1 hk hs
   simp only [e1,Option.bind_some]
   rw [show bld [.int .i64 0,.int .i64 0] [(0,1,false),(1,1,false)] [(0,.int .i64 t)]=some (.agg [.int .i64 t,.int .i64 0]) from rfl]
   simp only [Option.bind_some]
   rw [alloc_eq _ _ _ rfl]
   obtain ⟨H3,e3,h3,-⟩:=(h1.alloc 0 (cs:=[.int .i64 0,.int .i64 0]) (ts:=[.int .i64 0,.int .i64 0]) (RepR.scalars rfl) rfl (fun f hf=>by rcases f with _ | _ | f <;> simp at hf)).init (cs:=[.int .i64 t,.int .i64 0]) (ts:=(⟨t,0⟩:SKind).row) (RepR.scalars rfl) rfl (fun f hf=>by rcases f with _ | _ | f <;> simp [SKind.row] at hf) (z:=2) rfl rfl
   have l3:ld false 1 H3 (.ptr H1.length 0 0)=some (.int .i64 t):=h3.ld (f:=0) rfl rfl
   simp only [e3,Option.bind_some,fa_ptr,Nat.zero_add,l3,bI_eql,asB_bool]
   have step:∀ (x:SKind) (H4:Heap) (k4:Nat) (b4:Bool),Own H4 (.var 0 H1.length (x.row.map Cell.own) :: .val 1 d (.list (acc.map SKind.row)) :: rd b s k4 b4 :: L)→k4≤s.length→Took gKind (s.drop k) false x (s.drop k4) (b4 || decide (3 < x.Tag)) →
     ∃ d' H' k' bad' l,J E 189 11 [.ptr b 0 0,d,.int .i64 N,.int .i64 ((N - (n + 1):Nat):Int),.ptr H1.length 0 0] H4=some (d',H')∧Own H' (.val 1 d' (.list ((acc++l).map SKind.row)) :: rd b s k' bad' :: L)∧k'≤s.length∧Took (gMany gKind (n + 1)) (s.drop k) false l (s.drop k') bad':=by
    intro x H4 k4 b4 h4 q4 t4
    have l4:ld false 1 H4 (.ptr H1.length 0 0)=some (.int .i64 x.Tag):=h4.ld (f:=0) rfl rfl
    obtain ⟨H6,h6,e6⟩:=rlimit h4.pull2 x.Tag 3
    rw [j189_11]
    simp only [fa_ptr,Nat.zero_add,l4,Option.bind_some]
    rw [e6,j189_13]
    obtain ⟨cs,d2,H5,e5,e7,e8,h5⟩:=kinds_app (n:=0) (h6.pull1.pull2.pull1) (by omega)
    simp only [e5,e7,e8,Option.bind_some,bI_add]
    rw [wrap_i64 (n:=((N - (n + 1):Nat):Int) + 1) (by omega) (by omega),show ((N - (n + 1):Nat):Int) + 1=((N - n:Nat):Int) by omega]
    obtain ⟨d',H',k',bad',l,e9,h9,q9,t9⟩:=c189_6 b s hs N hN n (acc++[x]) d2 H5 L k4 _ h5 q4 (by omega) (by simp; omega)
    refine ⟨d',H',k',bad',x :: l,e9,by simpa using h9,q9,?_⟩
    show Took (bindG gKind fun a=>bindG (gMany gKind n) fun l=>pureG (a :: l)) (s.drop k) false (x :: l) (s.drop k') bad'
    exact t4.seq (t9.seq (Took.pure _ _ _))
   have tu:=rup (most:=3) t1
   by_cases h3t:t=3
   ·subst h3t
    simp only [decide_true,cond_true]
    obtain ⟨c,H4,k4,b4,e4,h4,q4,t4,g4,g5⟩:=c152 h3.pull1 q1 hs
    obtain ⟨H5,e5,h5⟩:=h4.pull1.st (f:=1) (v:=.int .i64 c) (by simp [SKind.row]) rfl rfl
    simp only [e4,e5,Option.bind_some]
    refine step ⟨3,c⟩ H5 k4 b4 (h5.pull2.pull1) q4 ?_
    show Took (bindG (gUp 3 gOne) fun t=>if t=3 then bindG gTwo fun c=>pureG (SKind.mk t c) else pureG (SKind.mk t 0)) (s.drop k) false _ (s.drop k4) _
    simp only [show ¬ (3:Int) < 3 by decide,decide_false,Bool.or_false] at tu ⊢
    refine tu.seq ?_
    rw [if_pos rfl]
    exact t4.seq (Took.pure _ _ _)
   ·simp only [h3t,decide_false,cond_false]
    refine step ⟨t,0⟩ H3 k1 b1 (h3.pull2.pull1) q1 ?_
    show Took (bindG (gUp 3 gOne) fun t=>if t=3 then bindG gTwo fun c=>pureG (SKind.mk t c) else pureG (SKind.mk t 0)) (s.drop k) false _ (s.drop k1) _
    refine tu.seq ?_
    rw [if_neg h3t]
    exact Took.pure _ _ _
theorem c189 {H:Heap} {L:List Asset} {b:Nat} {s:List UInt8} {k:Nat} {bad:Bool} (h:Own H (rd b s k bad :: L)) (hk:k≤s.length) (hs:s.length≤900):∃ d H' k' bad' l,ent E 189 [.ptr b 0 0] H=some (d,H')∧Own H' (.val 1 d (.list (l.map SKind.row)) :: rd b s k' bad' :: L)∧k'≤s.length∧Took (gList 8 gKind) (s.drop k) bad l (s.drop k') bad':=by
 rw [e189,bsl_zero _ _ _ rfl]
 obtain ⟨t,H1,k1,b1,e1,h1,q1,t1,g0,g1⟩:=c151 h hk hs
 obtain ⟨H2,h2,e2⟩:=rlimit h1 t 8
 simp only [call_raw,e1,Option.bind_some]
 rw [e2,j189_5]
 obtain ⟨N,rfl⟩:∃ N:Nat,t=N:=⟨t.toNat,by omega⟩
 obtain ⟨d',H',k',bad',l,e8,h8,q8,t8⟩:=c189_6 b s hs N (by omega) N [] .sl0 H2 L k1 _ (h2.sl0 0) q1 (Nat.le_refl _) (by simp; omega)
 rw [Nat.sub_self] at e8
 exact ⟨d',H',k',bad',l,e8,by simpa using h8,q8,(rup t1).seq t8⟩
end Go.Ev.YtmpfooibdekppaaGreatDoor
namespace Go.Ev.YtmpfooibdekppaaGreatDoor
set_option linter.unusedVariables false
set_option linter.unusedSimpArgs false
set_option linter.unusedSectionVars false
set_option linter.defProp false
set_option maxHeartbeats 1000000
open Go.Ev
theorem c176_14 {H:Heap} {L:List Asset} {p q:Nat} {c:SConst} {ts0:List Cell} (h:Own H (.var 0 p (c.row.map Cell.own) :: .var 0 q ts0 :: L)) (h0:ts0.length=4):∃ cs H',J E 176 14 [.ptr q 0 0,.ptr p 0 0] H=some (.agg cs,H')∧Own H' (.val 1 (.agg cs) (.agg c.row) :: L):=by
 rw [j176_14]
 obtain ⟨cs,H',e1,e2,e3,h1⟩:=h.copyout (z:=4) rfl h0
 simp only [e1,e2,e3,Option.bind_some,ret_one]
 exact ⟨cs,H',rfl,h1⟩
theorem c176 {H:Heap} {L:List Asset} {b:Nat} {s:List UInt8} {q:Nat} {bad:Bool} (h:Own H (rd b s q bad :: L)) (hq:q≤s.length) (hs:s.length≤900):∃ cs H' q' bad' c,ent E 176 [.ptr b 0 0] H=some (.agg cs,H')∧Own H' (.val 1 (.agg cs) (.agg (SConst.row c)) :: rd b s q' bad' :: L)∧q'≤s.length∧Took gConst (s.drop q) bad c (s.drop q') bad':=by
 rw [e176,alloc_eq _ _ _ rfl]
 have h1:=h.alloc 0 (cs:=(({}:SConst)).row) (ts:=(({}:SConst)).row) (RepR.scalars rfl) rfl (zconst 0 _)
 obtain ⟨k,H2,q2,b2,e2,h2,r2,t2,g0,g1⟩:=c151 h1.pull1 hq hs
 simp only [call_raw]
 rw [show H++[some [(({}:SConst)).row]]=H++[some [[D.int .i64 0,.str [],.int .i64 0,.int .i64 0]]] from rfl] at e2
 simp only [e2,Option.bind_some]
 rw [show bld [.int .i64 0,.str [],.int .i64 0,.int .i64 0] [(0,1,false),(1,1,false),(2,1,false),(3,1,false)] [(0,.int .i64 k)]=some (.agg (SConst.row ⟨k,[],0,0⟩)) from rfl]
 simp only [Option.bind_some]
 rw [alloc_eq _ _ _ rfl]
 obtain ⟨H3,e3,h3,-⟩:=(h2.alloc 0 (cs:=(({}:SConst)).row) (ts:=(({}:SConst)).row) (RepR.scalars rfl) rfl (zconst 0 _)).init (cs:=SConst.row ⟨k,[],0,0⟩) (ts:=SConst.row ⟨k,[],0,0⟩) (RepR.scalars rfl) rfl (zconst 0 _) (z:=4) rfl rfl
 rw [show H2++[some [(({}:SConst)).row]]=H2++[some [[D.int .i64 0,.str [],.int .i64 0,.int .i64 0]]] from rfl] at e3
 have l3:=h3.ld (f:=0) rfl rfl
 simp only [e3,Option.bind_some,fa_ptr,Nat.zero_add,l3,bI_eql,asB_bool]
 have goal:∀ {x:Get SConst} {c:SConst} {s':List UInt8} {b':Bool},(x=if k=1 then bindG gOne fun n=>bindG (gText n.toNat) fun t=>pureG ⟨k,t,0,0⟩ else if k=2 then bindG gTwo fun a=>pureG ⟨k,[],a,0⟩ else if 3≤k∧k≤6 then bindG gTwo fun a=>bindG gTwo fun b=>pureG ⟨k,[],a,b⟩ else failG)→Took x (s.drop q2) b2 c s' b'→Took gConst (s.drop q) bad c s' b':=by
  intro x c s' b' hx ht
  rw [hx] at ht
  exact t2.seq ht
 by_cases k1:k=1
 ·simp only [k1,decide_true,cond_true]
  obtain ⟨n,H4,q4,b4,e4,h4,r4,t4,g4,g5⟩:=c151 h3.pull1 r2 hs
  obtain ⟨t,H5,q5,b5,e5,h5,r5,t5⟩:=c149 h4 r4 hs n g4 (by omega)
  obtain ⟨H6,e6,h6⟩:=h5.pull1.st (f:=1) (v:=.str t) (by simp [SConst.row]) rfl rfl
  simp only [e4,e5,e6,Option.bind_some]
  obtain ⟨cs,H7,e7,h7⟩:=c176_14 (c:=⟨k,t,0,0⟩) (h6.pull2.pull1) rfl
  rw [e7]
  exact ⟨cs,H7,q5,b5,_,rfl,h7,r5,goal rfl (by rw [if_pos k1]; exact t4.seq (t5.seq (Took.pure _ _ _)))⟩
 ·simp only [k1,decide_false,cond_false]
  by_cases k2:k=2
  ·simp only [k2,decide_true,cond_true]
   obtain ⟨n,H4,q4,b4,e4,h4,r4,t4,g4,g5⟩:=c152 h3.pull1 r2 hs
   obtain ⟨H6,e6,h6⟩:=h4.pull1.st (f:=2) (v:=.int .i64 n) (by simp [SConst.row]) rfl rfl
   simp only [e4,e6,Option.bind_some]
   obtain ⟨cs,H7,e7,h7⟩:=c176_14 (c:=⟨k,[],n,0⟩) (h6.pull2.pull1) rfl
   rw [e7]
   exact ⟨cs,H7,q4,b4,_,rfl,h7,r4,goal rfl (by rw [if_neg k1,if_pos k2]; exact t4.seq (Took.pure _ _ _))⟩
  ·simp only [k2,decide_false,cond_false]
   have two:3≤k∧k≤6→∃ cs H' q' bad' c,J E 176 12 [.ptr b 0 0,.ptr H.length 0 0,.ptr H2.length 0 0] H3=some (.agg cs,H')∧Own H' (.val 1 (.agg cs) (.agg (SConst.row c)) :: rd b s q' bad' :: L)∧q'≤s.length∧Took gConst (s.drop q) bad c (s.drop q') bad':=by
    intro hk
    rw [j176_12]
    obtain ⟨n,H4,q4,b4,e4,h4,r4,t4,g4,g5⟩:=c152 h3.pull1 r2 hs
    obtain ⟨H6,e6,h6⟩:=h4.pull1.st (f:=2) (v:=.int .i64 n) (by simp [SConst.row]) rfl rfl
    obtain ⟨m,H7,q7,b7,e7,h7,r7,t7,g6,g7⟩:=c152 h6.pull1 r4 hs
    obtain ⟨H8,e8,h8⟩:=h7.pull1.st (f:=3) (v:=.int .i64 m) (by simp [SConst.row]) rfl rfl
    simp only [call_raw,e4,e6,e7,e8,Option.bind_some,fa_ptr,Nat.zero_add]
    obtain ⟨cs,H9,e9,h9⟩:=c176_14 (c:=⟨k,[],n,m⟩) (h8.pull2.pull1) rfl
    rw [e9]
    exact ⟨cs,H9,q7,b7,_,rfl,h9,r7,goal rfl (by rw [if_neg k1,if_neg k2,if_pos hk]; exact t4.seq (t7.seq (Took.pure _ _ _)))⟩
   by_cases k3:k=3
   ·simp only [k3,decide_true,cond_true,asB_bool]
    exact two (by omega)
   by_cases k4:k=4
   ·simp only [k3,k4,decide_true,decide_false,cond_true,cond_false,asB_bool]
    exact two (by omega)
   by_cases k5:k=5
   ·simp only [k3,k4,k5,decide_true,decide_false,cond_true,cond_false,asB_bool]
    exact two (by omega)
   by_cases k6:k=6
   ·simp only [k3,k4,k5,k6,decide_true,decide_false,cond_true,cond_false,asB_bool]
    exact two (by omega)
   ·simp only [k3,k4,k5,k6,decide_false,cond_false]
    rw [j176_3]
    obtain ⟨H6,e6,h6⟩:=h3.pull1.st (f:=2) (v:=.bool true) (by simp) rfl rfl
    simp only [nilCheck_ptr,fa_ptr,Nat.zero_add,e6,Option.bind_some]
    obtain ⟨cs,H7,e7,h7⟩:=c176_14 (c:=⟨k,[],0,0⟩) (h6.pull2.pull2) rfl
    rw [e7]
    exact ⟨cs,H7,q2,true,_,rfl,h7,r2,goal rfl (by rw [if_neg k1,if_neg k2,if_neg (by omega)]; exact Took.fail _ _ _)⟩
theorem c150_6 (b:Nat) (s:List UInt8) (hs:s.length≤900) (N:Nat) (hN:N≤65535):∀ (n:Nat) (acc:List SConst) (d:D) (H:Heap) (L:List Asset) (k:Nat) (bad:Bool),Own H (.val 2 d (.list (acc.map SConst.row)) :: rd b s k bad :: L)→k≤s.length→n≤N→acc.length + n≤100000 →
  ∃ d' H' k' bad' l,J E 150 6 [.ptr b 0 0,d,.int .i64 N,.int .i64 ((N - n:Nat):Int)] H=some (d',H')∧Own H' (.val 2 d' (.list ((acc++l).map SConst.row)) :: rd b s k' bad' :: L)∧k'≤s.length∧Took (gMany gConst n) (s.drop k) bad l (s.drop k') bad'
 | 0,acc,d,H,L,k,bad,h,hk,hn,ha=>by
  rw [j150_6,Nat.sub_zero]
  simp only [bI_lss,Int.lt_irrefl,decide_false,Option.bind_some,asB_bool,cond_false,ret_one]
  exact ⟨d,H,k,bad,[],rfl,by simpa using h,hk,Took.pure _ _ _⟩
 | n + 1,acc,d,H,L,k,bad,h,hk,hn,ha=>by
  have hlt:((N - (n + 1):Nat):Int) < (N:Int):=by omega
  have l1:=h.pull1.ld (f:=2) rfl rfl
  rw [j150_6]
  simp only [bI_lss,hlt,decide_true,Option.bind_some,asB_bool,cond_true,nilCheck_ptr,fa_ptr,Nat.zero_add,l1,unOp_not]
  cases bad with
  | true=>
   simp only [Bool.not_true,cond_false,ret_one]
   exact ⟨d,H,k,true,[],rfl,by simpa using h,hk,Took.bad _ _ _⟩
  | false=>
   simp only [Bool.not_false,cond_true,call_raw]
   obtain ⟨cs,H2,k2,b2,m,e2,h2,q2,t2⟩:=c176 h.pull1 hk hs
   obtain ⟨d3,H3,e3,e4,h3,c3⟩:=h2.pull2.app (n:=1) (t:=m.row) (fun B hB=>(rowOf_agg B hB).up (by decide)) (esz:=4) (eb:=40) (zero:=[.int .i64 0,.str [],.int .i64 0,.int .i64 0]) rfl (by decide) rfl rfl (fun r hr=>by obtain ⟨x,_,rfl⟩:=List.mem_map.mp hr; rfl) (by simp [maxLen]; omega)
   simp only [e2,e3,e4,Option.bind_some,bI_add]
   rw [wrap_i64 (n:=((N - (n + 1):Nat):Int) + 1) (by omega) (by omega),show ((N - (n + 1):Nat):Int) + 1=((N - n:Nat):Int) by omega]
   obtain ⟨d',H',k',bad',l,e9,h9,q9,t9⟩:=c150_6 b s hs N hN n (acc++[m]) d3 H3 L k2 _ (by simpa using h3) q2 (by omega) (by simp; omega)
   refine ⟨d',H',k',bad',m :: l,e9,by simpa using h9,q9,?_⟩
   show Took (bindG gConst fun a=>bindG (gMany gConst n) fun l=>pureG (a :: l)) (s.drop k) false (m :: l) (s.drop k') bad'
   exact t2.seq (t9.seq (Took.pure _ _ _))
theorem c150 {H:Heap} {L:List Asset} {b:Nat} {s:List UInt8} {k:Nat} {bad:Bool} (h:Own H (rd b s k bad :: L)) (hk:k≤s.length) (hs:s.length≤900):∃ d H' k' bad' l,ent E 150 [.ptr b 0 0] H=some (d,H')∧Own H' (.val 2 d (.list (l.map SConst.row)) :: rd b s k' bad' :: L)∧k'≤s.length∧Took (gList 60 gConst) (s.drop k) bad l (s.drop k') bad':=by
 rw [e150,bsl_zero _ _ _ rfl]
 obtain ⟨t,H1,k1,b1,e1,h1,q1,t1,g0,g1⟩:=c151 h hk hs
 obtain ⟨H2,h2,e2⟩:=rlimit h1 t 60
 simp only [call_raw,e1,Option.bind_some]
 rw [e2,j150_5]
 obtain ⟨N,rfl⟩:∃ N:Nat,t=N:=⟨t.toNat,by omega⟩
 obtain ⟨d',H',k',bad',l,e8,h8,q8,t8⟩:=c150_6 b s hs N (by omega) N [] .sl0 H2 L k1 _ (h2.sl0 1) q1 (Nat.le_refl _) (by simp; omega)
 rw [Nat.sub_self] at e8
 exact ⟨d',H',k',bad',l,e8,by simpa using h8,q8,(rup t1).seq t8⟩
theorem c177_end {H:Heap} {L:List Asset} {p q:Nat} {m:SMethod} {ts0:List Cell} (h:Own H (.var 3 p (mrow m) :: .var 3 q ts0 :: L)) (h0:ts0.length=8):∃ cs H',((ld true 8 H (.ptr p 0 0)).bind fun v=>(st 8 H (.ptr q 0 0) v).bind fun H1=>ret_ H1 [ld true 8 H1 (.ptr q 0 0)])=some (.agg cs,H')∧Own H' (.val 4 (.agg cs) (.agg m.row) :: L):=by
 obtain ⟨cs,H',e1,e2,e3,h1⟩:=h.copyout (z:=8) rfl h0
 simp only [e1,e2,e3,Option.bind_some,ret_one]
 exact ⟨cs,H',rfl,h1⟩
theorem c177_18 (b p q:Nat) (ts0:List Cell) (h0:ts0.length=8) (s:List UInt8) (hs:s.length≤900) (N:Nat) (hN:N≤65535):∀ (n:Nat) (m:SMethod) (H:Heap) (L:List Asset) (k:Nat) (bad:Bool),Own H (.var 3 p (mrow m) :: .var 3 q ts0 :: rd b s k bad :: L)→k≤s.length→n≤N→m.Frames.length + n≤100000 →
  ∃ cs H' k' bad' l,J E 177 18 [.ptr b 0 0,.ptr p 0 0,.ptr q 0 0,.int .i64 N,.int .i64 ((N - n:Nat):Int)] H=some (.agg cs,H')∧Own H' (.val 4 (.agg cs) (.agg (SMethod.row { m with Frames:=m.Frames++l })) :: rd b s k' bad' :: L)∧k'≤s.length∧Took (gMany gFrame n) (s.drop k) bad l (s.drop k') bad'
 | 0,m,H,L,k,bad,h,hk,hn,ha=>by
  rw [j177_18,Nat.sub_zero]
  obtain ⟨cs,H',e1,h1⟩:=c177_end h h0
  simp only [bI_lss,Int.lt_irrefl,decide_false,Option.bind_some,asB_bool,cond_false]
  exact ⟨cs,H',k,bad,[],e1,by simpa using h1,hk,Took.pure _ _ _⟩
 | n + 1,m,H,L,k,bad,h,hk,hn,ha=>by
  have hlt:((N - (n + 1):Nat):Int) < (N:Int):=by omega
  have l1:=h.pull2.ld (f:=2) rfl rfl
  rw [j177_18]
  simp only [bI_lss,hlt,decide_true,Option.bind_some,asB_bool,cond_true,nilCheck_ptr,fa_ptr,Nat.zero_add,l1,unOp_not]
  cases bad with
  | true=>
   obtain ⟨cs,H',e1,h1⟩:=c177_end h h0
   simp only [Bool.not_true,cond_false]
   exact ⟨cs,H',k,true,[],e1,by simpa using h1,hk,Took.bad _ _ _⟩
  | false=>
   obtain ⟨d,e1,h1⟩:=h.take (f:=7) (t:=.list (m.Frames.map SFrame.row)) rfl
   have hsame:=rep_same h1.val.choose_spec.1
   obtain ⟨t,H2,k2,b2,e2,h2,q2,t2,-,-⟩:=c152 h1.pull3 hk hs
   have l2:=h2.pull2.ldraw (f:=7) (d:=d) rfl
   obtain ⟨d3,H3,k3,b3,ll,e3,h3,q3,t3⟩:=c189 h2 q2 hs
   have l3:=h3.pull3.ldraw (f:=7) (d:=d) rfl
   obtain ⟨d4,H4,k4,b4,ls,e4,h4,q4,t4⟩:=c189 h3.pull1 q3 hs
   have l4:=(Own.pull [_,_,_,_] h4).ldraw (f:=7) (d:=d) rfl
   have c4:=h4.cellOf
   have c3:=h4.pull2.cellOf
   have hb:bld [.int .i64 0,.sl0,.sl0] [(0,1,false),(1,1,false),(2,1,false)] [(0,.int .i64 t),(1,d3),(2,d4)]=some (.agg [.int .i64 t,d3,d4]):=by
    have ct:(D.int .i64 t).cells=[.int .i64 t]:=rfl
    have hz:[D.int .i64 0,.sl0,.sl0].all D.isCell=true:=rfl
    have it:(D.int .i64 t).isCell=true:=rfl
    unfold bld
    rw [if_pos hz]
    simp [fillC,c3.1,c4.1,c3.2,c4.2,ct,it]
   have h5:Own H4 (.val 2 (.agg [.int .i64 t,d3,d4]) (.agg (SFrame.row ⟨t,ll,ls⟩)) :: rd b s k4 b4 :: .val 3 d (.list (m.Frames.map SFrame.row)) :: .var 3 p ((mrow m).set 7 (.raw d)) :: .var 3 q ts0 :: L):=
    Own.build [(.int .i64 t,.int .i64 t),(d3,.list (ll.map SKind.row)),(d4,.list (ls.map SKind.row))] rfl ((h4.pull2).sc 1 (v:=.int .i64 t) rfl)
   obtain ⟨d6,H6,e6,e7,h6,c6⟩:=h5.pull2.app (n:=2) (t:=SFrame.row ⟨t,ll,ls⟩) (fun B hB=>(rowOf_agg B hB).up (by decide)) (esz:=3) (eb:=56) (zero:=[.int .i64 0,.sl0,.sl0]) rfl (by decide) rfl rfl (fun r hr=>by obtain ⟨x,_,rfl⟩:=List.mem_map.mp hr; rfl) (by simp [maxLen]; omega)
   obtain ⟨H8,e8,h8⟩:=h6.pull2.pull1.put (f:=7) (by decide) (by simp [SMethod.row]) rfl c6
   simp only [Bool.not_false,cond_true,call_raw,e1,e2,l2,e3,l3,e4,l4,hb,e6,e7,e8,Option.bind_some,again_same hsame,bI_add]
   rw [wrap_i64 (n:=((N - (n + 1):Nat):Int) + 1) (by omega) (by omega),show ((N - (n + 1):Nat):Int) + 1=((N - n:Nat):Int) by omega]
   have hrow:((((mrow m).set 7 (Cell.raw d)).set 7 (Cell.own (D.list (m.Frames.map SFrame.row++[SFrame.row ⟨t,ll,ls⟩])))))=mrow { m with Frames:=m.Frames++[⟨t,ll,ls⟩] }:=by
    simp [mrow,SMethod.row]
   rw [hrow] at h8
   obtain ⟨cs',H',k',bad',l,e13,h13,q13,t13⟩:=c177_18 b p q ts0 h0 s hs N hN n { m with Frames:=m.Frames++[⟨t,ll,ls⟩] } H8 L k4 b4 (h8.pull2.pull1) q4 (by omega) (by simp; omega)
   refine ⟨cs',H',k',bad',⟨t,ll,ls⟩ :: l,e13,by simpa using h13,q13,?_⟩
   show Took (bindG gFrame fun a=>bindG (gMany gFrame n) fun l=>pureG (a :: l)) (s.drop k) false _ (s.drop k') bad'
   refine Took.seq ?_ (t13.seq (Took.pure _ _ _))
   exact t2.seq (t3.seq (t4.seq (Took.pure _ _ _)))
end Go.Ev.YtmpfooibdekppaaGreatDoor
namespace Go.Ev.YtmpfooibdekppaaGreatDoor
set_option linter.unusedVariables false
set_option linter.unusedSimpArgs false
set_option linter.unusedSectionVars false
set_option linter.defProp false
set_option maxHeartbeats 1000000
open Go.Ev
theorem bld4 {a b c d:Int}:bld [.int .i64 0,.int .i64 0,.int .i64 0,.int .i64 0] [(0,1,false),(1,1,false),(2,1,false),(3,1,false)] [(0,.int .i64 a),(1,.int .i64 b),(2,.int .i64 c),(3,.int .i64 d)]=some (.agg [.int .i64 a,.int .i64 b,.int .i64 c,.int .i64 d]):=rfl
theorem c177_11 (b p q:Nat) (ts0:List Cell) (h0:ts0.length=8) (s:List UInt8) (hs:s.length≤900) (N:Nat) (hN:N≤65535):∀ (n:Nat) (m:SMethod) (H:Heap) (L:List Asset) (k:Nat) (bad:Bool),Own H (.var 3 p (mrow m) :: .var 3 q ts0 :: rd b s k bad :: L)→k≤s.length→n≤N→m.Traps.length + n≤100000→m.Frames=[] →
  ∃ cs H' k' bad' l k1 b1 l2,J E 177 11 [.ptr b 0 0,.ptr p 0 0,.ptr q 0 0,.int .i64 N,.int .i64 ((N - n:Nat):Int)] H=some (.agg cs,H')∧Own H' (.val 4 (.agg cs) (.agg (SMethod.row { m with Traps:=m.Traps++l,Frames:=l2 })) :: rd b s k' bad' :: L)∧k'≤s.length∧Took (gMany gTrap n) (s.drop k) bad l (s.drop k1) b1∧Took (gList 8 gFrame) (s.drop k1) b1 l2 (s.drop k') bad':=by
 have fin:∀ (m:SMethod) (H:Heap) (L:List Asset) (k:Nat) (bad:Bool),Own H (.var 3 p (mrow m) :: .var 3 q ts0 :: rd b s k bad :: L)→k≤s.length→m.Frames=[] →
   ∃ cs H' k' bad' l2,((callFn E (exec E) .raw 151 [.ptr b 0 0] H).bind fun r39=>(bI .gtr r39.1 (D.int .i64 8)).bind fun v40=>asB v40 fun t=>bif t then ((nilCheck (.ptr b 0 0)).bind fun v41=>(fa 2 v41).bind fun v42=>(st 1 r39.2 v42 (D.bool true)).bind fun H43=>J E 177 17 [.ptr b 0 0,.ptr p 0 0,.ptr q 0 0,r39.1] H43) else (J E 177 17 [.ptr b 0 0,.ptr p 0 0,.ptr q 0 0,r39.1] r39.2))=some (.agg cs,H')∧Own H' (.val 4 (.agg cs) (.agg (SMethod.row { m with Frames:=l2 })) :: rd b s k' bad' :: L)∧k'≤s.length∧Took (gList 8 gFrame) (s.drop k) bad l2 (s.drop k') bad':=by
  intro m H L k bad h hk hf
  obtain ⟨t,H1,k1,b1,e1,h1,q1,t1,g0,g1⟩:=c151 h.pull2 hk hs
  obtain ⟨H2,h2,e2⟩:=rlimit h1 t 8
  simp only [call_raw,e1,Option.bind_some]
  rw [e2,j177_17]
  obtain ⟨M,rfl⟩:∃ M:Nat,t=M:=⟨t.toNat,by omega⟩
  obtain ⟨cs,H',k',bad',l,e8,h8,q8,t8⟩:=c177_18 b p q ts0 h0 s hs M (by omega) M m H2 L k1 _ (h2.pull2.pull2) q1 (Nat.le_refl _) (by simp [hf]; omega)
  rw [hf,List.nil_append] at h8
  rw [Nat.sub_self] at e8
  exact ⟨cs,H',k',bad',l,e8,h8,q8,(rup t1).seq t8⟩
 intro n
 induction n with
 | zero=>
  intro m H L k bad h hk hn ha hf
  rw [j177_11,Nat.sub_zero]
  simp only [bI_lss,Int.lt_irrefl,decide_false,Option.bind_some,asB_bool,cond_false]
  obtain ⟨cs,H',k',bad',l2,e1,h1,q1,t1⟩:=fin m H L k bad h hk hf
  exact ⟨cs,H',k',bad',[],k,bad,l2,e1,by simpa using h1,q1,Took.pure _ _ _,t1⟩
 | succ n ih=>
  intro m H L k bad h hk hn ha hf
  have hlt:((N - (n + 1):Nat):Int) < (N:Int):=by omega
  have l1:=h.pull2.ld (f:=2) rfl rfl
  rw [j177_11]
  simp only [bI_lss,hlt,decide_true,Option.bind_some,asB_bool,cond_true,nilCheck_ptr,fa_ptr,Nat.zero_add,l1,unOp_not]
  cases bad with
  | true=>
   simp only [Bool.not_true,cond_false]
   obtain ⟨cs,H',k',bad',l2,e1,h1,q1,t1⟩:=fin m H L k true h hk hf
   exact ⟨cs,H',k',bad',[],k,true,l2,e1,by simpa using h1,q1,Took.bad _ _ _,t1⟩
  | false=>
   obtain ⟨d,e1,h1⟩:=h.take (f:=6) (t:=.list (m.Traps.map STrap.row)) rfl
   have hsame:=rep_same h1.val.choose_spec.1
   obtain ⟨x1,H2,k2,b2,e2,h2,q2,t2,-,-⟩:=c152 h1.pull3 hk hs
   have l2:=h2.pull2.ldraw (f:=6) (d:=d) rfl
   obtain ⟨x2,H3,k3,b3,e3,h3,q3,t3,-,-⟩:=c152 h2 q2 hs
   have l3:=h3.pull2.ldraw (f:=6) (d:=d) rfl
   obtain ⟨x3,H4,k4,b4,e4,h4,q4,t4,-,-⟩:=c152 h3 q3 hs
   have l4:=h4.pull2.ldraw (f:=6) (d:=d) rfl
   obtain ⟨x4,H5,k5,b5,e5,h5,q5,t5,-,-⟩:=c152 h4 q4 hs
   have l5:=h5.pull2.ldraw (f:=6) (d:=d) rfl
   have h6:=h5.lit (n:=2) (cs:=STrap.row ⟨x1,x2,x3,x4⟩) (ts:=STrap.row ⟨x1,x2,x3,x4⟩) (RepR.scalars rfl) rfl (fun f hf=>by rcases f with _ | _ | _ | _ | f <;> simp [STrap.row] at hf)
   obtain ⟨d7,H7,e6,e7,h7,c7⟩:=h6.pull2.app (n:=2) (t:=STrap.row ⟨x1,x2,x3,x4⟩) rowOf_agg (esz:=4) (eb:=32) (zero:=[.int .i64 0,.int .i64 0,.int .i64 0,.int .i64 0]) rfl (by decide) rfl rfl (fun r hr=>by obtain ⟨x,_,rfl⟩:=List.mem_map.mp hr; rfl) (by simp [maxLen]; omega)
   obtain ⟨H8,e8,h8⟩:=h7.pull2.pull1.put (f:=6) (by decide) (by simp [SMethod.row]) rfl c7
   have e6':bsl 4 [.int .i64 0,.int .i64 0,.int .i64 0,.int .i64 0] H5 1 [(0,.agg [.int .i64 x1,.int .i64 x2,.int .i64 x3,.int .i64 x4])]=some (.sl H5.length 0 1,H5++[some [D.cells (.agg (STrap.row ⟨x1,x2,x3,x4⟩))]]):=e6
   simp only [Bool.not_false,cond_true,call_raw,e1,e2,l2,e3,l3,e4,l4,e5,l5,bld4,e6',e7,e8,Option.bind_some,again_same hsame,bI_add]
   rw [wrap_i64 (n:=((N - (n + 1):Nat):Int) + 1) (by omega) (by omega),show ((N - (n + 1):Nat):Int) + 1=((N - n:Nat):Int) by omega]
   have hrow:((((mrow m).set 6 (Cell.raw d)).set 6 (Cell.own (D.list (m.Traps.map STrap.row++[STrap.row ⟨x1,x2,x3,x4⟩])))))=mrow { m with Traps:=m.Traps++[⟨x1,x2,x3,x4⟩] }:=by
    simp [mrow,SMethod.row]
   rw [hrow] at h8
   obtain ⟨cs',H',k',bad',l,k9,b9,l2',e13,h13,q13,t13,t14⟩:=ih { m with Traps:=m.Traps++[⟨x1,x2,x3,x4⟩] } H8 L k5 b5 (h8.pull2.pull1) q5 (by omega) (by simp; omega) hf
   refine ⟨cs',H',k',bad',⟨x1,x2,x3,x4⟩ :: l,k9,b9,l2',e13,by simpa using h13,q13,?_,t14⟩
   show Took (bindG gTrap fun a=>bindG (gMany gTrap n) fun l=>pureG (a :: l)) (s.drop k) false _ (s.drop k9) b9
   refine Took.seq ?_ (t13.seq (Took.pure _ _ _))
   exact t2.seq (t3.seq (t4.seq (t5.seq (Took.pure _ _ _))))
theorem c177 {H:Heap} {L:List Asset} {b:Nat} {s:List UInt8} {k:Nat} {bad:Bool} (f nm ds:Int) (h:Own H (rd b s k bad :: L)) (hk:k≤s.length) (hs:s.length≤900):∃ cs H' k' bad' m,ent E 177 [.ptr b 0 0,.agg [.int .i64 f,.int .i64 nm,.int .i64 ds,.int .i64 0,.int .i64 0,.str [],.sl0,.sl0]] H=some (.agg cs,H')∧Own H' (.val 4 (.agg cs) (.agg (SMethod.row m)) :: rd b s k' bad' :: L)∧k'≤s.length∧Took (gBody f nm ds) (s.drop k) bad m (s.drop k') bad':=by
 rw [e177,alloc_eq _ _ _ rfl,alloc_eq _ _ _ rfl]
 have h1:=h.alloc 3 (cs:=[.int .i64 f,.int .i64 nm,.int .i64 ds,.int .i64 0,.int .i64 0,.str [],.sl0,.sl0]) (ts:=SMethod.row ⟨f,nm,ds,0,0,[],[],[]⟩) ((zmeth ⟨f,nm,ds,0,0,[],[],[]⟩ rfl rfl).frame fun c hc=>by cases hc) rfl (zmeth0 _)
 have h2:=h1.alloc 3 (cs:=[.int .i64 0,.int .i64 0,.int .i64 0,.int .i64 0,.int .i64 0,.str [],.sl0,.sl0]) (ts:=(({}:SMethod)).row) ((zmeth {} rfl rfl).frame fun c hc=>by cases hc) rfl (zmeth0 {})
 rw [show D.cells (.agg [.int .i64 f,.int .i64 nm,.int .i64 ds,.int .i64 0,.int .i64 0,.str [],.sl0,.sl0])=[.int .i64 f,.int .i64 nm,.int .i64 ds,.int .i64 0,.int .i64 0,.str [],.sl0,.sl0] from rfl]
 obtain ⟨dp,H3,k3,b3,e3,h3,q3,t3,-,-⟩:=c151 h2.pull2 hk hs
 obtain ⟨H4,e4,h4⟩:=h3.pull2.st (f:=3) (v:=.int .i64 dp) (by simp [SMethod.row]) rfl rfl
 obtain ⟨lc,H5,k5,b5,e5,h5,q5,t5,-,-⟩:=c151 h4.pull1 q3 hs
 obtain ⟨H6,e6,h6⟩:=h5.pull1.st (f:=4) (v:=.int .i64 lc) (by simp [SMethod.row]) rfl rfl
 obtain ⟨cn,H7,k7,b7,e7,h7,q7,t7,g7,g8⟩:=c152 h6.pull1 q5 hs
 obtain ⟨H8,h8,e8⟩:=rlimit h7 cn 120
 simp only [call_raw,e3,e4,e5,e6,e7,Option.bind_some,fa_ptr,Nat.zero_add]
 rw [e8,j177_6]
 obtain ⟨cd,H9,k9,b9,e9,h9,q9,t9⟩:=c149 h8 q7 hs cn g7 g8
 obtain ⟨H10,e10,h10⟩:=h9.pull1.st (f:=5) (v:=.str cd) (by simp [SMethod.row]) rfl rfl
 obtain ⟨r,H11,k11,b11,e11,h11,q11,t11,g11,g12⟩:=c151 h10.pull1 q9 hs
 obtain ⟨H12,h12,e12⟩:=rlimit h11 r 3
 simp only [call_raw,e9,e10,e11,Option.bind_some,fa_ptr,Nat.zero_add]
 rw [e12,j177_10]
 obtain ⟨M,rfl⟩:∃ M:Nat,r=M:=⟨r.toNat,by omega⟩
 obtain ⟨cs,H',k',bad',l,k13,b13,l2,e13,h13,q13,t13,t14⟩:=c177_11 b H.length _ _ rfl s hs M (by omega) M ⟨f,nm,ds,dp,lc,cd,[],[]⟩ H12 L k11 _ (h12.pull1.pull2.pull1) q11 (Nat.le_refl _) (by simp; omega) rfl
 rw [Nat.sub_self] at e13
 refine ⟨cs,H',k',bad',⟨f,nm,ds,dp,lc,cd,l,l2⟩,e13,h13,q13,?_⟩
 exact t3.seq (t5.seq ((rup t7).seq (t9.seq (Took.seq (g:=gList 3 gTrap) ((rup t11).seq t13) (t14.seq (Took.pure _ _ _))))))
theorem c153 {H:Heap} {L:List Asset} {b:Nat} {s:List UInt8} {k:Nat} {bad:Bool} (h:Own H (rd b s k bad :: L)) (hk:k≤s.length) (hs:s.length≤900):∃ cs H' k' bad' m,ent E 153 [.ptr b 0 0] H=some (.agg cs,H')∧Own H' (.val 4 (.agg cs) (.agg (SMethod.row m)) :: rd b s k' bad' :: L)∧k'≤s.length∧Took gMethod (s.drop k) bad m (s.drop k') bad':=by
 rw [e153,alloc_eq _ _ _ rfl]
 have h1:=h.alloc 3 (cs:=[.int .i64 0,.int .i64 0,.int .i64 0,.int .i64 0,.int .i64 0,.str [],.sl0,.sl0]) (ts:=(({}:SMethod)).row) ((zmeth {} rfl rfl).frame fun c hc=>by cases hc) rfl (zmeth0 {})
 obtain ⟨f,H2,k2,b2,e2,h2,q2,t2,g0,g1⟩:=c151 h1.pull1 hk hs
 obtain ⟨nm,H3,k3,b3,e3,h3,q3,t3,-,-⟩:=c152 h2 q2 hs
 obtain ⟨ds,H4,k4,b4,e4,h4,q4,t4,-,-⟩:=c152 h3 q3 hs
 simp only [call_raw,e2,e3,e4,Option.bind_some]
 rw [show bld [.int .i64 0,.int .i64 0,.int .i64 0,.int .i64 0,.int .i64 0,.str [],.sl0,.sl0] [(0,1,false),(1,1,false),(2,1,false),(3,1,false),(4,1,false),(5,1,false),(6,1,false),(7,1,false)] [(0,.int .i64 f),(1,.int .i64 nm),(2,.int .i64 ds)]=some (.agg [.int .i64 f,.int .i64 nm,.int .i64 ds,.int .i64 0,.int .i64 0,.str [],.sl0,.sl0]) from rfl]
 simp only [Option.bind_some]
 rw [alloc_eq _ _ _ rfl]
 obtain ⟨H5,e5,h5,l5⟩:=(h4.alloc 3 (cs:=[.int .i64 0,.int .i64 0,.int .i64 0,.int .i64 0,.int .i64 0,.str [],.sl0,.sl0]) (ts:=(({}:SMethod)).row) ((zmeth {} rfl rfl).frame fun c hc=>by cases hc) rfl (zmeth0 {})).init (cs:=[.int .i64 f,.int .i64 nm,.int .i64 ds,.int .i64 0,.int .i64 0,.str [],.sl0,.sl0]) (ts:=SMethod.row ⟨f,nm,ds,0,0,[],[],[]⟩) ((zmeth ⟨f,nm,ds,0,0,[],[],[]⟩ rfl rfl).frame fun c hc=>by cases hc) rfl (zmeth0 _) (z:=8) rfl rfl
 have l0:ld false 1 H5 (.ptr H4.length 0 0)=some (.int .i64 f):=h5.ld (f:=0) rfl rfl
 simp only [e5,Option.bind_some,fa_ptr,Nat.zero_add,l0,bI_rem _ _ _ (show (16:Int) ≠ 0 by decide),bI_quo _ _ _ (show (8:Int) ≠ 0 by decide),bI_eql,asB_bool]
 rw [Int.tmod_eq_emod_of_nonneg g0,Int.tdiv_eq_ediv_of_nonneg (Int.emod_nonneg _ (by decide)),wrap_i64 (n:=f % 16 / 8) (by omega) (by omega)]
 have goal:∀ {m:SMethod} {s':List UInt8} {b':Bool} {x:Get SMethod},(x=if isAbs f=true then pureG ⟨f,nm,ds,0,0,[],[],[]⟩ else gBody f nm ds)→Took x (s.drop k4) b4 m s' b'→Took gMethod (s.drop k) bad m s' b':=by
  intro m s' b' x hx ht
  rw [hx] at ht
  exact t2.seq (t3.seq (t4.seq ht))
 have hab:decide (f % 16 / 8=1)=isAbs f:=rfl
 rw [hab]
 cases ha:isAbs f with
 | true=>
  simp only [cond_true]
  obtain ⟨cs,H',e8,h8⟩:=c177_end (h5.pull2.pull1) rfl
  exact ⟨cs,H',k4,b4,_,e8,h8,q4,goal rfl (by rw [if_pos ha]; exact Took.pure _ _ _)⟩
 | false=>
  simp only [cond_false,l5,Option.bind_some]
  obtain ⟨cs,H6,k6,b6,m,e6,h6,q6,t6⟩:=c177 f nm ds h5.pull1 q4 hs
  obtain ⟨H7,e7,h7,l7⟩:=(h6.pull3.pull1).over (m:=3) (n:=3) (by decide) (z:=8) rfl rfl
  obtain ⟨cs',e9,h9,-⟩:=h7.whole (z:=8) rfl
  rw [l7] at e9
  cases e9
  simp only [call_raw,e6,e7,l7,Option.bind_some,ret_one]
  exact ⟨cs,H7,k6,b6,m,rfl,h9.pull2.drop,q6,goal rfl (by rw [if_neg (by simp [ha])]; exact t6)⟩
end Go.Ev.YtmpfooibdekppaaGreatDoor
namespace Go.Ev.YtmpfooibdekppaaGreatDoor
set_option linter.unusedVariables false
set_option linter.unusedSimpArgs false
set_option linter.unusedSectionVars false
set_option linter.defProp false
set_option maxHeartbeats 1000000
open Go.Ev
theorem c99_26 (b p q:Nat) (ts0:List Cell) (h0:ts0.length=7) (s:List UInt8) (hs:s.length≤900) (N:Nat) (hN:N≤65535):∀ (n:Nat) (c:SClass) (H:Heap) (L:List Asset) (k:Nat) (bad:Bool),Own H (.var 4 p (crow c) :: .var 4 q ts0 :: rd b s k bad :: L)→k≤s.length→n≤N→c.Methods.length + n≤100000 →
  ∃ cs H' k' bad' l,J E 99 26 [.ptr b 0 0,.ptr q 0 0,.ptr p 0 0,.int .i64 N,.int .i64 ((N - n:Nat):Int)] H=some (.agg cs,H')∧Own H' (.val 5 (.agg cs) (.agg (SClass.row { c with Methods:=c.Methods++l })) :: rd b s k' bad' :: L)∧k'≤s.length∧Took (gMany gMethod n) (s.drop k) bad l (s.drop k') bad'
 | 0,c,H,L,k,bad,h,hk,hn,ha=>by
  rw [j99_26,Nat.sub_zero]
  obtain ⟨cs,H',e1,e2,e3,h1⟩:=h.copyout (z:=7) rfl h0
  simp only [bI_lss,Int.lt_irrefl,decide_false,Option.bind_some,asB_bool,cond_false,e1,e2,e3,ret_one]
  exact ⟨cs,H',k,bad,[],rfl,by simpa using h1,hk,Took.pure _ _ _⟩
 | n + 1,c,H,L,k,bad,h,hk,hn,ha=>by
  have hlt:((N - (n + 1):Nat):Int) < (N:Int):=by omega
  have l1:=h.pull2.ld (f:=2) rfl rfl
  rw [j99_26]
  simp only [bI_lss,hlt,decide_true,Option.bind_some,asB_bool,cond_true,nilCheck_ptr,fa_ptr,Nat.zero_add,l1,unOp_not]
  cases bad with
  | true=>
   obtain ⟨cs,H',e1,e2,e3,h1⟩:=h.copyout (z:=7) rfl h0
   simp only [Bool.not_true,cond_false,e1,e2,e3,Option.bind_some,ret_one]
   exact ⟨cs,H',k,true,[],rfl,by simpa using h1,hk,Took.bad _ _ _⟩
  | false=>
   obtain ⟨d,e1,h1⟩:=h.take (f:=6) (t:=.list (c.Methods.map SMethod.row)) rfl
   have hsame:=rep_same h1.val.choose_spec.1
   obtain ⟨cs,H2,k2,b2,m,e2,h2,q2,t2⟩:=c153 h1.pull3 hk hs
   have l2:=(h2.pull3.ldraw (f:=6) (d:=d) rfl)
   obtain ⟨d3,H3,e3,e4,h3,c3⟩:=h2.pull2.app (n:=3) (t:=m.row) rowOf_agg (esz:=8) (eb:=104) (zero:=[.int .i64 0,.int .i64 0,.int .i64 0,.int .i64 0,.int .i64 0,.str [],.sl0,.sl0]) rfl (by decide) rfl rfl (fun r hr=>by obtain ⟨x,_,rfl⟩:=List.mem_map.mp hr; rfl) (by simp [maxLen]; omega)
   obtain ⟨H5,e5,h5⟩:=h3.pull2.pull1.put (f:=6) (by decide) (by simp [SClass.row]) rfl c3
   simp only [Bool.not_false,cond_true,call_raw,e1,e2,l2,e3,e4,e5,Option.bind_some,again_same hsame,bI_add]
   rw [wrap_i64 (n:=((N - (n + 1):Nat):Int) + 1) (by omega) (by omega),show ((N - (n + 1):Nat):Int) + 1=((N - n:Nat):Int) by omega]
   have hrow:((((crow c).set 6 (Cell.raw d)).set 6 (Cell.own (D.list (c.Methods.map SMethod.row++[m.row])))))=crow { c with Methods:=c.Methods++[m] }:=by
    simp [crow,SClass.row]
   rw [hrow] at h5
   obtain ⟨cs',H',k',bad',l,e9,h9,q9,t9⟩:=c99_26 b p q ts0 h0 s hs N hN n { c with Methods:=c.Methods++[m] } H5 L k2 b2 (h5.pull2.pull1) q2 (by omega) (by simp; omega)
   refine ⟨cs',H',k',bad',m :: l,e9,by simpa using h9,q9,?_⟩
   show Took (bindG gMethod fun a=>bindG (gMany gMethod n) fun l=>pureG (a :: l)) (s.drop k) false (m :: l) (s.drop k') bad'
   exact t2.seq (t9.seq (Took.pure _ _ _))
theorem bld3i {a b c:Int}:bld [.int .i64 0,.int .i64 0,.int .i64 0] [(0,1,false),(1,1,false),(2,1,false)] [(0,.int .i64 a),(1,.int .i64 b),(2,.int .i64 c)]=some (.agg [.int .i64 a,.int .i64 b,.int .i64 c]):=rfl
theorem c99_19 (b p q:Nat) (ts0:List Cell) (h0:ts0.length=7) (s:List UInt8) (hs:s.length≤900) (N:Nat) (hN:N≤65535):∀ (n:Nat) (c:SClass) (H:Heap) (L:List Asset) (k:Nat) (bad:Bool),Own H (.var 4 p (crow c) :: .var 4 q ts0 :: rd b s k bad :: L)→k≤s.length→n≤N→c.Fields.length + n≤100000→c.Methods=[] →
  ∃ cs H' k' bad' l k1 b1 l2,J E 99 19 [.ptr b 0 0,.ptr q 0 0,.ptr p 0 0,.int .i64 N,.int .i64 ((N - n:Nat):Int)] H=some (.agg cs,H')∧Own H' (.val 5 (.agg cs) (.agg (SClass.row { c with Fields:=c.Fields++l,Methods:=l2 })) :: rd b s k' bad' :: L)∧k'≤s.length∧Took (gMany gField n) (s.drop k) bad l (s.drop k1) b1∧Took (gList 6 gMethod) (s.drop k1) b1 l2 (s.drop k') bad':=by
 have rest:∀ (c:SClass) (H:Heap) (L:List Asset) (k:Nat) (bad:Bool),Own H (.var 4 p (crow c) :: .var 4 q ts0 :: rd b s k bad :: L)→k≤s.length→c.Methods=[] →
   ∃ cs H' k' bad' l2,((callFn E (exec E) .raw 151 [.ptr b 0 0] H).bind fun r39=>(bI .gtr r39.1 (D.int .i64 6)).bind fun v40=>asB v40 fun t=>bif t then ((nilCheck (.ptr b 0 0)).bind fun v41=>(fa 2 v41).bind fun v42=>(st 1 r39.2 v42 (D.bool true)).bind fun H43=>J E 99 25 [.ptr b 0 0,.ptr q 0 0,.ptr p 0 0,r39.1] H43) else (J E 99 25 [.ptr b 0 0,.ptr q 0 0,.ptr p 0 0,r39.1] r39.2))=some (.agg cs,H')∧Own H' (.val 5 (.agg cs) (.agg (SClass.row { c with Methods:=l2 })) :: rd b s k' bad' :: L)∧k'≤s.length∧Took (gList 6 gMethod) (s.drop k) bad l2 (s.drop k') bad':=by
  intro c H L k bad h hk hf
  obtain ⟨t,H1,k1,b1,e1,h1,q1,t1,g0,g1⟩:=c151 h.pull2 hk hs
  obtain ⟨H2,h2,e2⟩:=rlimit h1 t 6
  simp only [call_raw,e1,Option.bind_some]
  rw [e2,j99_25]
  obtain ⟨M,rfl⟩:∃ M:Nat,t=M:=⟨t.toNat,by omega⟩
  obtain ⟨cs,H',k',bad',l,e8,h8,q8,t8⟩:=c99_26 b p q ts0 h0 s hs M (by omega) M c H2 L k1 _ (h2.pull2.pull2) q1 (Nat.le_refl _) (by simp [hf]; omega)
  rw [hf,List.nil_append] at h8
  rw [Nat.sub_self] at e8
  exact ⟨cs,H',k',bad',l,e8,h8,q8,(rup t1).seq t8⟩
 intro n
 induction n with
 | zero=>
  intro c H L k bad h hk hn ha hf
  rw [j99_19,Nat.sub_zero]
  simp only [bI_lss,Int.lt_irrefl,decide_false,Option.bind_some,asB_bool,cond_false]
  obtain ⟨cs,H',k',bad',l2,e1,h1,q1,t1⟩:=rest c H L k bad h hk hf
  exact ⟨cs,H',k',bad',[],k,bad,l2,e1,by simpa using h1,q1,Took.pure _ _ _,t1⟩
 | succ n ih=>
  intro c H L k bad h hk hn ha hf
  have hlt:((N - (n + 1):Nat):Int) < (N:Int):=by omega
  have l1:=h.pull2.ld (f:=2) rfl rfl
  rw [j99_19]
  simp only [bI_lss,hlt,decide_true,Option.bind_some,asB_bool,cond_true,nilCheck_ptr,fa_ptr,Nat.zero_add,l1,unOp_not]
  cases bad with
  | true=>
   simp only [Bool.not_true,cond_false]
   obtain ⟨cs,H',k',bad',l2,e1,h1,q1,t1⟩:=rest c H L k true h hk hf
   exact ⟨cs,H',k',bad',[],k,true,l2,e1,by simpa using h1,q1,Took.bad _ _ _,t1⟩
  | false=>
   obtain ⟨d,e1,h1⟩:=h.take (f:=5) (t:=.list (c.Fields.map SField.row)) rfl
   have hsame:=rep_same h1.val.choose_spec.1
   obtain ⟨x1,H2,k2,b2,e2,h2,q2,t2,-,-⟩:=c151 h1.pull3 hk hs
   have l2:=h2.pull2.ldraw (f:=5) (d:=d) rfl
   obtain ⟨x2,H3,k3,b3,e3,h3,q3,t3,-,-⟩:=c152 h2 q2 hs
   have l3:=h3.pull2.ldraw (f:=5) (d:=d) rfl
   obtain ⟨x3,H4,k4,b4,e4,h4,q4,t4,-,-⟩:=c152 h3 q3 hs
   have l4:=h4.pull2.ldraw (f:=5) (d:=d) rfl
   have h6:=h4.lit (n:=3) (cs:=SField.row ⟨x1,x2,x3⟩) (ts:=SField.row ⟨x1,x2,x3⟩) (RepR.scalars rfl) rfl (fun f hf=>by rcases f with _ | _ | _ | f <;> simp [SField.row] at hf)
   obtain ⟨d7,H7,e6,e7,h7,c7⟩:=h6.pull2.app (n:=3) (t:=SField.row ⟨x1,x2,x3⟩) rowOf_agg (esz:=3) (eb:=24) (zero:=[.int .i64 0,.int .i64 0,.int .i64 0]) rfl (by decide) rfl rfl (fun r hr=>by obtain ⟨x,_,rfl⟩:=List.mem_map.mp hr; rfl) (by simp [maxLen]; omega)
   obtain ⟨H8,e8,h8⟩:=h7.pull2.pull1.put (f:=5) (by decide) (by simp [SClass.row]) rfl c7
   have e6':bsl 3 [.int .i64 0,.int .i64 0,.int .i64 0] H4 1 [(0,.agg [.int .i64 x1,.int .i64 x2,.int .i64 x3])]=some (.sl H4.length 0 1,H4++[some [D.cells (.agg (SField.row ⟨x1,x2,x3⟩))]]):=e6
   simp only [Bool.not_false,cond_true,call_raw,e1,e2,l2,e3,l3,e4,l4,bld3i,e6',e7,e8,Option.bind_some,again_same hsame,bI_add]
   rw [wrap_i64 (n:=((N - (n + 1):Nat):Int) + 1) (by omega) (by omega),show ((N - (n + 1):Nat):Int) + 1=((N - n:Nat):Int) by omega]
   have hrow:((((crow c).set 5 (Cell.raw d)).set 5 (Cell.own (D.list (c.Fields.map SField.row++[SField.row ⟨x1,x2,x3⟩])))))=crow { c with Fields:=c.Fields++[⟨x1,x2,x3⟩] }:=by
    simp [crow,SClass.row]
   rw [hrow] at h8
   obtain ⟨cs',H',k',bad',l,k9,b9,l2',e13,h13,q13,t13,t14⟩:=ih { c with Fields:=c.Fields++[⟨x1,x2,x3⟩] } H8 L k4 b4 (h8.pull2.pull1) q4 (by omega) (by simp; omega) hf
   refine ⟨cs',H',k',bad',⟨x1,x2,x3⟩ :: l,k9,b9,l2',e13,by simpa using h13,q13,?_,t14⟩
   show Took (bindG gField fun a=>bindG (gMany gField n) fun l=>pureG (a :: l)) (s.drop k) false _ (s.drop k9) b9
   refine Took.seq ?_ (t13.seq (Took.pure _ _ _))
   exact t2.seq (t3.seq (t4.seq (Took.pure _ _ _)))
theorem c99_12 (b p q:Nat) (ts0:List Cell) (h0:ts0.length=7) (s:List UInt8) (hs:s.length≤900) (N:Nat) (hN:N≤65535):∀ (n:Nat) (c:SClass) (H:Heap) (L:List Asset) (k:Nat) (bad:Bool),Own H (.var 4 p (crow c) :: .var 4 q ts0 :: rd b s k bad :: L)→k≤s.length→n≤N→c.Faces.length + n≤100000→c.Fields=[]→c.Methods=[] →
  ∃ cs H' k' bad' l k1 b1 l2 k2 b2 l3,J E 99 12 [.ptr b 0 0,.ptr q 0 0,.ptr p 0 0,.int .i64 N,.int .i64 ((N - n:Nat):Int)] H=some (.agg cs,H')∧Own H' (.val 5 (.agg cs) (.agg (SClass.row { c with Faces:=c.Faces++l,Fields:=l2,Methods:=l3 })) :: rd b s k' bad' :: L)∧k'≤s.length∧Took (gMany gTwo n) (s.drop k) bad l (s.drop k1) b1∧Took (gList 5 gField) (s.drop k1) b1 l2 (s.drop k2) b2∧Took (gList 6 gMethod) (s.drop k2) b2 l3 (s.drop k') bad':=by
 have rest:∀ (c:SClass) (H:Heap) (L:List Asset) (k:Nat) (bad:Bool),Own H (.var 4 p (crow c) :: .var 4 q ts0 :: rd b s k bad :: L)→k≤s.length→c.Fields=[]→c.Methods=[] →
   ∃ cs H' k' bad' l2 k2 b2 l3,((callFn E (exec E) .raw 151 [.ptr b 0 0] H).bind fun r39=>(bI .gtr r39.1 (D.int .i64 5)).bind fun v40=>asB v40 fun t=>bif t then ((nilCheck (.ptr b 0 0)).bind fun v41=>(fa 2 v41).bind fun v42=>(st 1 r39.2 v42 (D.bool true)).bind fun H43=>J E 99 18 [.ptr b 0 0,.ptr q 0 0,.ptr p 0 0,r39.1] H43) else (J E 99 18 [.ptr b 0 0,.ptr q 0 0,.ptr p 0 0,r39.1] r39.2))=some (.agg cs,H')∧Own H' (.val 5 (.agg cs) (.agg (SClass.row { c with Fields:=l2,Methods:=l3 })) :: rd b s k' bad' :: L)∧k'≤s.length∧Took (gList 5 gField) (s.drop k) bad l2 (s.drop k2) b2∧Took (gList 6 gMethod) (s.drop k2) b2 l3 (s.drop k') bad':=by
  intro c H L k bad h hk hf hm
  obtain ⟨t,H1,k1,b1,e1,h1,q1,t1,g0,g1⟩:=c151 h.pull2 hk hs
  obtain ⟨H2,h2,e2⟩:=rlimit h1 t 5
  simp only [call_raw,e1,Option.bind_some]
  rw [e2,j99_18]
  obtain ⟨M,rfl⟩:∃ M:Nat,t=M:=⟨t.toNat,by omega⟩
  obtain ⟨cs,H',k',bad',l,k2,b2,l3,e8,h8,q8,t8,t9⟩:=c99_19 b p q ts0 h0 s hs M (by omega) M c H2 L k1 _ (h2.pull2.pull2) q1 (Nat.le_refl _) (by simp [hf]; omega) hm
  rw [hf,List.nil_append] at h8
  rw [Nat.sub_self] at e8
  exact ⟨cs,H',k',bad',l,k2,b2,l3,e8,h8,q8,(rup t1).seq t8,t9⟩
 intro n
 induction n with
 | zero=>
  intro c H L k bad h hk hn ha hf hm
  rw [j99_12,Nat.sub_zero]
  simp only [bI_lss,Int.lt_irrefl,decide_false,Option.bind_some,asB_bool,cond_false]
  obtain ⟨cs,H',k',bad',l2,k2,b2,l3,e1,h1,q1,t1,t2⟩:=rest c H L k bad h hk hf hm
  exact ⟨cs,H',k',bad',[],k,bad,l2,k2,b2,l3,e1,by simpa using h1,q1,Took.pure _ _ _,t1,t2⟩
 | succ n ih=>
  intro c H L k bad h hk hn ha hf hm
  have hlt:((N - (n + 1):Nat):Int) < (N:Int):=by omega
  have l1:=h.pull2.ld (f:=2) rfl rfl
  rw [j99_12]
  simp only [bI_lss,hlt,decide_true,Option.bind_some,asB_bool,cond_true,nilCheck_ptr,fa_ptr,Nat.zero_add,l1,unOp_not]
  cases bad with
  | true=>
   simp only [Bool.not_true,cond_false]
   obtain ⟨cs,H',k',bad',l2,k2,b2,l3,e1,h1,q1,t1,t2⟩:=rest c H L k true h hk hf hm
   exact ⟨cs,H',k',bad',[],k,true,l2,k2,b2,l3,e1,by simpa using h1,q1,Took.bad _ _ _,t1,t2⟩
  | false=>
   obtain ⟨d,e1,h1⟩:=h.take (f:=4) (t:=.list (c.Faces.map rInt)) rfl
   have hsame:=rep_same h1.val.choose_spec.1
   obtain ⟨x1,H2,k2,b2,e2,h2,q2,t2,-,-⟩:=c152 h1.pull3 hk hs
   have l2:=h2.pull2.ldraw (f:=4) (d:=d) rfl
   obtain ⟨d7,H7,e6,e7,h7,c7⟩:=((h2.sc 3 (v:=.int .i64 x1) rfl).pull2).app (n:=3) (t:=rInt x1) (rowOf_sc rfl rfl) (esz:=1) (eb:=8) (zero:=[.int .i64 0]) rfl (by decide) rfl rfl (fun r hr=>by obtain ⟨x,_,rfl⟩:=List.mem_map.mp hr; rfl) (by simp [maxLen]; omega)
   obtain ⟨H8,e8,h8⟩:=h7.pull2.pull1.put (f:=4) (by decide) (by simp [SClass.row]) rfl c7
   simp only [Bool.not_false,cond_true,call_raw,e1,e2,l2,e6,e7,e8,Option.bind_some,again_same hsame,bI_add]
   rw [wrap_i64 (n:=((N - (n + 1):Nat):Int) + 1) (by omega) (by omega),show ((N - (n + 1):Nat):Int) + 1=((N - n:Nat):Int) by omega]
   have hrow:((((crow c).set 4 (Cell.raw d)).set 4 (Cell.own (D.list (c.Faces.map rInt++[rInt x1])))))=crow { c with Faces:=c.Faces++[x1] }:=by
    simp [crow,SClass.row]
   rw [hrow] at h8
   obtain ⟨cs',H',k',bad',l,k9,b9,l2',k10,b10,l3',e13,h13,q13,t13,t14,t15⟩:=ih { c with Faces:=c.Faces++[x1] } H8 L k2 b2 (h8.pull2.pull1) q2 (by omega) (by simp; omega) hf hm
   refine ⟨cs',H',k',bad',x1 :: l,k9,b9,l2',k10,b10,l3',e13,by simpa using h13,q13,?_,t14,t15⟩
   show Took (bindG gTwo fun a=>bindG (gMany gTwo n) fun l=>pureG (a :: l)) (s.drop k) false _ (s.drop k9) b9
   exact t2.seq (t13.seq (Took.pure _ _ _))
def gRest:Get SClass:=bindG (gList 60 gConst) fun p=>bindG gOne fun f=>bindG gTwo fun n=>bindG gTwo fun u=>bindG (gList 3 gTwo) fun a=>bindG (gList 5 gField) fun i=>bindG (gList 6 gMethod) fun m=>pureG ⟨p,f,n,u,a,i,m⟩
theorem c99_4 (b p q:Nat) (ts0:List Cell) (h0:ts0.length=7) (s:List UInt8) (hs:s.length≤900) {H:Heap} {L:List Asset} {k:Nat} {bad:Bool} (h:Own H (.var 4 p (crow {}) :: .var 4 q ts0 :: rd b s k bad :: L)) (hk:k≤s.length) :
  ∃ cs H' k' bad' c,J E 99 4 [.ptr b 0 0,.ptr q 0 0,.ptr p 0 0] H=some (.agg cs,H')∧Own H' (.val 5 (.agg cs) (.agg (SClass.row c)) :: rd b s k' bad' :: L)∧k'≤s.length∧Took gRest (s.drop k) bad c (s.drop k') bad':=by
 rw [j99_4]
 obtain ⟨d1,H1,k1,b1,pl,e1,h1,q1,t1⟩:=c150 h.pull2 hk hs
 have c1:=h1.cellOf
 obtain ⟨H2,e2,h2⟩:=h1.pull2.pull1.put (f:=0) (by decide) (by simp [SClass.row]) rfl c1.1
 obtain ⟨f,H3,k3,b3,e3,h3,q3,t3,-,-⟩:=c151 h2.pull1 q1 hs
 obtain ⟨H4,e4,h4⟩:=h3.pull1.st (f:=1) (v:=.int .i64 f) (by simp [SClass.row]) rfl rfl
 obtain ⟨nm,H5,k5,b5,e5,h5,q5,t5,-,-⟩:=c152 h4.pull1 q3 hs
 obtain ⟨H6,e6,h6⟩:=h5.pull1.st (f:=2) (v:=.int .i64 nm) (by simp [SClass.row]) rfl rfl
 obtain ⟨u,H7,k7,b7,e7,h7,q7,t7,-,-⟩:=c152 h6.pull1 q5 hs
 obtain ⟨H8,e8,h8⟩:=h7.pull1.st (f:=3) (v:=.int .i64 u) (by simp [SClass.row]) rfl rfl
 have h8':Own H8 (.var 4 p (crow ⟨pl,f,nm,u,[],[],[]⟩) :: rd b s k7 b7 :: .var 4 q ts0 :: L):=h8
 obtain ⟨t,H9,k9,b9,e9,h9,q9,t9,g9,g10⟩:=c151 h8'.pull1 q7 hs
 obtain ⟨H10,h10,e10⟩:=rlimit h9 t 3
 simp only [call_raw,e1,e2,e3,e4,e5,e6,e7,e8,e9,Option.bind_some,fa_ptr,Nat.zero_add]
 rw [e10,j99_11]
 obtain ⟨M,rfl⟩:∃ M:Nat,t=M:=⟨t.toNat,by omega⟩
 obtain ⟨cs,H',k',bad',l,k11,b11,l2,k12,b12,l3,e12,h12,q12,t12,t13,t14⟩:=c99_12 b p q ts0 h0 s hs M (by omega) M ⟨pl,f,nm,u,[],[],[]⟩ H10 L k9 _ (h10.pull1.pull2.pull1) q9 (Nat.le_refl _) (by simp; omega) rfl rfl
 rw [Nat.sub_self] at e12
 refine ⟨cs,H',k',bad',⟨pl,f,nm,u,l,l2,l3⟩,e12,h12,q12,?_⟩
 exact t1.seq (t3.seq (t5.seq (t7.seq (Took.seq (g:=gList 3 gTwo) ((rup t9).seq t12) (t13.seq (t14.seq (Took.pure _ _ _)))))))
theorem c99 {H:Heap} {L:List Asset} {b:Nat} {s:List UInt8} (h:Own H (rd b s 0 false :: L)) (hs:s.length≤900):∃ cs H' k' bad' c,ent E 99 [.ptr b 0 0] H=some (.agg cs,H')∧Own H' (.val 5 (.agg cs) (.agg (SClass.row c)) :: rd b s k' bad' :: L)∧k'≤s.length∧Took gClass s false c (s.drop k') bad':=by
 rw [e99,alloc_eq _ _ _ rfl]
 have h1:=h.alloc 4 (cs:=zcls) (ts:=(({}:SClass)).row) (zcls_rep.frame fun c hc=>by cases hc) rfl zcls_nil
 rw [show bld [.sl0,.int .i64 0,.int .i64 0,.int .i64 0,.sl0,.sl0,.sl0] [(0,1,false),(1,1,false),(2,1,false),(3,1,false),(4,1,false),(5,1,false),(6,1,false)] []=some (.agg zcls) from rfl]
 simp only [Option.bind_some]
 rw [alloc_eq _ _ _ rfl]
 obtain ⟨H2,e2,h2,-⟩:=(h1.alloc 4 (cs:=zcls) (ts:=(({}:SClass)).row) (zcls_rep.frame fun c hc=>by cases hc) rfl zcls_nil).init (cs:=zcls) (ts:=(({}:SClass)).row) (zcls_rep.frame fun c hc=>by cases hc) rfl zcls_nil (z:=7) rfl rfl
 obtain ⟨t,H3,k3,b3,e3,h3,q3,t3⟩:=c149 h2.pull2 (Nat.zero_le _) hs 4 (by decide) (by decide)
 rw [List.drop_zero] at t3
 simp only [e2,call_raw,e3,Option.bind_some,bS_neq,asB_bool]
 have t3':Took (gText 4) s false t (s.drop k3) b3:=t3
 by_cases ht:t=[83,84,79,87]
 ·simp only [ht,decide_true,Bool.not_true,cond_false]
  obtain ⟨cs,H',k',bad',c,e4,h4,q4,t4⟩:=c99_4 b _ _ _ rfl s hs (h3.pull2.pull2.pull1.pull1) q3
  refine ⟨cs,H',k',bad',c,e4,h4,q4,t3'.seq ?_⟩
  rw [if_pos (show t=stow from ht)]
  exact t4
 ·simp only [ht,decide_false,Bool.not_false,cond_true]
  obtain ⟨H4,e4,h4⟩:=h3.st (f:=2) (v:=.bool true) (by simp) rfl rfl
  simp only [nilCheck_ptr,fa_ptr,Nat.zero_add,e4,Option.bind_some]
  obtain ⟨cs,H',k',bad',c,e5,h5,q5,t5⟩:=c99_4 b _ _ _ rfl s hs (h4.pull2.pull2.pull1.pull1) q3
  refine ⟨cs,H',k',bad',c,e5,h5,q5,t3'.seq ?_⟩
  rw [if_neg (show ¬ t=stow from ht)]
  refine ⟨t5.1,?_⟩
  rw [t5.dead]
  cases b3 <;> simp [failG]
end Go.Ev.YtmpfooibdekppaaGreatDoor
namespace Go.Ev.YtmpfooibdekppaaGreatDoor
set_option linter.unusedVariables false
set_option linter.unusedSimpArgs false
set_option linter.unusedSectionVars false
set_option linter.defProp false
set_option maxHeartbeats 1000000
open Go.Ev
theorem int_call {g:FuncId} {n:Int} {H:Heap} {t:D} (h:run E (exec E) false g [.int .i64 n]=some t):callFn E (exec E) .pure g [.int .i64 n] H=some (t,H):=pure_call (by simp) h
theorem c97g (n:Int) (hn:i64 n):run E (exec E) false 97 [.int .i64 n]=some (.str (pTwo' n)):=by
 obtain ⟨h0,h1⟩:=hn
 rw [run_ent,e97]
 have hq : -9223372036854775808≤n.tdiv 256∧n.tdiv 256≤9223372036854775807:=by
  have:=Int.tmod_add_mul_tdiv n 256
  have:=Int.tmod_lt_of_pos n (show (0:Int) < 256 by decide)
  have : -256 < n.tmod 256:=by
   have:=Int.neg_lt_of_neg_lt (a:=n.tmod 256) (b:=256) (by
    rw [← Int.neg_tmod]
    exact Int.tmod_lt_of_pos _ (by decide))
   omega
  omega
 simp only [bI_rem _ _ _ (show (256:Int) ≠ 0 by decide),bI_quo _ _ _ (show (256:Int) ≠ 0 by decide),Option.bind_some,cI_int]
 rw [wrap_i64 (n:=n.tdiv 256) hq.1 hq.2]
 simp only [u8_wrap]
 have:bsl 1 [.int .u8 0] [] 2 [(0,.int .u8 ((u8 (n.tdiv 256)).toNat:Int)),(1,.int .u8 ((u8 (n.tmod 256)).toNat:Int))]=some (.sl 0 0 2,[some ((pTwo' n).map rByte)]):=rfl
 rw [this]
 simp only [Option.bind_some]
 rw [show D.sl 0 0 2=D.sl 0 0 (pTwo' n).length from rfl,cBS_map _ _ _ rfl]
 simp
theorem pTwo'_len (n:Int):(pTwo' n).length=2:=rfl
theorem pTwo_len (n:Int):(pTwo n).length=2:=rfl
theorem pOne_len (n:Int):(pOne n).length=1:=rfl
theorem add1 {acc:List UInt8} {n:Int} (h:acc.length + 1≤4611686018427387904):bS .add (.str acc) (.str [u8 n])=some (.str (acc++pOne n)):=bS_add _ _ (by simpa using h)
theorem add2 {acc t:List UInt8} (h:acc.length + t.length≤4611686018427387904):bS .add (.str acc) (.str t)=some (.str (acc++t)):=bS_add _ _ h
theorem c148_3 (l:List SKind) (hl:l.length≤140737488351232) (w:∀ x ∈ l,x.wf) (H:Heap):∀ i,i≤l.length→∀ acc:List UInt8,acc.length + ((l.drop i).flatMap (pKind pTwo')).length≤4611686018427387904→J E 148 3 [.list (l.map SKind.row),.str acc,.int .i64 i] H=some (.str (acc++(l.drop i).flatMap (pKind pTwo')),H):=by
 apply loop_up
 ·intro acc hM
  rw [j148_3]
  simp only [lnL_list,List.length_map,bI_lss,Int.lt_irrefl,decide_false,Option.bind_some,asB_bool,cond_false,List.drop_length,ret_one,List.flatMap_nil,List.append_nil]
 ·intro i hi ih acc hM
  have hlt:((i:Nat):Int) < (l.length:Int):=by omega
  have wx:=w _ (List.getElem_mem hi)
  have hia:∀ H:Heap,ia 2 H (.list (l.map SKind.row)) (.int .i64 i)=some (.el (l[i]).row 0):=fun H=>by
   rw [ia_list (n:=(i:Int)) (by omega) (by simpa using hi) (by simp)]; simp
  rw [List.drop_eq_getElem_cons hi,List.flatMap_cons] at hM ⊢
  rw [j148_3]
  simp only [lnL_list,List.length_map,bI_lss,hlt,decide_true,Option.bind_some,asB_bool,cond_true,hia,fa_el,ld_el]
  generalize l[i]=x at *
  simp only [List.length_append] at hM
  simp only [show part x.row (0 + 0,1,false)=some (.int .i64 x.Tag) from rfl,show part x.row (0 + 1,1,false)=some (.int .i64 x.Class) from rfl,Option.bind_some]
  rw [int_call (c95 x.Tag)]
  simp only [Option.bind_some]
  have h1:1≤(pKind pTwo' x).length:=by unfold pKind; split <;> simp [pOne]
  rw [add1 (by omega)]
  simp only [Option.bind_some,hia,fa_el,ld_el,show part x.row (0 + 0,1,false)=some (.int .i64 x.Tag) from rfl,show part x.row (0 + 1,1,false)=some (.int .i64 x.Class) from rfl,bI_eql,asB_bool]
  have nx:∀ acc':List UInt8,acc'=acc++pKind pTwo' x→J E 148 4 [.list (l.map SKind.row),.str acc',.int .i64 i] H=some (.str (acc++(pKind pTwo' x++(l.drop (i + 1)).flatMap (pKind pTwo'))),H):=by
   intro acc' e
   rw [j148_4,bI_add,wrap_i64 (n:=(i:Int) + 1) (by omega) (by omega)]
   simp only [Option.bind_some]
   have:=ih acc' (by rw [e]; simp only [List.length_append]; omega)
   rw [show ((i:Int) + 1)=((i + 1:Nat):Int) by omega,this,e]
   simp
  by_cases h3:x.Tag=3
  ·simp only [h3,decide_true,cond_true]
   rw [int_call (c97g x.Class wx.2)]
   simp only [Option.bind_some]
   have h2:(pKind pTwo' x).length=3:=by simp [pKind,h3,pOne,pTwo']
   rw [add2 (by simp [pOne,pTwo']; omega)]
   simp only [Option.bind_some]
   exact nx _ (by simp [pKind,h3])
  ·simp only [h3,decide_false,cond_false]
   exact nx _ (by simp [pKind,h3])
theorem c148 (l:List SKind) (hl:l.length≤140737488351232) (w:∀ x ∈ l,x.wf) (hM:(pKinds pTwo' l).length≤4611686018427387904):run E (exec E) false 148 [.list (l.map SKind.row)]=some (.str (pKinds pTwo' l)):=by
 unfold pKinds at *
 rw [run_ent,e148]
 simp only [lnL_list,List.length_map,Option.bind_some]
 rw [int_call (c95 _)]
 simp only [Option.bind_some]
 rw [show D.int .i64 0=D.int .i64 ((0:Nat):Int) from rfl,c148_3 l hl w [] 0 (by omega) _ (by simp only [List.drop_zero,List.length_append,pOne_len,List.length_cons,List.length_nil] at hM ⊢; omega)]
 simp [pOne]
theorem c96 (x:SConst) (wx:x.wf):run E (exec E) false 96 [x.d]=some (.str (pConst pTwo' x)):=by
 have h:getBlk ([some [x.row]]:Heap) 0=some [x.row]:=rfl
 have m0:x.row[0 + 0]? = some (.int .i64 x.Kind):=rfl
 have m1:x.row[0 + 1]? = some (.str x.Text):=rfl
 have m2:x.row[0 + 2]? = some (.int .i64 x.A):=rfl
 have m3:x.row[0 + 3]? = some (.int .i64 x.B):=rfl
 have hw:=wx.2.1
 rw [run_ent,e96,alloc_eq _ _ _ rfl]
 rw [show ([]:Heap)++[some [D.cells x.d]]=[some [x.row]] from rfl,show ([]:Heap).length=0 from rfl]
 simp only [fa_ptr,Option.bind_some,ld_in0 h,m0,m1,m2,m3,bI_eql,asB_bool,lnS_str,pConst]
 by_cases k1:x.Kind=1
 ·simp only [k1,decide_true,cond_true,if_true]
  rw [int_call (c95 _)]
  simp only [Option.bind_some,ld_in0 h,m1,lnS_str]
  rw [int_call (c95 _)]
  simp only [Option.bind_some]
  rw [add1 (by simp)]
  simp only [Option.bind_some,ld_in0 h,m1]
  rw [add2 (by simp [pOne]; omega)]
  simp [pOne]
 ·simp only [k1,decide_false,cond_false,if_false]
  by_cases k2:x.Kind=2
  ·simp only [k2,decide_true,cond_true,if_true]
   rw [int_call (c95 _)]
   simp only [Option.bind_some,ld_in0 h,m2]
   rw [int_call (c97g _ wx.2.2.1)]
   simp only [Option.bind_some]
   rw [add2 (by simp [pTwo'])]
   simp [pOne]
  ·simp only [k2,decide_false,cond_false,if_false]
   rw [int_call (c95 _)]
   simp only [Option.bind_some,ld_in0 h,m2]
   rw [int_call (c97g _ wx.2.2.1)]
   simp only [Option.bind_some]
   rw [add2 (by simp [pTwo'])]
   simp only [Option.bind_some,ld_in0 h,m3]
   rw [int_call (c97g _ wx.2.2.2)]
   simp only [Option.bind_some]
   rw [add2 (by simp [pTwo'])]
   simp [pOne]
theorem ia_row {α:Type} {l:List α} {row:α→List D} {esz:Nat} (hr:∀ x,(row x).length=esz) {H:Heap} {i:Nat} (hi:i < l.length):ia esz H (.list (l.map row)) (.int .i64 i)=some (.el (row l[i]) 0):=by
 rw [ia_list (n:=(i:Int)) (by omega) (by simpa using hi) (by simp [hr])]; simp
def mTail (m:SMethod):List UInt8:=pOne m.Frames.length++m.Frames.flatMap (pFrame pTwo')
theorem c98_12 (m:SMethod) (w:m.wf) (H:Heap) (h:getBlk H 0=some [m.row]):∀ i,i≤m.Frames.length→∀ (acc:List UInt8) (K:Heap),acc.length + ((m.Frames.drop i).flatMap (pFrame pTwo')).length≤4611686018427387904→J E 98 12 [.ptr 0 0 0,.str acc,.int .i64 i] (H++K)=some (.str (acc++(m.Frames.drop i).flatMap (pFrame pTwo')),H++K):=by
 have m7:m.row[0 + 7]? = some (.list (m.Frames.map SFrame.row)):=rfl
 obtain ⟨-,-,-,-,-,-,-,w1,w2⟩:=w
 apply loop_up
 ·intro acc K hM
  rw [j98_12]
  simp only [fa_ptr,ld_in h,m7,lnL_list,List.length_map,bI_lss,Int.lt_irrefl,decide_false,Option.bind_some,asB_bool,cond_false,List.drop_length,ret_one,List.flatMap_nil,List.append_nil]
 ·intro i hi ih acc K hM
  have hlt:((i:Nat):Int) < (m.Frames.length:Int):=by omega
  have wx:=w2 _ (List.getElem_mem hi)
  have hia:=fun H:Heap=>ia_row (row:=SFrame.row) (esz:=3) (fun x=>rfl) (H:=H) hi
  rw [List.drop_eq_getElem_cons hi,List.flatMap_cons] at hM ⊢
  rw [j98_12]
  simp only [fa_ptr,ld_in h,m7,lnL_list,List.length_map,bI_lss,hlt,decide_true,Option.bind_some,asB_bool,cond_true]
  rw [j98_14]
  simp only [fa_ptr,ld_in h,m7,Option.bind_some,hia,fa_el,ld_el]
  generalize m.Frames[i]=x at *
  have r0:part x.row (0 + 0,1,false)=some (.int .i64 x.At):=rfl
  have r1:part x.row (0 + 1,1,false)=some (.list (x.Locals.map SKind.row)):=rfl
  have r2:part x.row (0 + 2,1,false)=some (.list (x.Stack.map SKind.row)):=rfl
  simp only [List.length_append,pFrame,pTwo'_len] at hM
  simp only [r0,r1,r2,Option.bind_some]
  rw [int_call (c97g x.At wx.1)]
  simp only [Option.bind_some]
  rw [add2 (by rw [pTwo'_len]; omega)]
  simp only [Option.bind_some,ld_in h,m7,hia,fa_el,ld_el,r1]
  rw [pure_call (ts:=[.list (x.Locals.map SKind.row)]) (by simp) (c148 _ wx.2.1.1 wx.2.1.2 (by omega))]
  simp only [Option.bind_some]
  rw [add2 (by simp only [List.length_append,pTwo'_len]; omega)]
  simp only [Option.bind_some,ld_in h,m7,hia,fa_el,ld_el,r2]
  rw [pure_call (ts:=[.list (x.Stack.map SKind.row)]) (by simp) (c148 _ wx.2.2.1 wx.2.2.2 (by omega))]
  simp only [Option.bind_some]
  rw [add2 (by simp only [List.length_append,pTwo'_len]; omega)]
  simp only [Option.bind_some,bI_add]
  rw [wrap_i64 (n:=(i:Int) + 1) (by omega) (by omega)]
  have:=ih (acc++pTwo' x.At++pKinds pTwo' x.Locals++pKinds pTwo' x.Stack) K (by simp only [List.length_append,pTwo'_len]; omega)
  rw [show ((i:Int) + 1)=((i + 1:Nat):Int) by omega,this]
  simp [pFrame]
theorem c98_6 (m:SMethod) (w:m.wf) (H:Heap) (h:getBlk H 0=some [m.row]):∀ i,i≤m.Traps.length→∀ (acc:List UInt8) (K:Heap),acc.length + ((m.Traps.drop i).flatMap (pTrap pTwo')).length + (mTail m).length≤4611686018427387904→∃ K',J E 98 6 [.ptr 0 0 0,.str acc,.int .i64 i] (H++K)=some (.str (acc++(m.Traps.drop i).flatMap (pTrap pTwo')++mTail m),H++K'):=by
 have m6:m.row[0 + 6]? = some (.list (m.Traps.map STrap.row)):=rfl
 have m7:m.row[0 + 7]? = some (.list (m.Frames.map SFrame.row)):=rfl
 have w0:=w
 obtain ⟨-,-,-,-,-,-,⟨w1,w2⟩,-,-⟩:=w
 apply loop_up
 ·intro acc K hM
  rw [j98_6]
  simp only [fa_ptr,ld_in h,m6,m7,lnL_list,List.length_map,bI_lss,Int.lt_irrefl,decide_false,Option.bind_some,asB_bool,cond_false,List.drop_length,List.flatMap_nil,List.append_nil]
  rw [int_call (c95 _)]
  simp only [Option.bind_some]
  simp only [mTail,List.drop_length,List.flatMap_nil,List.length_nil,List.length_append,pOne_len] at hM
  rw [add1 (by omega)]
  simp only [Option.bind_some]
  refine ⟨K,?_⟩
  have:=c98_12 m w0 H h 0 (by omega) (acc++pOne m.Frames.length) K (by simp only [List.drop_zero,List.length_append,pOne_len]; omega)
  simp only [List.drop_zero,Int.natCast_zero] at this
  rw [this]
  simp [mTail]
 ·intro i hi ih acc K hM
  have hlt:((i:Nat):Int) < (m.Traps.length:Int):=by omega
  have wx:=w2 _ (List.getElem_mem hi)
  have hia:=fun H:Heap=>ia_row (row:=STrap.row) (esz:=4) (fun x=>rfl) (H:=H) hi
  rw [List.drop_eq_getElem_cons hi,List.flatMap_cons] at hM ⊢
  rw [j98_6]
  simp only [fa_ptr,ld_in h,m6,lnL_list,List.length_map,bI_lss,hlt,decide_true,Option.bind_some,asB_bool,cond_true,hia,ld_el]
  generalize m.Traps[i]=x at *
  simp only [show part x.row (0,4,true)=some x.d from rfl,Option.bind_some]
  rw [alloc_eq _ _ _ rfl,put_loc (z:=4) (H++K) [.int .i64 0,.int .i64 0,.int .i64 0,.int .i64 0] x.row rfl rfl rfl]
  have hb:getBlk (H++K++[some [x.row]]) (H++K).length=some [x.row]:=getBlk_self _ _ []
  have r0:x.row[0 + 0]? = some (.int .i64 x.From):=rfl
  have r1:x.row[0 + 1]? = some (.int .i64 x.To):=rfl
  have r2:x.row[0 + 2]? = some (.int .i64 x.At):=rfl
  have r3:x.row[0 + 3]? = some (.int .i64 x.Class):=rfl
  simp only [List.length_append,pTrap,pTwo'_len] at hM
  simp only [Option.bind_some,fa_ptr,ld_in0 hb,r0]
  rw [int_call (c97g _ wx.1)]
  simp only [Option.bind_some]
  rw [add2 (by simp only [pTwo'_len]; omega)]
  simp only [Option.bind_some,fa_ptr,ld_in0 hb,r1]
  rw [int_call (c97g _ wx.2.1)]
  simp only [Option.bind_some]
  rw [add2 (by simp only [List.length_append,pTwo'_len]; omega)]
  simp only [Option.bind_some,fa_ptr,ld_in0 hb,r2]
  rw [int_call (c97g _ wx.2.2.1)]
  simp only [Option.bind_some]
  rw [add2 (by simp only [List.length_append,pTwo'_len]; omega)]
  simp only [Option.bind_some,fa_ptr,ld_in0 hb,r3]
  rw [int_call (c97g _ wx.2.2.2)]
  simp only [Option.bind_some]
  rw [add2 (by simp only [List.length_append,pTwo'_len]; omega)]
  simp only [Option.bind_some,bI_add]
  rw [wrap_i64 (n:=(i:Int) + 1) (by omega) (by omega),List.append_assoc H]
  obtain ⟨K',e⟩:=ih (acc++pTwo' x.From++pTwo' x.To++pTwo' x.At++pTwo' x.Class) (K++[some [x.row]]) (by simp only [List.length_append,pTwo'_len]; omega)
  rw [show ((i:Int) + 1)=((i + 1:Nat):Int) by omega,e]
  exact ⟨K',by simp [pTrap]⟩
theorem isAbs'_eq (n:Int) (hn:i64 n):∃ a:Int,bI .rem (.int .i64 n) (.int .i64 16)=some (.int .i64 (n.tmod 16))∧bI .quo (.int .i64 (n.tmod 16)) (.int .i64 8)=some (.int .i64 a)∧decide (a=1)=isAbs' n:=by
 have h1:=Int.tmod_lt_of_pos n (show (0:Int) < 16 by decide)
 have h2 : -16 < n.tmod 16:=by
  have:=Int.neg_lt_of_neg_lt (a:=n.tmod 16) (b:=16) (by
   rw [← Int.neg_tmod]
   exact Int.tmod_lt_of_pos _ (by decide))
  omega
 refine ⟨(n.tmod 16).tdiv 8,bI_rem _ _ _ (by decide),?_,rfl⟩
 rw [bI_quo _ _ _ (by decide)]
 generalize n.tmod 16=r at *
 have : -2≤r.tdiv 8∧r.tdiv 8≤2:=by
  have h3:=Int.tmod_add_mul_tdiv r 8
  have h4:=Int.tmod_lt_of_pos r (show (0:Int) < 8 by decide)
  have h5 : -8 < r.tmod 8:=by
   have:=Int.neg_lt_of_neg_lt (a:=r.tmod 8) (b:=8) (by
    rw [← Int.neg_tmod]
    exact Int.tmod_lt_of_pos _ (by decide))
   omega
  omega
 rw [wrap_i64 (by omega) (by omega)]
theorem c98 (m:SMethod) (w:m.wf) (hM:(pMethod pTwo' isAbs' m).length≤4611686018427387904):run E (exec E) false 98 [m.d]=some (.str (pMethod pTwo' isAbs' m)):=by
 have h:getBlk ([some [m.row]]:Heap) 0=some [m.row]:=rfl
 have m0:m.row[0 + 0]? = some (.int .i64 m.Flags):=rfl
 have m1:m.row[0 + 1]? = some (.int .i64 m.Name):=rfl
 have m2:m.row[0 + 2]? = some (.int .i64 m.Desc):=rfl
 have m3:m.row[0 + 3]? = some (.int .i64 m.Deep):=rfl
 have m4:m.row[0 + 4]? = some (.int .i64 m.Locals):=rfl
 have m5:m.row[0 + 5]? = some (.str m.Code):=rfl
 have m6:m.row[0 + 6]? = some (.list (m.Traps.map STrap.row)):=rfl
 have w0:=w
 obtain ⟨g0,g1,g2,g3,g4,g5,⟨g6,-⟩,-,-⟩:=w
 obtain ⟨q,a1,a2,a3⟩:=isAbs'_eq m.Flags g0
 rw [run_ent,e98,alloc_eq _ _ _ rfl]
 rw [show ([]:Heap)++[some [D.cells m.d]]=[some [m.row]] from rfl,show ([]:Heap).length=0 from rfl]
 simp only [fa_ptr,Option.bind_some,ld_in0 h,m0]
 rw [int_call (c95 _)]
 simp only [Option.bind_some,ld_in0 h,m1]
 rw [int_call (c97g _ g1)]
 simp only [Option.bind_some]
 rw [add2 (by simp [pTwo'])]
 simp only [Option.bind_some,ld_in0 h,m2]
 rw [int_call (c97g _ g2)]
 simp only [Option.bind_some]
 rw [add2 (by simp [pTwo'])]
 simp only [Option.bind_some,ld_in0 h,m0,a1,a2,bI_eql,asB_bool,a3]
 cases ha:isAbs' m.Flags with
 | true=>
  simp [pMethod,ha,pOne]
 | false=>
  simp only [pMethod,ha,Bool.false_eq_true,if_false,List.length_append,pOne_len,pTwo'_len] at hM
  simp only [cond_false,ld_in0 h,m3,Option.bind_some]
  rw [int_call (c95 _)]
  simp only [Option.bind_some]
  rw [add1 (by simp only [List.length_append,List.length_cons,List.length_nil,pTwo'_len]; omega)]
  simp only [Option.bind_some,ld_in0 h,m4]
  rw [int_call (c95 _)]
  simp only [Option.bind_some]
  rw [add1 (by simp only [List.length_append,List.length_cons,List.length_nil,pTwo'_len,pOne_len]; omega)]
  simp only [Option.bind_some,ld_in0 h,m5,lnS_str]
  rw [int_call (c97g _ ⟨by omega,by omega⟩)]
  simp only [Option.bind_some]
  rw [add2 (by simp only [List.length_append,List.length_cons,List.length_nil,pTwo'_len,pOne_len]; omega)]
  simp only [Option.bind_some,ld_in0 h,m5]
  rw [add2 (by simp only [List.length_append,List.length_cons,List.length_nil,pTwo'_len,pOne_len]; omega)]
  simp only [Option.bind_some,ld_in0 h,m6,lnL_list,List.length_map]
  rw [int_call (c95 _)]
  simp only [Option.bind_some]
  rw [add1 (by simp only [List.length_append,List.length_cons,List.length_nil,pTwo'_len,pOne_len]; omega)]
  simp only [Option.bind_some]
  obtain ⟨K',e⟩:=c98_6 m w0 [some [m.row]] h 0 (by omega) ([u8 m.Flags]++pTwo' m.Name++pTwo' m.Desc++pOne m.Deep++pOne m.Locals++pTwo' m.Code.length++m.Code++pOne m.Traps.length) [] (by simp only [mTail,List.drop_zero,List.length_append,List.length_cons,List.length_nil,pTwo'_len,pOne_len]; omega)
  simp only [List.append_nil,List.drop_zero,Int.natCast_zero] at e
  rw [e]
  simp [pMethod,ha,mTail,pOne]
end Go.Ev.YtmpfooibdekppaaGreatDoor
namespace Go.Ev.YtmpfooibdekppaaGreatDoor
set_option linter.unusedVariables false
set_option linter.unusedSimpArgs false
set_option linter.unusedSectionVars false
set_option linter.defProp false
set_option maxHeartbeats 1000000
open Go.Ev
def cT13 (c:SClass):List UInt8:=pOne c.Methods.length++c.Methods.flatMap (pMethod pTwo' isAbs')
def cT8 (c:SClass):List UInt8:=pOne c.Fields.length++c.Fields.flatMap (pField pTwo')++cT13 c
def cT3 (c:SClass):List UInt8:=pOne c.Flags++pTwo' c.Name++pTwo' c.Super++pOne c.Faces.length++c.Faces.flatMap pTwo'++cT8 c
theorem pClass_parts (c:SClass):pClass pTwo' isAbs' c=stow++pOne c.Pool.length++c.Pool.flatMap (pConst pTwo')++cT3 c:=by
 simp [pClass,cT3,cT8,cT13]
theorem flat_get {α:Type} (p:α→List UInt8):∀ {l:List α} {x:α},x ∈ l→(p x).length≤(l.flatMap p).length
 | y :: l,x,h=>by
  rw [List.flatMap_cons,List.length_append]
  rcases List.mem_cons.mp h with rfl | h
  ·omega
  ·have:=flat_get p h; omega
section
theorem c55_18 (c:SClass) (w:c.wf) (H:Heap) (h:getBlk H 0=some [c.row]):∀ i,i≤c.Methods.length→∀ acc:List UInt8,acc.length + ((c.Methods.drop i).flatMap (pMethod pTwo' isAbs')).length≤4611686018427387904→J E 55 18 [.ptr 0 0 0,.str acc,.int .i64 i] H=some (.str (acc++(c.Methods.drop i).flatMap (pMethod pTwo' isAbs')),H):=by
 have m6:c.row[0 + 6]? = some (.list (c.Methods.map SMethod.row)):=rfl
 obtain ⟨w1,w2⟩:=w.2.2.2.2.2.2
 apply loop_up
 ·intro acc hM
  rw [j55_18]
  simp only [fa_ptr,ld_in0 h,m6,lnL_list,List.length_map,bI_lss,Int.lt_irrefl,decide_false,Option.bind_some,asB_bool,cond_false,List.drop_length,ret_one,List.flatMap_nil,List.append_nil]
 ·intro i hi ih acc hM
  have hlt:((i:Nat):Int) < (c.Methods.length:Int):=by omega
  have wx:=w2 _ (List.getElem_mem hi)
  have hia:=fun H:Heap=>ia_row (row:=SMethod.row) (esz:=8) (fun x=>rfl) (H:=H) hi
  rw [List.drop_eq_getElem_cons hi,List.flatMap_cons] at hM ⊢
  rw [j55_18]
  simp only [fa_ptr,ld_in0 h,m6,lnL_list,List.length_map,bI_lss,hlt,decide_true,Option.bind_some,asB_bool,cond_true,hia,ld_el]
  generalize c.Methods[i]=x at *
  simp only [List.length_append] at hM
  simp only [show part x.row (0,8,true)=some x.d from rfl,Option.bind_some]
  rw [pure_call (ts:=[x.d]) (by simp [SMethod.readD]) (c98 x wx (by omega))]
  simp only [Option.bind_some]
  rw [add2 (by omega)]
  simp only [Option.bind_some,bI_add]
  rw [wrap_i64 (n:=(i:Int) + 1) (by omega) (by omega)]
  have:=ih (acc++pMethod pTwo' isAbs' x) (by simp only [List.length_append]; omega)
  rw [show ((i:Int) + 1)=((i + 1:Nat):Int) by omega,this]
  simp
theorem c55_13 (c:SClass) (w:c.wf) (H:Heap) (h:getBlk H 0=some [c.row]):∀ i,i≤c.Fields.length→∀ acc:List UInt8,acc.length + ((c.Fields.drop i).flatMap (pField pTwo')).length + (cT13 c).length≤4611686018427387904→J E 55 13 [.ptr 0 0 0,.str acc,.int .i64 i] H=some (.str (acc++(c.Fields.drop i).flatMap (pField pTwo')++cT13 c),H):=by
 have m5:c.row[0 + 5]? = some (.list (c.Fields.map SField.row)):=rfl
 have m6:c.row[0 + 6]? = some (.list (c.Methods.map SMethod.row)):=rfl
 obtain ⟨w1,w2⟩:=w.2.2.2.2.2.1
 have w6:=w.2.2.2.2.2.2.1
 apply loop_up
 ·intro acc hM
  rw [j55_13]
  simp only [fa_ptr,ld_in0 h,m5,m6,lnL_list,List.length_map,bI_lss,Int.lt_irrefl,decide_false,Option.bind_some,asB_bool,cond_false,List.drop_length,List.flatMap_nil,List.append_nil]
  simp only [List.drop_length,List.flatMap_nil,List.length_nil,cT13,List.length_append,pOne_len] at hM
  rw [int_call (c95 _)]
  simp only [Option.bind_some]
  rw [add1 (by omega)]
  simp only [Option.bind_some]
  have:=c55_18 c w H h 0 (by omega) (acc++pOne c.Methods.length) (by simp only [List.drop_zero,List.length_append,pOne_len]; omega)
  simp only [List.drop_zero,Int.natCast_zero] at this
  rw [this]
  simp [cT13]
 ·intro i hi ih acc hM
  have hlt:((i:Nat):Int) < (c.Fields.length:Int):=by omega
  have wx:=w2 _ (List.getElem_mem hi)
  have hia:=fun H:Heap=>ia_row (row:=SField.row) (esz:=3) (fun x=>rfl) (H:=H) hi
  rw [List.drop_eq_getElem_cons hi,List.flatMap_cons] at hM ⊢
  rw [j55_13]
  simp only [fa_ptr,ld_in0 h,m5,lnL_list,List.length_map,bI_lss,hlt,decide_true,Option.bind_some,asB_bool,cond_true]
  rw [j55_15]
  simp only [fa_ptr,ld_in0 h,m5,Option.bind_some,hia,fa_el,ld_el]
  generalize c.Fields[i]=x at *
  have r0:part x.row (0 + 0,1,false)=some (.int .i64 x.Flags):=rfl
  have r1:part x.row (0 + 1,1,false)=some (.int .i64 x.Name):=rfl
  have r2:part x.row (0 + 2,1,false)=some (.int .i64 x.Typ):=rfl
  simp only [List.length_append,pField,pOne_len,pTwo'_len] at hM
  simp only [r0,Option.bind_some]
  rw [int_call (c95 _)]
  simp only [Option.bind_some]
  rw [add1 (by omega)]
  simp only [Option.bind_some,ld_in0 h,m5,hia,fa_el,ld_el,r1]
  rw [int_call (c97g _ wx.2.1)]
  simp only [Option.bind_some]
  rw [add2 (by simp only [List.length_append,pOne_len,pTwo'_len]; omega)]
  simp only [Option.bind_some,ld_in0 h,m5,hia,fa_el,ld_el,r2]
  rw [int_call (c97g _ wx.2.2)]
  simp only [Option.bind_some]
  rw [add2 (by simp only [List.length_append,pOne_len,pTwo'_len]; omega)]
  simp only [Option.bind_some,bI_add]
  rw [wrap_i64 (n:=(i:Int) + 1) (by omega) (by omega)]
  have:=ih (acc++pOne x.Flags++pTwo' x.Name++pTwo' x.Typ) (by simp only [List.length_append,pOne_len,pTwo'_len]; omega)
  rw [show ((i:Int) + 1)=((i + 1:Nat):Int) by omega,this]
  simp [pField]
theorem c55_8 (c:SClass) (w:c.wf) (H:Heap) (h:getBlk H 0=some [c.row]):∀ i,i≤c.Faces.length→∀ acc:List UInt8,acc.length + ((c.Faces.drop i).flatMap pTwo').length + (cT8 c).length≤4611686018427387904→J E 55 8 [.ptr 0 0 0,.str acc,.int .i64 i] H=some (.str (acc++(c.Faces.drop i).flatMap pTwo'++cT8 c),H):=by
 have m4:c.row[0 + 4]? = some (.list (c.Faces.map rInt)):=rfl
 have m5:c.row[0 + 5]? = some (.list (c.Fields.map SField.row)):=rfl
 obtain ⟨w1,w2⟩:=w.2.2.2.2.1
 have w6:=w.2.2.2.2.2.1.1
 apply loop_up
 ·intro acc hM
  rw [j55_8]
  simp only [fa_ptr,ld_in0 h,m4,m5,lnL_list,List.length_map,bI_lss,Int.lt_irrefl,decide_false,Option.bind_some,asB_bool,cond_false,List.drop_length,List.flatMap_nil,List.append_nil]
  simp only [List.drop_length,List.flatMap_nil,List.length_nil,cT8,List.length_append,pOne_len] at hM
  rw [int_call (c95 _)]
  simp only [Option.bind_some]
  rw [add1 (by omega)]
  simp only [Option.bind_some]
  have:=c55_13 c w H h 0 (by omega) (acc++pOne c.Fields.length) (by simp only [List.drop_zero,List.length_append,pOne_len]; omega)
  simp only [List.drop_zero,Int.natCast_zero] at this
  rw [this]
  simp [cT8]
 ·intro i hi ih acc hM
  have hlt:((i:Nat):Int) < (c.Faces.length:Int):=by omega
  have wx:=w2 _ (List.getElem_mem hi)
  have hia:=fun H:Heap=>ia_row (row:=rInt) (esz:=1) (fun x=>rfl) (H:=H) hi
  rw [List.drop_eq_getElem_cons hi,List.flatMap_cons] at hM ⊢
  rw [j55_8]
  simp only [fa_ptr,ld_in0 h,m4,lnL_list,List.length_map,bI_lss,hlt,decide_true,Option.bind_some,asB_bool,cond_true,hia,ld_el]
  generalize c.Faces[i]=x at *
  simp only [List.length_append,pTwo'_len] at hM
  simp only [show part (rInt x) (0,1,false)=some (.int .i64 x) from rfl,Option.bind_some]
  rw [int_call (c97g _ wx)]
  simp only [Option.bind_some]
  rw [add2 (by simp only [pTwo'_len]; omega)]
  simp only [Option.bind_some,bI_add]
  rw [wrap_i64 (n:=(i:Int) + 1) (by omega) (by omega)]
  have:=ih (acc++pTwo' x) (by simp only [List.length_append,pTwo'_len]; omega)
  rw [show ((i:Int) + 1)=((i + 1:Nat):Int) by omega,this]
  simp
theorem c55_3 (c:SClass) (w:c.wf) (H:Heap) (h:getBlk H 0=some [c.row]):∀ i,i≤c.Pool.length→∀ acc:List UInt8,acc.length + ((c.Pool.drop i).flatMap (pConst pTwo')).length + (cT3 c).length≤4611686018427387904→J E 55 3 [.ptr 0 0 0,.str acc,.int .i64 i] H=some (.str (acc++(c.Pool.drop i).flatMap (pConst pTwo')++cT3 c),H):=by
 have m0:c.row[0 + 0]? = some (.list (c.Pool.map SConst.row)):=rfl
 have m1:c.row[0 + 1]? = some (.int .i64 c.Flags):=rfl
 have m2:c.row[0 + 2]? = some (.int .i64 c.Name):=rfl
 have m3:c.row[0 + 3]? = some (.int .i64 c.Super):=rfl
 have m4:c.row[0 + 4]? = some (.list (c.Faces.map rInt)):=rfl
 obtain ⟨w1,w2⟩:=w.1
 have w6:=w.2.2.2.2.1.1
 apply loop_up
 ·intro acc hM
  rw [j55_3]
  simp only [fa_ptr,ld_in0 h,m0,m1,lnL_list,List.length_map,bI_lss,Int.lt_irrefl,decide_false,Option.bind_some,asB_bool,cond_false,List.drop_length,List.flatMap_nil,List.append_nil]
  simp only [List.drop_length,List.flatMap_nil,List.length_nil,cT3,List.length_append,pOne_len,pTwo'_len] at hM
  rw [int_call (c95 _)]
  simp only [Option.bind_some]
  rw [add1 (by omega)]
  simp only [Option.bind_some,ld_in0 h,m2]
  rw [int_call (c97g _ w.2.2.1)]
  simp only [Option.bind_some]
  rw [add2 (by simp only [List.length_append,pOne_len,pTwo'_len]; omega)]
  simp only [Option.bind_some,ld_in0 h,m3]
  rw [int_call (c97g _ w.2.2.2.1)]
  simp only [Option.bind_some]
  rw [add2 (by simp only [List.length_append,pOne_len,pTwo'_len]; omega)]
  simp only [Option.bind_some,ld_in0 h,m4,lnL_list,List.length_map]
  rw [int_call (c95 _)]
  simp only [Option.bind_some]
  rw [add1 (by simp only [List.length_append,pOne_len,pTwo'_len]; omega)]
  simp only [Option.bind_some]
  have:=c55_8 c w H h 0 (by omega) (acc++pOne c.Flags++pTwo' c.Name++pTwo' c.Super++pOne c.Faces.length) (by simp only [List.drop_zero,List.length_append,pOne_len,pTwo'_len]; omega)
  simp only [List.drop_zero,Int.natCast_zero] at this
  rw [this]
  simp [cT3]
 ·intro i hi ih acc hM
  have hlt:((i:Nat):Int) < (c.Pool.length:Int):=by omega
  have wx:=w2 _ (List.getElem_mem hi)
  have hia:=fun H:Heap=>ia_row (row:=SConst.row) (esz:=4) (fun x=>rfl) (H:=H) hi
  rw [List.drop_eq_getElem_cons hi,List.flatMap_cons] at hM ⊢
  rw [j55_3]
  simp only [fa_ptr,ld_in0 h,m0,lnL_list,List.length_map,bI_lss,hlt,decide_true,Option.bind_some,asB_bool,cond_true,hia,ld_el]
  generalize c.Pool[i]=x at *
  simp only [List.length_append] at hM
  simp only [show part x.row (0,4,true)=some x.d from rfl,Option.bind_some]
  rw [pure_call (ts:=[x.d]) (by simp [SConst.readD]) (c96 x wx)]
  simp only [Option.bind_some]
  rw [add2 (by omega)]
  simp only [Option.bind_some,bI_add]
  rw [wrap_i64 (n:=(i:Int) + 1) (by omega) (by omega)]
  have:=ih (acc++pConst pTwo' x) (by simp only [List.length_append]; omega)
  rw [show ((i:Int) + 1)=((i + 1:Nat):Int) by omega,this]
  simp
end
theorem c55 (c:SClass) (w:c.wf) (hM:(pClass pTwo' isAbs' c).length≤4611686018427387904):run E (exec E) false 55 [c.d]=some (.str (pClass pTwo' isAbs' c)):=by
 have h:getBlk ([some [c.row]]:Heap) 0=some [c.row]:=rfl
 have m0:c.row[0 + 0]? = some (.list (c.Pool.map SConst.row)):=rfl
 have w1:=w.1.1
 rw [run_ent,e55,alloc_eq _ _ _ rfl]
 rw [show ([]:Heap)++[some [D.cells c.d]]=[some [c.row]] from rfl,show ([]:Heap).length=0 from rfl]
 simp only [fa_ptr,Option.bind_some,ld_in0 h,m0,lnL_list,List.length_map]
 rw [int_call (c95 _)]
 simp only [Option.bind_some]
 rw [add1 (by simp)]
 rw [pClass_parts] at hM ⊢
 simp only [List.length_append,pOne_len,stow,List.length_cons,List.length_nil] at hM
 have:=c55_3 c w [some [c.row]] h 0 (by omega) ([83,84,79,87]++pOne c.Pool.length) (by simp only [List.drop_zero,List.length_append,pOne_len,List.length_cons,List.length_nil]; omega)
 simp only [List.drop_zero,Int.natCast_zero] at this
 simp only [Option.bind_some]
 rw [this]
 simp [stow]
theorem c54 (c:SClass):run E (exec E) false 54 [c.d]=some (.bool (decide (c.Pool.length≤60) && (decide (c.Faces.length≤3) && (decide (c.Fields.length≤5) && decide (c.Methods.length≤6))))):=by
 have h:getBlk ([some [c.row]]:Heap) 0=some [c.row]:=rfl
 have m0:c.row[0 + 0]? = some (.list (c.Pool.map SConst.row)):=rfl
 have m4:c.row[0 + 4]? = some (.list (c.Faces.map rInt)):=rfl
 have m5:c.row[0 + 5]? = some (.list (c.Fields.map SField.row)):=rfl
 have m6:c.row[0 + 6]? = some (.list (c.Methods.map SMethod.row)):=rfl
 rw [run_ent,e54,alloc_eq _ _ _ rfl]
 rw [show ([]:Heap)++[some [D.cells c.d]]=[some [c.row]] from rfl,show ([]:Heap).length=0 from rfl]
 simp only [fa_ptr,Option.bind_some,ld_in0 h,m0,m4,m5,m6,lnL_list,List.length_map,bI_leq,asB_bool]
 have e1:decide ((c.Pool.length:Int)≤60)=decide (c.Pool.length≤60):=by congr 1; simp; omega
 have e2:decide ((c.Faces.length:Int)≤3)=decide (c.Faces.length≤3):=by congr 1; simp; omega
 have e3:decide ((c.Fields.length:Int)≤5)=decide (c.Fields.length≤5):=by congr 1; simp; omega
 have e4:decide ((c.Methods.length:Int)≤6)=decide (c.Methods.length≤6):=by congr 1; simp; omega
 rw [e1,e2,e3,e4]
 cases decide (c.Pool.length≤60) <;> cases decide (c.Faces.length≤3) <;> cases decide (c.Fields.length≤5) <;> rfl
end Go.Ev.YtmpfooibdekppaaGreatDoor
namespace Go.Ev.YtmpfooibdekppaaGreatDoor
set_option linter.unusedVariables false
set_option linter.unusedSimpArgs false
set_option linter.unusedSectionVars false
set_option linter.defProp false
set_option maxHeartbeats 1000000
open Go.Ev
theorem c100_4 (a b:List SConst) (wa:a.length≤140737488351232) (hlen:a.length=b.length) (H:Heap):∀ i,i≤a.length→J E 100 4 [.list (a.map SConst.row),.list (b.map SConst.row),.int .i64 i] H=some (.bool (decide (a.drop i=b.drop i)),H):=by
 apply loop_up
 ·rw [j100_4]; simp [hlen]
 ·intro i hi ih
  have hi':i < b.length:=by omega
  have hlt:((i:Nat):Int) < (a.length:Int):=by omega
  rw [j100_4]
  simp only [lnL_list,List.length_map,bI_lss,hlt,decide_true,cond_true,asB_bool,Option.bind_some,ia_row (row:=SConst.row) (esz:=4) (fun x=>rfl) hi,ia_row (row:=SConst.row) (esz:=4) (fun x=>rfl) hi',ld_el]
  rw [show part (a[i]).row (0,4,true)=some (a[i]).d from rfl,show part (b[i]).row (0,4,true)=some (b[i]).d from rfl]
  simp only [Option.bind_some,SConst_dneq,bI_add,asB_bool]
  rw [wrap_i64 (n:=(i:Int) + 1) (by omega) (by omega),drop_dec hi hi']
  by_cases h:a[i]=b[i]
  ·simp only [h,decide_true,Bool.not_true,cond_false,Bool.true_and]
   exact ih
  ·simp [h]
theorem c100 (a b:List SConst) (wa:a.length≤140737488351232):run E (exec E) false 100 [.list (a.map SConst.row),.list (b.map SConst.row)]=some (.bool (decide (a=b))):=by
 rw [run_ent,e100]
 by_cases h:a.length=b.length
 ·have:=c100_4 a b wa h [] 0 (by omega)
  simp only [Int.natCast_zero] at this
  simp [h,this]
 ·have:a ≠ b:=fun e=>h (by rw [e])
  simp [show ¬ (a.length:Int)=b.length by omega,this]
theorem c178_4 (a b:List SKind) (wa:a.length≤140737488351232) (hlen:a.length=b.length) (H:Heap):∀ i,i≤a.length→J E 178 4 [.list (a.map SKind.row),.list (b.map SKind.row),.int .i64 i] H=some (.bool (decide (a.drop i=b.drop i)),H):=by
 apply loop_up
 ·rw [j178_4]; simp [hlen]
 ·intro i hi ih
  have hi':i < b.length:=by omega
  have hlt:((i:Nat):Int) < (a.length:Int):=by omega
  rw [j178_4]
  simp only [lnL_list,List.length_map,bI_lss,hlt,decide_true,cond_true,asB_bool,Option.bind_some,ia_row (row:=SKind.row) (esz:=2) (fun x=>rfl) hi,ia_row (row:=SKind.row) (esz:=2) (fun x=>rfl) hi',ld_el]
  rw [show part (a[i]).row (0,2,true)=some (a[i]).d from rfl,show part (b[i]).row (0,2,true)=some (b[i]).d from rfl]
  simp only [Option.bind_some,SKind_dneq,bI_add,asB_bool]
  rw [wrap_i64 (n:=(i:Int) + 1) (by omega) (by omega),drop_dec hi hi']
  by_cases h:a[i]=b[i]
  ·simp only [h,decide_true,Bool.not_true,cond_false,Bool.true_and]
   exact ih
  ·simp [h]
theorem c178 (a b:List SKind) (wa:a.length≤140737488351232):run E (exec E) false 178 [.list (a.map SKind.row),.list (b.map SKind.row)]=some (.bool (decide (a=b))):=by
 rw [run_ent,e178]
 by_cases h:a.length=b.length
 ·have:=c178_4 a b wa h [] 0 (by omega)
  simp only [Int.natCast_zero] at this
  simp [h,this]
 ·have:a ≠ b:=fun e=>h (by rw [e])
  simp [show ¬ (a.length:Int)=b.length by omega,this]
theorem c154_4 (a b:List SFrame) (wa:a.length≤140737488351232) (w:∀ x ∈ a,x.wf) (hlen:a.length=b.length) (H:Heap):∀ i,i≤a.length→J E 154 4 [.list (a.map SFrame.row),.list (b.map SFrame.row),.int .i64 i] H=some (.bool (decide (a.drop i=b.drop i)),H):=by
 apply loop_up
 ·rw [j154_4]; simp [hlen]
 ·intro i hi ih
  have hi':i < b.length:=by omega
  have hlt:((i:Nat):Int) < (a.length:Int):=by omega
  have wx:=w _ (List.getElem_mem hi)
  have ha:=fun H:Heap=>ia_row (row:=SFrame.row) (esz:=3) (fun x=>rfl) (H:=H) hi
  have hb:=fun H:Heap=>ia_row (row:=SFrame.row) (esz:=3) (fun x=>rfl) (H:=H) hi'
  rw [j154_4,drop_dec hi hi']
  simp only [lnL_list,List.length_map,bI_lss,hlt,decide_true,cond_true,asB_bool,Option.bind_some]
  rw [j154_6]
  simp only [ha,hb,fa_el,ld_el,Option.bind_some]
  generalize a[i]=x at *
  generalize b[i]=y at *
  have r0:∀ x:SFrame,part x.row (0 + 0,1,false)=some (.int .i64 x.At):=fun x=>rfl
  have r1:∀ x:SFrame,part x.row (0 + 1,1,false)=some (.list (x.Locals.map SKind.row)):=fun x=>rfl
  have r2:∀ x:SFrame,part x.row (0 + 2,1,false)=some (.list (x.Stack.map SKind.row)):=fun x=>rfl
  have hxy:decide (x=y)=(decide (x.At=y.At) && (decide (x.Locals=y.Locals) && decide (x.Stack=y.Stack))):=by
   rw [Bool.eq_iff_iff]; cases x; cases y; simp
  simp only [r0,r1,r2,Option.bind_some,bI_neq,asB_bool]
  rw [hxy]
  by_cases e0:x.At=y.At
  ·simp only [e0,decide_true,Bool.not_true,cond_false,ha,hb,fa_el,ld_el,Option.bind_some,r1,Bool.true_and]
   rw [pure_call (ts:=[.list (x.Locals.map SKind.row),.list (y.Locals.map SKind.row)]) (by simp) (c178 _ _ wx.2.1.1)]
   simp only [Option.bind_some,unOp_not,asB_bool]
   by_cases e1:x.Locals=y.Locals
   ·simp only [e1,decide_true,Bool.not_true,cond_false,ha,hb,fa_el,ld_el,Option.bind_some,r2,Bool.true_and]
    rw [pure_call (ts:=[.list (x.Stack.map SKind.row),.list (y.Stack.map SKind.row)]) (by simp) (c178 _ _ wx.2.2.1)]
    simp only [Option.bind_some,unOp_not,asB_bool]
    by_cases e2:x.Stack=y.Stack
    ·simp only [e2,decide_true,Bool.not_true,cond_false,bI_add,Option.bind_some,Bool.true_and]
     rw [wrap_i64 (n:=(i:Int) + 1) (by omega) (by omega)]
     exact ih
    ·simp [e2]
   ·simp [e1]
  ·simp [e0]
theorem c154 (a b:List SFrame) (wa:a.length≤140737488351232) (w:∀ x ∈ a,x.wf):run E (exec E) false 154 [.list (a.map SFrame.row),.list (b.map SFrame.row)]=some (.bool (decide (a=b))):=by
 rw [run_ent,e154]
 by_cases h:a.length=b.length
 ·have:=c154_4 a b wa w h [] 0 (by omega)
  simp only [Int.natCast_zero] at this
  simp [h,this]
 ·have:a ≠ b:=fun e=>h (by rw [e])
  simp [show ¬ (a.length:Int)=b.length by omega,this]
theorem meq (a b:SMethod):decide (a=b)=(decide (a.Flags=b.Flags) && (decide (a.Name=b.Name) && (decide (a.Desc=b.Desc) && (decide (a.Deep=b.Deep) && (decide (a.Locals=b.Locals) && (decide (a.Code=b.Code) && (decide (a.Traps=b.Traps) && decide (a.Frames=b.Frames)))))))):=by
 rw [Bool.eq_iff_iff]; cases a; cases b; simp
theorem c101_4 (a b:SMethod) (w:a.wf) (H:Heap) (h0:getBlk H 0=some [a.row]) (h1:getBlk H 1=some [b.row]) (hlen:a.Traps.length=b.Traps.length):∀ i,i≤a.Traps.length→J E 101 4 [.ptr 0 0 0,.ptr 1 0 0,.int .i64 i] H=some (.bool (decide (a.Traps.drop i=b.Traps.drop i) && decide (a.Frames=b.Frames)),H):=by
 have m6:∀ a:SMethod,a.row[0 + 6]? = some (.list (a.Traps.map STrap.row)):=fun a=>rfl
 have m7:∀ a:SMethod,a.row[0 + 7]? = some (.list (a.Frames.map SFrame.row)):=fun a=>rfl
 obtain ⟨-,-,-,-,-,-,⟨w1,w2⟩,w3,w4⟩:=w
 apply loop_up
 ·rw [j101_4]
  simp only [fa_ptr,ld_in0 h0,ld_in0 h1,m6,m7,lnL_list,List.length_map,bI_lss,Int.lt_irrefl,decide_false,Option.bind_some,asB_bool,cond_false,List.drop_length]
  rw [List.drop_of_length_le (show b.Traps.length≤a.Traps.length by omega)]
  rw [pure_call (ts:=[.list (a.Frames.map SFrame.row),.list (b.Frames.map SFrame.row)]) (by simp) (c154 _ _ w3 w4)]
  simp
 ·intro i hi ih
  have hi':i < b.Traps.length:=by omega
  have hlt:((i:Nat):Int) < (a.Traps.length:Int):=by omega
  rw [j101_4,drop_dec hi hi']
  simp only [fa_ptr,ld_in0 h0,ld_in0 h1,m6,lnL_list,List.length_map,bI_lss,hlt,decide_true,cond_true,asB_bool,Option.bind_some,ia_row (row:=STrap.row) (esz:=4) (fun x=>rfl) hi,ia_row (row:=STrap.row) (esz:=4) (fun x=>rfl) hi',ld_el]
  rw [show part (a.Traps[i]).row (0,4,true)=some (a.Traps[i]).d from rfl,show part (b.Traps[i]).row (0,4,true)=some (b.Traps[i]).d from rfl]
  simp only [Option.bind_some,STrap_dneq,bI_add,asB_bool]
  rw [wrap_i64 (n:=(i:Int) + 1) (by omega) (by omega)]
  by_cases h:a.Traps[i]=b.Traps[i]
  ·simp only [h,decide_true,Bool.not_true,cond_false,Bool.true_and]
   exact ih
  ·simp [h]
theorem c101 (a b:SMethod) (w:a.wf):run E (exec E) false 101 [a.d,b.d]=some (.bool (decide (a=b))):=by
 have h0:getBlk ([some [a.row],some [b.row]]:Heap) 0=some [a.row]:=rfl
 have h1:getBlk ([some [a.row],some [b.row]]:Heap) 1=some [b.row]:=rfl
 have m0:∀ a:SMethod,a.row[0 + 0]? = some (.int .i64 a.Flags):=fun a=>rfl
 have m1:∀ a:SMethod,a.row[0 + 1]? = some (.int .i64 a.Name):=fun a=>rfl
 have m2:∀ a:SMethod,a.row[0 + 2]? = some (.int .i64 a.Desc):=fun a=>rfl
 have m3:∀ a:SMethod,a.row[0 + 3]? = some (.int .i64 a.Deep):=fun a=>rfl
 have m4:∀ a:SMethod,a.row[0 + 4]? = some (.int .i64 a.Locals):=fun a=>rfl
 have m5:∀ a:SMethod,a.row[0 + 5]? = some (.str a.Code):=fun a=>rfl
 have m6:∀ a:SMethod,a.row[0 + 6]? = some (.list (a.Traps.map STrap.row)):=fun a=>rfl
 rw [run_ent,e101,alloc_eq _ _ _ rfl,alloc_eq _ _ _ rfl]
 rw [show ([]++[some [D.cells a.d]]++[some [D.cells b.d]]:Heap)=[some [a.row],some [b.row]] from rfl,show ([]:Heap).length=0 from rfl,show ([]++[some [D.cells a.d]]:Heap).length=1 from rfl]
 rw [j101_1,meq]
 simp only [fa_ptr,ld_in0 h0,ld_in0 h1,m0,m1,m2,m3,m4,m5,m6,Option.bind_some,bI_neq,bS_neq,asB_bool,lnL_list,List.length_map]
 by_cases e0:¬ a.Flags=b.Flags
 ·simp [e0]
 have e0:=Decidable.not_not.mp e0
 by_cases e1:¬ a.Name=b.Name
 ·simp [e0,e1]
 have e1:=Decidable.not_not.mp e1
 by_cases e2:¬ a.Desc=b.Desc
 ·simp [e0,e1,e2]
 have e2:=Decidable.not_not.mp e2
 by_cases e3:¬ a.Deep=b.Deep
 ·simp [e0,e1,e2,e3]
 have e3:=Decidable.not_not.mp e3
 by_cases e4:¬ a.Locals=b.Locals
 ·simp [e0,e1,e2,e3,e4]
 have e4:=Decidable.not_not.mp e4
 by_cases e5:¬ a.Code=b.Code
 ·simp [e0,e1,e2,e3,e4,e5]
 have e5:=Decidable.not_not.mp e5
 simp only [e0,e1,e2,e3,e4,e5,decide_true,Bool.not_true,cond_false,Bool.true_and]
 by_cases hl:a.Traps.length=b.Traps.length
 ·simp only [show (a.Traps.length:Int)=b.Traps.length by omega,decide_true,Bool.not_true,cond_false]
  rw [show D.int .i64 0=D.int .i64 ((0:Nat):Int) from rfl,c101_4 a b w _ h0 h1 hl 0 (by omega)]
  simp
 ·have:¬ a.Traps=b.Traps:=fun e=>hl (by rw [e])
  simp [show ¬ (a.Traps.length:Int)=b.Traps.length by omega,this]
end Go.Ev.YtmpfooibdekppaaGreatDoor
namespace Go.Ev.YtmpfooibdekppaaGreatDoor
set_option linter.unusedVariables false
set_option linter.unusedSimpArgs false
set_option linter.unusedSectionVars false
set_option linter.defProp false
set_option maxHeartbeats 1000000
open Go.Ev
theorem gMany_all {α:Type} {f:Get α} {P:α→Prop} (hf:∀ s a r,f s=some (a,r)→P a):∀ n s l r,gMany f n s=some (l,r)→l.length=n∧∀ a ∈ l,P a
 | 0,s,l,r,h=>by cases h; simp
 | n + 1,s,l,r,h=>by
  simp only [gMany,bindG,pureG,Option.bind_eq_some_iff] at h
  obtain ⟨⟨a,r1⟩,h1,⟨l2,r2⟩,h2,h3⟩:=h
  cases h3
  obtain ⟨e1,e2⟩:=gMany_all hf n _ _ _ h2
  refine ⟨by simp [e1],fun x hx=>?_⟩
  rcases List.mem_cons.mp hx with rfl | hx
  ·exact hf _ _ _ h1
  ·exact e2 x hx
theorem gList_all {α:Type} {most:Int} {f:Get α} {P:α→Prop} (hf:∀ s a r,f s=some (a,r)→P a) {s:List UInt8} {l:List α} {r:List UInt8} (h:gList most f s=some (l,r)):(l.length:Int)≤most∧∀ a ∈ l,P a:=by
 simp only [gList,bindG,Option.bind_eq_some_iff] at h
 obtain ⟨⟨n,r1⟩,h1,h2⟩:=h
 obtain ⟨h1,h5⟩:=gUp_eq h1
 obtain ⟨e1,e2⟩:=gMany_all hf _ _ _ _ h2
 have h4:=gOne_rng h1
 simp only at h5 e1
 exact ⟨by omega,e2⟩
theorem one64 {s:List UInt8} {a:Int} {r:List UInt8} (h:gOne s=some (a,r)):i64 a:=by have:=gOne_rng h; exact ⟨by omega,by omega⟩
theorem two64 {s:List UInt8} {a:Int} {r:List UInt8} (h:gTwo s=some (a,r)):i64 a:=by have:=gTwo_rng h; exact ⟨by omega,by omega⟩
theorem gKind_wf (s:List UInt8) (a:SKind) (r:List UInt8) (h:gKind s=some (a,r)):a.wf:=by
 simp only [gKind,bindG,pureG,Option.bind_eq_some_iff] at h
 obtain ⟨⟨n,r1⟩,h1,h2⟩:=h
 obtain ⟨h1,-⟩:=gUp_eq h1
 split at h2
 ·simp only [bindG,pureG,failG,Option.bind_eq_some_iff] at h2
  obtain ⟨⟨c,r2⟩,h5,h6⟩:=h2
  cases h6
  exact ⟨one64 h1,two64 h5⟩
 ·cases h2
  exact ⟨one64 h1,by simp [i64]⟩
theorem gConst_wf (s:List UInt8) (a:SConst) (r:List UInt8) (h:gConst s=some (a,r)):a.wf∧a.Text.length≤255:=by
 simp only [gConst,bindG,pureG,failG,Option.bind_eq_some_iff] at h
 obtain ⟨⟨n,r1⟩,h1,h2⟩:=h
 simp only at h2
 split at h2
 ·simp only [bindG,pureG,failG,Option.bind_eq_some_iff] at h2
  obtain ⟨⟨c,r2⟩,h5,⟨t,r3⟩,h6,h7⟩:=h2
  cases h7
  obtain ⟨-,e2⟩:=gText_eq h6
  have:=gOne_rng h5
  simp only at e2
  exact ⟨⟨one64 h1,by simp only; omega,by simp [i64],by simp [i64]⟩,by simp only; omega⟩
 ·split at h2
  ·simp only [bindG,pureG,failG,Option.bind_eq_some_iff] at h2
   obtain ⟨⟨c,r2⟩,h6,h7⟩:=h2
   cases h7
   exact ⟨⟨one64 h1,by simp,two64 h6,by simp [i64]⟩,by simp⟩
  ·split at h2
   ·simp only [bindG,pureG,failG,Option.bind_eq_some_iff] at h2
    obtain ⟨⟨c,r2⟩,h6,⟨d,r3⟩,h7,h8⟩:=h2
    cases h8
    exact ⟨⟨one64 h1,by simp,two64 h6,two64 h7⟩,by simp⟩
   ·cases h2
theorem gTrap_wf (s:List UInt8) (a:STrap) (r:List UInt8) (h:gTrap s=some (a,r)):a.wf:=by
 simp only [gTrap,bindG,pureG,Option.bind_eq_some_iff] at h
 obtain ⟨⟨a1,r1⟩,h1,⟨a2,r2⟩,h2,⟨a3,r3⟩,h3,⟨a4,r4⟩,h4,h5⟩:=h
 cases h5
 exact ⟨two64 h1,two64 h2,two64 h3,two64 h4⟩
theorem gFrame_wf (s:List UInt8) (a:SFrame) (r:List UInt8) (h:gFrame s=some (a,r)):a.wf∧a.Locals.length≤8∧a.Stack.length≤8:=by
 simp only [gFrame,bindG,pureG,Option.bind_eq_some_iff] at h
 obtain ⟨⟨a1,r1⟩,h1,⟨a2,r2⟩,h2,⟨a3,r3⟩,h3,h5⟩:=h
 cases h5
 obtain ⟨p1,p2⟩:=gList_all gKind_wf h2
 obtain ⟨q1,q2⟩:=gList_all gKind_wf h3
 exact ⟨⟨two64 h1,⟨by simp only; omega,p2⟩,⟨by simp only; omega,q2⟩⟩,by simp only; omega,by simp only; omega⟩
theorem gField_wf (s:List UInt8) (a:SField) (r:List UInt8) (h:gField s=some (a,r)):a.wf:=by
 simp only [gField,bindG,pureG,Option.bind_eq_some_iff] at h
 obtain ⟨⟨a1,r1⟩,h1,⟨a2,r2⟩,h2,⟨a3,r3⟩,h3,h5⟩:=h
 cases h5
 exact ⟨one64 h1,two64 h2,two64 h3⟩
def smallM (m:SMethod):Prop:=m.Code.length≤120∧m.Traps.length≤3∧m.Frames.length≤8∧∀ f ∈ m.Frames,f.Locals.length≤8∧f.Stack.length≤8
theorem gMethod_wf (s:List UInt8) (a:SMethod) (r:List UInt8) (h:gMethod s=some (a,r)):a.wf∧smallM a:=by
 simp only [gMethod,bindG,pureG,Option.bind_eq_some_iff] at h
 obtain ⟨⟨a1,r1⟩,h1,⟨a2,r2⟩,h2,⟨a3,r3⟩,h3,h5⟩:=h
 simp only at h5
 split at h5
 ·cases h5
  exact ⟨⟨one64 h1,two64 h2,two64 h3,by simp [i64],by simp [i64],by simp,by simp,by simp⟩,by simp [smallM]⟩
 ·simp only [gBody,bindG,pureG,Option.bind_eq_some_iff] at h5
  obtain ⟨⟨b1,s1⟩,k1,⟨b2,s2⟩,k2,⟨b3,s3⟩,k3,⟨b4,s4⟩,k4,⟨b5,s5⟩,k5,⟨b6,s6⟩,k6,k7⟩:=h5
  cases k7
  obtain ⟨k3,m3⟩:=gUp_eq k3
  have n3:=gTwo_rng k3
  obtain ⟨-,f5⟩:=gText_eq k4
  obtain ⟨p1,p2⟩:=gList_all gTrap_wf k5
  obtain ⟨q1,q2⟩:=gList_all gFrame_wf k6
  simp only at f5
  exact ⟨⟨one64 h1,two64 h2,two64 h3,one64 k1,one64 k2,by simp only; omega,⟨by simp only; omega,p2⟩,⟨by simp only; omega,fun f hf=>(q2 f hf).1⟩⟩,by simp only; omega,by simp only; omega,by simp only; omega,fun f hf=>(q2 f hf).2⟩
def smallC (c:SClass):Prop:=c.Pool.length≤60∧c.Faces.length≤3∧c.Fields.length≤5∧c.Methods.length≤6∧(∀ x ∈ c.Pool,x.Text.length≤255)∧∀ m ∈ c.Methods,smallM m
theorem fileGet_wf {s:List UInt8} {c:SClass} (h:fileGet s=some c):c.wf∧smallC c:=by
 unfold fileGet at h
 split at h
 ·cases h
 ·split at h
  ·rename_i d hd
   cases h
   simp only [gClass,bindG,pureG,failG,Option.bind_eq_some_iff] at hd
   obtain ⟨⟨t,r0⟩,h0,h1⟩:=hd
   simp only at h1
   split at h1
   ·simp only [bindG,pureG,failG,Option.bind_eq_some_iff] at h1
    obtain ⟨⟨b1,s1⟩,k1,⟨b2,s2⟩,k2,⟨b3,s3⟩,k3,⟨b4,s4⟩,k4,⟨b5,s5⟩,k5,⟨b6,s6⟩,k6,⟨b7,s7⟩,k7,k8⟩:=h1
    cases k8
    obtain ⟨p1,p2⟩:=gList_all gConst_wf k1
    obtain ⟨q1,q2⟩:=gList_all (P:=i64) (fun _ _ _ h=>two64 h) k5
    obtain ⟨u1,u2⟩:=gList_all gField_wf k6
    obtain ⟨v1,v2⟩:=gList_all gMethod_wf k7
    exact ⟨⟨⟨by simp only; omega,fun x hx=>(p2 x hx).1⟩,one64 k2,two64 k3,two64 k4,⟨by simp only; omega,q2⟩,⟨by simp only; omega,u2⟩,⟨by simp only; omega,fun m hm=>(v2 m hm).1⟩⟩,
     by simp only; omega,by simp only; omega,by simp only; omega,by simp only; omega,fun x hx=>(p2 x hx).2,fun m hm=>(v2 m hm).2⟩
   ·cases h1
  ·cases h
theorem ceq (a b:SClass):decide (a=b)=(decide (a.Pool=b.Pool) && (decide (a.Flags=b.Flags) && (decide (a.Name=b.Name) && (decide (a.Super=b.Super) && (decide (a.Faces=b.Faces) && (decide (a.Fields=b.Fields) && decide (a.Methods=b.Methods))))))):=by
 rw [Bool.eq_iff_iff]; cases a; cases b; simp
theorem c57_14 (a b:SClass) (w:a.wf) (H:Heap) (h0:getBlk H 0=some [a.row]) (h1:getBlk H 1=some [b.row]) (hlen:a.Methods.length=b.Methods.length):∀ i,i≤a.Methods.length→J E 57 14 [.ptr 0 0 0,.ptr 1 0 0,.int .i64 i] H=some (.bool (decide (a.Methods.drop i=b.Methods.drop i)),H):=by
 have m6:∀ a:SClass,a.row[0 + 6]? = some (.list (a.Methods.map SMethod.row)):=fun a=>rfl
 obtain ⟨w1,w2⟩:=w.2.2.2.2.2.2
 apply loop_up
 ·rw [j57_14]
  simp only [fa_ptr,ld_in0 h0,ld_in0 h1,m6,lnL_list,List.length_map,bI_lss,Int.lt_irrefl,decide_false,Option.bind_some,asB_bool,cond_false,List.drop_length]
  rw [List.drop_of_length_le (show b.Methods.length≤a.Methods.length by omega)]
  rfl
 ·intro i hi ih
  have hi':i < b.Methods.length:=by omega
  have hlt:((i:Nat):Int) < (a.Methods.length:Int):=by omega
  rw [j57_14,drop_dec hi hi']
  simp only [fa_ptr,ld_in0 h0,ld_in0 h1,m6,lnL_list,List.length_map,bI_lss,hlt,decide_true,cond_true,asB_bool,Option.bind_some,ia_row (row:=SMethod.row) (esz:=8) (fun x=>rfl) hi,ia_row (row:=SMethod.row) (esz:=8) (fun x=>rfl) hi',ld_el]
  rw [show part (a.Methods[i]).row (0,8,true)=some (a.Methods[i]).d from rfl,show part (b.Methods[i]).row (0,8,true)=some (b.Methods[i]).d from rfl]
  simp only [Option.bind_some]
  rw [pure_call (ts:=[(a.Methods[i]).d,(b.Methods[i]).d]) (by simp [SMethod.readD]) (c101 _ _ (w2 _ (List.getElem_mem hi)))]
  simp only [Option.bind_some,unOp_not,bI_add,asB_bool]
  rw [wrap_i64 (n:=(i:Int) + 1) (by omega) (by omega)]
  by_cases h:a.Methods[i]=b.Methods[i]
  ·simp only [h,decide_true,Bool.not_true,cond_false,Bool.true_and]
   exact ih
  ·simp [h]
theorem c57_9 (a b:SClass) (w:a.wf) (H:Heap) (h0:getBlk H 0=some [a.row]) (h1:getBlk H 1=some [b.row]) (hm:a.Methods.length=b.Methods.length) (hlen:a.Fields.length=b.Fields.length):∀ i,i≤a.Fields.length→J E 57 9 [.ptr 0 0 0,.ptr 1 0 0,.int .i64 i] H=some (.bool (decide (a.Fields.drop i=b.Fields.drop i) && decide (a.Methods=b.Methods)),H):=by
 have m5:∀ a:SClass,a.row[0 + 5]? = some (.list (a.Fields.map SField.row)):=fun a=>rfl
 obtain ⟨w1,w2⟩:=w.2.2.2.2.2.1
 apply loop_up
 ·rw [j57_9]
  simp only [fa_ptr,ld_in0 h0,ld_in0 h1,m5,lnL_list,List.length_map,bI_lss,Int.lt_irrefl,decide_false,Option.bind_some,asB_bool,cond_false,List.drop_length]
  rw [List.drop_of_length_le (show b.Fields.length≤a.Fields.length by omega)]
  rw [show D.int .i64 0=D.int .i64 ((0:Nat):Int) from rfl,c57_14 a b w H h0 h1 hm 0 (by omega)]
  simp
 ·intro i hi ih
  have hi':i < b.Fields.length:=by omega
  have hlt:((i:Nat):Int) < (a.Fields.length:Int):=by omega
  rw [j57_9,drop_dec hi hi']
  simp only [fa_ptr,ld_in0 h0,ld_in0 h1,m5,lnL_list,List.length_map,bI_lss,hlt,decide_true,cond_true,asB_bool,Option.bind_some,ia_row (row:=SField.row) (esz:=3) (fun x=>rfl) hi,ia_row (row:=SField.row) (esz:=3) (fun x=>rfl) hi',ld_el]
  rw [show part (a.Fields[i]).row (0,3,true)=some (a.Fields[i]).d from rfl,show part (b.Fields[i]).row (0,3,true)=some (b.Fields[i]).d from rfl]
  simp only [Option.bind_some,SField_dneq,bI_add,asB_bool]
  rw [wrap_i64 (n:=(i:Int) + 1) (by omega) (by omega)]
  by_cases h:a.Fields[i]=b.Fields[i]
  ·simp only [h,decide_true,Bool.not_true,cond_false,Bool.true_and]
   exact ih
  ·simp [h]
theorem c57_4 (a b:SClass) (w:a.wf) (H:Heap) (h0:getBlk H 0=some [a.row]) (h1:getBlk H 1=some [b.row]) (hm:a.Methods.length=b.Methods.length) (hf:a.Fields.length=b.Fields.length) (hlen:a.Faces.length=b.Faces.length):∀ i,i≤a.Faces.length→J E 57 4 [.ptr 0 0 0,.ptr 1 0 0,.int .i64 i] H=some (.bool (decide (a.Faces.drop i=b.Faces.drop i) && (decide (a.Fields=b.Fields) && decide (a.Methods=b.Methods))),H):=by
 have m4:∀ a:SClass,a.row[0 + 4]? = some (.list (a.Faces.map rInt)):=fun a=>rfl
 obtain ⟨w1,w2⟩:=w.2.2.2.2.1
 apply loop_up
 ·rw [j57_4]
  simp only [fa_ptr,ld_in0 h0,ld_in0 h1,m4,lnL_list,List.length_map,bI_lss,Int.lt_irrefl,decide_false,Option.bind_some,asB_bool,cond_false,List.drop_length]
  rw [List.drop_of_length_le (show b.Faces.length≤a.Faces.length by omega)]
  rw [show D.int .i64 0=D.int .i64 ((0:Nat):Int) from rfl,c57_9 a b w H h0 h1 hm hf 0 (by omega)]
  simp
 ·intro i hi ih
  have hi':i < b.Faces.length:=by omega
  have hlt:((i:Nat):Int) < (a.Faces.length:Int):=by omega
  rw [j57_4,drop_dec hi hi']
  simp only [fa_ptr,ld_in0 h0,ld_in0 h1,m4,lnL_list,List.length_map,bI_lss,hlt,decide_true,cond_true,asB_bool,Option.bind_some,ia_row (row:=rInt) (esz:=1) (fun x=>rfl) hi,ia_row (row:=rInt) (esz:=1) (fun x=>rfl) hi',ld_el]
  rw [show part (rInt a.Faces[i]) (0,1,false)=some (.int .i64 a.Faces[i]) from rfl,show part (rInt b.Faces[i]) (0,1,false)=some (.int .i64 b.Faces[i]) from rfl]
  simp only [Option.bind_some,bI_neq,bI_add,asB_bool]
  rw [wrap_i64 (n:=(i:Int) + 1) (by omega) (by omega)]
  by_cases h:a.Faces[i]=b.Faces[i]
  ·simp only [h,decide_true,Bool.not_true,cond_false,Bool.true_and]
   exact ih
  ·simp [h]
theorem c57 (a b:SClass) (w:a.wf):run E (exec E) false 57 [a.d,b.d]=some (.bool (decide (a=b))):=by
 have h0:getBlk ([some [a.row],some [b.row]]:Heap) 0=some [a.row]:=rfl
 have h1:getBlk ([some [a.row],some [b.row]]:Heap) 1=some [b.row]:=rfl
 have m0:∀ a:SClass,a.row[0 + 0]? = some (.list (a.Pool.map SConst.row)):=fun a=>rfl
 have m1:∀ a:SClass,a.row[0 + 1]? = some (.int .i64 a.Flags):=fun a=>rfl
 have m2:∀ a:SClass,a.row[0 + 2]? = some (.int .i64 a.Name):=fun a=>rfl
 have m3:∀ a:SClass,a.row[0 + 3]? = some (.int .i64 a.Super):=fun a=>rfl
 have m4:∀ a:SClass,a.row[0 + 4]? = some (.list (a.Faces.map rInt)):=fun a=>rfl
 have m5:∀ a:SClass,a.row[0 + 5]? = some (.list (a.Fields.map SField.row)):=fun a=>rfl
 have m6:∀ a:SClass,a.row[0 + 6]? = some (.list (a.Methods.map SMethod.row)):=fun a=>rfl
 rw [run_ent,e57,alloc_eq _ _ _ rfl,alloc_eq _ _ _ rfl]
 rw [show ([]++[some [D.cells a.d]]++[some [D.cells b.d]]:Heap)=[some [a.row],some [b.row]] from rfl,show ([]:Heap).length=0 from rfl,show ([]++[some [D.cells a.d]]:Heap).length=1 from rfl]
 rw [j57_1,ceq]
 simp only [fa_ptr,ld_in0 h0,ld_in0 h1,m0,Option.bind_some]
 rw [pure_call (ts:=[.list (a.Pool.map SConst.row),.list (b.Pool.map SConst.row)]) (by simp) (c100 _ _ w.1.1)]
 simp only [Option.bind_some,unOp_not,asB_bool,ld_in0 h0,ld_in0 h1,m1,m2,m3,m4,m5,m6,bI_neq,lnL_list,List.length_map]
 by_cases e0:¬ a.Pool=b.Pool
 ·simp [e0]
 have e0:=Decidable.not_not.mp e0
 by_cases e1:¬ a.Flags=b.Flags
 ·simp [e0,e1]
 have e1:=Decidable.not_not.mp e1
 by_cases e2:¬ a.Name=b.Name
 ·simp [e0,e1,e2]
 have e2:=Decidable.not_not.mp e2
 by_cases e3:¬ a.Super=b.Super
 ·simp [e0,e1,e2,e3]
 have e3:=Decidable.not_not.mp e3
 simp only [e0,e1,e2,e3,decide_true,Bool.not_true,cond_false,Bool.true_and]
 by_cases l4:¬ a.Faces.length=b.Faces.length
 ·have:¬ a.Faces=b.Faces:=fun e=>l4 (by rw [e])
  simp [show ¬ (a.Faces.length:Int)=b.Faces.length by omega,this]
 have l4:=Decidable.not_not.mp l4
 by_cases l5:¬ a.Fields.length=b.Fields.length
 ·have:¬ a.Fields=b.Fields:=fun e=>l5 (by rw [e])
  simp [l4,show ¬ (a.Fields.length:Int)=b.Fields.length by omega,this]
 have l5:=Decidable.not_not.mp l5
 by_cases l6:¬ a.Methods.length=b.Methods.length
 ·have:¬ a.Methods=b.Methods:=fun e=>l6 (by rw [e])
  simp [l4,l5,show ¬ (a.Methods.length:Int)=b.Methods.length by omega,this]
 have l6:=Decidable.not_not.mp l6
 simp only [l4,l5,l6,decide_true,Bool.not_true,cond_false]
 rw [show D.int .i64 0=D.int .i64 ((0:Nat):Int) from rfl,c57_4 a b w _ h0 h1 l6 l5 l4 0 (by omega)]
 simp
theorem own_read {H:Heap} {L:List Asset} {n:Nat} {d t:D} (h:Own H (.val n d t :: L)) (hn:n≤9):readT true depth H d=some t:=by
 obtain ⟨B,r,-⟩:=h.val
 exact r.read (.inl rfl) hn
theorem c56o (s:List UInt8):FOut (ent E 56 [.str s] []) (fileGet s):=by
 rw [e56,alloc_eq _ _ _ rfl]
 have h1:=(Own.nil []).alloc 4 (cs:=zcls) (ts:=(({}:SClass)).row) (zcls_rep.frame fun c hc=>by cases hc) rfl zcls_nil
 simp only [lnS_str,Option.bind_some,bI_gtr,asB_bool]
 by_cases hl:900 < s.length
 ·have:(900:Int) < (s.length:Int):=by omega
  simp only [this,decide_true,cond_true]
  have e:fileGet s=none:=by simp [fileGet,hl]
  rw [e]
  exact fnone h1 rfl
 ·have:¬ (900:Int) < (s.length:Int):=by omega
  simp only [this,decide_false,cond_false]
  rw [show bld [.str [],.int .i64 0,.bool false] [(0,1,false),(1,1,false),(2,1,false)] [(0,.str s)]=some (.agg [.str s,.int .i64 0,.bool false]) from rfl]
  simp only [Option.bind_some]
  rw [alloc_eq _ _ _ rfl]
  have h2:=h1.alloc 0 (cs:=[.str s,.int .i64 0,.bool false]) (ts:=[.str s,.int .i64 0,.bool false]) (RepR.scalars rfl) rfl (fun f hf=>by rcases f with _ | _ | _ | f <;> simp at hf)
  obtain ⟨cs,H3,k3,b3,c,e3,h3,q3,t3⟩:=c99 (s:=s) h2 (by omega)
  rw [show D.cells (.agg [.str s,.int .i64 0,.bool false])=[.str s,.int .i64 0,.bool false] from rfl]
  simp only [call_raw,e3,Option.bind_some]
  rw [alloc_eq _ _ _ rfl]
  have h4:=(h3.alloc 4 (cs:=zcls) (ts:=(({}:SClass)).row) (zcls_rep.frame fun c hc=>by cases hc) rfl zcls_nil).pull1
  obtain ⟨H5,e5,h5,-⟩:=h4.over (m:=4) (n:=4) (by decide) (z:=7) rfl rfl
  have l2:=h5.pull1.ld (f:=2) rfl rfl
  have l1:=h5.pull1.ld (f:=1) rfl rfl
  simp only [e5,nilCheck_ptr,fa_ptr,Nat.zero_add,Option.bind_some,l2,l1,asB_bool]
  rw [fileGet_fin hl]
  have hfin:fin gClass s false=fin (pureG c) (s.drop k3) b3:=by
   have e:bindG gClass pureG=gClass:=by
    funext s
    unfold bindG
    cases gClass s <;> rfl
   rw [← fin_seq (h:=pureG) t3,e]
  rw [hfin]
  cases b3 with
  | true=>
   simp only [cond_true]
   exact fnone h5.pull2 rfl
  | false=>
   simp only [cond_false,bI_neq,Option.bind_some,asB_bool]
   by_cases hk:k3=s.length
   ·have hd:s.drop k3=[]:=by rw [hk,List.drop_length]
    rw [hd]
    have hq:fileGet s=some c:=by rw [fileGet_fin hl,hfin,hd]; rfl
    have hp:=fileGet_back back2_pTwo' hq
    obtain ⟨cs6,e6,h6,-⟩:=h5.whole (z:=7) rfl
    simp only [show (k3:Int)=(s.length:Int) by omega,decide_true,Bool.not_true,cond_false,e6,Option.bind_some]
    rw [pure_call (ts:=[c.d]) (by simp [own_read h6 (by decide)]) (c55 c (fileGet_wf hq).1 (by rw [hp]; omega)),hp]
    simp only [Option.bind_some,bS_neq,decide_true,Bool.not_true,asB_bool,cond_false]
    exact fsome (c:=c) (h5.pull2.pull1) rfl
   ·have hd:s.drop k3 ≠ []:=by
     intro e
     have:=congrArg List.length e
     simp at this
     omega
    have:fin (pureG c) (s.drop k3) false=none:=by
     cases hx:s.drop k3 with
     | nil=>exact absurd hx hd
     | cons a r=>rfl
    rw [this]
    simp only [show ¬ (k3:Int)=(s.length:Int) by omega,decide_false,Bool.not_false,cond_true]
    exact fnone h5.pull2 rfl
theorem FOut_read {res:Option (D×Heap)} {q:Option SClass} (h:FOut res q) {l:Bool}:(res.bind fun r=>readT l depth r.2 r.1)=some (fileRes q):=by
 obtain ⟨cs,H',L,rfl,h⟩:=h
 obtain ⟨B,r,-⟩:=h.val
 have:=RepT.tup (n:=5) (RepR.cons r (RepR.cons (B:=[]) (B':=[]) (.sc (d:=.bool q.isSome) rfl) .nil))
 simp only [Option.bind_some]
 exact this.read (.inl rfl) (by decide)
theorem c56 (s:List UInt8) (l:Bool):run E (exec E) l 56 [.str s]=some (fileRes (fileGet s)):=by
 rw [run_ent]; exact FOut_read (c56o s)
end Go.Ev.YtmpfooibdekppaaGreatDoor
