import Derived.Test.YtmljkoieihaomaaGreatD3
namespace Go.Ev.YtmljkoieihaomaaGreat
set_option linter.unusedVariables false
set_option linter.unusedSimpArgs false
set_option linter.unusedSectionVars false
set_option linter.defProp false
set_option maxHeartbeats 1000000
open Go.Ev
section
variable (succ:Nat→Int→Option (List (Nat×Int)))
inductive Reach:Nat→Int→Prop
 | start:Reach 0 0
 | step {k:Nat} {n:Int} {l:List (Nat×Int)} {j:Nat} {m:Int}:Reach k n→succ k n=some l→(j,m) ∈ l→Reach j m
def BadG:Prop:=(∃ k n,Reach succ k n∧succ k n=none)∨∃ k n m,Reach succ k n∧Reach succ k m∧n ≠ m
structure ClosedG (L:List Int):Prop where
 start:L[0]? = some 0
 next:∀ (k:Nat) (n:Int),L[k]? = some n→0≤n→∃ l,succ k n=some l∧∀ (j:Nat) (m:Int),(j,m) ∈ l→L[j]? = some m
 reach:∀ (k:Nat) (n:Int),L[k]? = some n→0≤n→Reach succ k n
 vals:∀ (k:Nat) (n:Int),L[k]? = some n→n = -1∨0≤n
def AnsG (N:Nat):Option (List Int)→Prop
 | none=>BadG succ
 | some L=>L.length=N∧ClosedG succ L
variable {succ}
variable (N:Nat) (hN:∀ k n l j m,succ k n=some l→(j,m) ∈ l→j < N∧0≤m) (h0:0 < N)
include hN h0 in
theorem Reach.rng {k:Nat} {n:Int} (h:Reach succ k n):k < N∧0≤n:=by
 cases h with
 | start=>exact ⟨h0,Int.le_refl 0⟩
 | step _ h2 h3=>exact hN _ _ _ _ _ h2 h3
include hN h0 in
theorem ClosedG.has {L:List Int} (c:ClosedG succ L) {k:Nat} {n:Int} (h:Reach succ k n):L[k]? = some n:=by
 induction h with
 | start=>exact c.start
 | step h1 h2 h3 ih=>
  obtain ⟨l,e,g⟩:=c.next _ _ ih (h1.rng N hN h0).2
  rw [h2] at e; cases e
  exact g _ _ h3
include hN h0 in
theorem ClosedG.not_bad {L:List Int} (c:ClosedG succ L):¬ BadG succ:=by
 rintro (⟨k,n,h1,h2⟩ | ⟨k,n,m,h1,h2,h3⟩)
 ·obtain ⟨l,e,-⟩:=c.next _ _ (c.has N hN h0 h1) (h1.rng N hN h0).2
  rw [h2] at e; cases e
 ·have a:=c.has N hN h0 h1
  rw [c.has N hN h0 h2] at a
  cases a; exact h3 rfl
include hN h0 in
theorem AnsG.unique {a b:Option (List Int)} (ha:AnsG succ N a) (hb:AnsG succ N b):a=b:=by
 cases a with
 | none=>cases b with
  | none=>rfl
  | some L=>exact absurd ha (hb.2.not_bad N hN h0)
 | some L=>cases b with
  | none=>exact absurd hb (ha.2.not_bad N hN h0)
  | some M=>
   congr 1
   have sym:∀ {L M:List Int},ClosedG succ L→ClosedG succ M→∀ {k:Nat} {n:Int},L[k]? = some n→0≤n→M[k]? = some n:=fun cl cm _ _ h1 h2=>cm.has N hN h0 (cl.reach _ _ h1 h2)
   apply List.ext_getElem (ha.1.trans hb.1.symm)
   intro k h1 h2
   have e1:=List.getElem?_eq_getElem h1
   have e2:=List.getElem?_eq_getElem h2
   rcases ha.2.vals _ _ e1 with v | v
   ·rcases hb.2.vals _ _ e2 with w | w
    ·omega
    ·have:=sym hb.2 ha.2 e2 w
     rw [e1] at this; exact Option.some.inj this
   ·have:=sym ha.2 hb.2 e1 v
    rw [e2] at this; exact (Option.some.inj this).symm
variable (succ)
def dfs (st:List (Nat×Int)) (L:List Int):Option (List Int):=
 match st with
 | []=>some L
 | (k,n) :: rest=>
  if h:k < L.length then
   if hv:0≤L[k] then (if L[k]=n then dfs rest L else none)
   else match succ k n with
    | none=>none
    | some l=>if hn:0≤n then dfs (l++rest) (L.set k n) else none
  else none
termination_by (L.countP (fun x=>decide (x < 0)),st.length)
decreasing_by
 ·apply Prod.Lex.right; simp
 ·apply Prod.Lex.left
  rw [List.countP_set h]
  have:0 < L.countP (fun x=>decide (x < 0)):=List.countP_pos_iff.mpr ⟨L[k],List.getElem_mem h,by simpa using hv⟩
  rw [if_pos (by simpa using hv),if_neg (by simpa using hn)]
  omega
structure WayG (N:Nat) (st:List (Nat×Int)) (L:List Int):Prop where
 len:L.length=N
 start:L[0]? = some 0∨(0,0) ∈ st
 next:∀ (k:Nat) (n:Int),L[k]? = some n→0≤n→∃ l,succ k n=some l∧∀ (j:Nat) (m:Int),(j,m) ∈ l→L[j]? = some m∨(j,m) ∈ st
 reach:∀ (k:Nat) (n:Int),L[k]? = some n→0≤n→Reach succ k n
 vals:∀ (k:Nat) (n:Int),L[k]? = some n→n = -1∨0≤n
 pend:∀ (k:Nat) (n:Int),(k,n) ∈ st→Reach succ k n
include hN h0 in
theorem dfs_ans:∀ (st:List (Nat×Int)) (L:List Int),WayG succ N st L→AnsG succ N (dfs succ st L):=by
 intro st L
 induction st,L using dfs.induct (succ:=succ) with
 | case1 L=>intro w; rw [dfs]; exact ⟨w.len,by simpa using w.start,fun k n h1 h2=>by simpa using w.next k n h1 h2,w.reach,w.vals⟩
 | case2 L k st h hv ih=>
  intro w
  rw [dfs,dif_pos h,dif_pos hv,if_pos rfl]
  have e:=List.getElem?_eq_getElem h
  have drop:∀ (j:Nat) (m:Int),(j,m) ∈ (k,L[k]) :: st→L[j]? = some m∨(j,m) ∈ st:=by
   intro j m hm
   rcases List.mem_cons.mp hm with q | q
   ·cases q; exact .inl e
   ·exact .inr q
  refine ih ⟨w.len,w.start.elim .inl (drop _ _),fun k n h1 h2=>?_,w.reach,w.vals,fun k n hm=>w.pend k n (List.mem_cons_of_mem _ hm)⟩
  obtain ⟨l,a,b⟩:=w.next k n h1 h2
  exact ⟨l,a,fun j m hm=>(b j m hm).elim .inl (drop _ _)⟩
 | case3 L k n st h hv hn=>
  intro w
  rw [dfs,dif_pos h,dif_pos hv,if_neg hn]
  exact .inr ⟨k,L[k],n,w.reach _ _ (List.getElem?_eq_getElem h) hv,w.pend _ _ (by simp),hn⟩
 | case4 L k n st h hv hs=>
  intro w
  rw [dfs,dif_pos h,dif_neg hv,hs]
  exact .inl ⟨k,n,w.pend _ _ (by simp),hs⟩
 | case5 L k n st h hv l hs hn ih=>
  intro w
  rw [dfs,dif_pos h,dif_neg hv,hs]
  simp only [dif_pos hn]
  have old:∀ (j:Nat) (m:Int),L[j]? = some m→0≤m→(L.set k n)[j]? = some m:=by
   intro j m h1 h2
   rw [List.getElem?_set_ne]; exact h1
   rintro rfl
   rw [List.getElem?_eq_getElem h] at h1; cases h1; exact hv h2
  have new:∀ (j:Nat) (m:Int),(L.set k n)[j]? = some m→(j=k∧m=n)∨L[j]? = some m:=by
   intro j m h1
   by_cases e:k=j
   ·subst e; rw [List.getElem?_set_self h] at h1; cases h1; exact .inl ⟨rfl,rfl⟩
   ·rw [List.getElem?_set_ne e] at h1; exact .inr h1
  have self:(L.set k n)[k]? = some n:=List.getElem?_set_self h
  have move:∀ (j:Nat) (m:Int),(j,m) ∈ (k,n) :: st→(L.set k n)[j]? = some m∨(j,m) ∈ l++st:=by
   intro j m hm
   rcases List.mem_cons.mp hm with q | q
   ·cases q; exact .inl self
   ·exact .inr (List.mem_append_right _ q)
  have hr:=w.pend k n (by simp)
  refine ih ⟨by simpa using w.len,w.start.elim (fun q=>.inl (old _ _ q (Int.le_refl 0))) (move _ _),fun j m h1 h2=>?_,fun j m h1 h2=>?_,fun j m h1=>?_,fun j m hm=>?_⟩
  ·rcases new j m h1 with ⟨rfl,rfl⟩ | q
   ·exact ⟨l,hs,fun a b hm=>.inr (List.mem_append_left _ hm)⟩
   ·obtain ⟨l',a,b⟩:=w.next j m q h2
    refine ⟨l',a,fun x y hm=>(b x y hm).elim (fun q=>.inl (old _ _ q (hN _ _ _ _ _ a hm).2)) (move _ _)⟩
  ·rcases new j m h1 with ⟨rfl,rfl⟩ | q
   ·exact hr
   ·exact w.reach j m q h2
  ·rcases new j m h1 with ⟨rfl,rfl⟩ | q
   ·exact .inr hn
   ·exact w.vals j m q
  ·rcases List.mem_append.mp hm with q | q
   ·exact hr.step hs q
   ·exact w.pend j m (List.mem_cons_of_mem _ q)
 | case6 L k n st h hv l hs hn=>
  intro w
  exact absurd ((w.pend k n (by simp)).rng N hN h0).2 hn
 | case7 L k n st h=>
  intro w
  exact absurd ((w.pend k n (by simp)).rng N hN h0).1 (by rw [← w.len]; exact h)
def markG (L:List Int):List (Nat×Int)→Option (List Int)
 | []=>some L
 | (j,m) :: l=>if (L[j]?).all (fun v=>decide (v < 0) || decide (v=m))=true then markG (L.set j m) l else none
def visitG (k:Nat) (s:List Int×List Bool×Bool):Option (List Int×List Bool×Bool):=
 match s.1[k]?,s.2.1[k]? with
 | some n,some d=>if n < 0∨d=true then some s else (succ k n).bind fun l=>(markG s.1 l).map fun L=>(L,s.2.1.set k true,true)
 | _,_=>none
def roundG:List Nat→List Int×List Bool×Bool→Option (List Int×List Bool×Bool)
 | [],s=>some s
 | k :: l,s=>(visitG succ k s).bind (roundG l)
def roundsG (N:Nat):Nat→List Int→List Bool→Option (List Int)
 | 0,_,_=>none
 | f + 1,L,D=>(roundG succ (List.range N) (L,D,false)).bind fun s=>if s.2.2=true then roundsG N f s.1 s.2.1 else some s.1
structure RndG (N:Nat) (L:List Int) (D:List Bool):Prop where
 len:L.length=N
 dlen:D.length=N
 start:L[0]? = some 0
 reach:∀ (k:Nat) (n:Int),L[k]? = some n→0≤n→Reach succ k n
 vals:∀ (k:Nat) (n:Int),L[k]? = some n→n = -1∨0≤n
 done:∀ (k:Nat) (n:Int),L[k]? = some n→D[k]? = some true→0≤n∧∃ l,succ k n=some l∧∀ (j:Nat) (m:Int),(j,m) ∈ l→L[j]? = some m
theorem markG_spec:∀ (l:List (Nat×Int)) (L:List Int),(∀ j m,(j,m) ∈ l→j < L.length∧0≤m∧Reach succ j m)→(∀ (k:Nat) (n:Int),L[k]? = some n→0≤n→Reach succ k n) →
  (markG L l=none∧BadG succ)∨∃ M,markG L l=some M∧M.length=L.length∧(∀ (j:Nat) (m:Int),(j,m) ∈ l→M[j]? = some m)∧(∀ (j:Nat) (m:Int),L[j]? = some m→0≤m→M[j]? = some m)∧∀ (j:Nat) (m:Int),M[j]? = some m→L[j]? = some m∨(j,m) ∈ l
 | [],L,_,_=>.inr ⟨L,rfl,rfl,fun j m h=>(nomatch h),fun j m h _=>h,fun j m h=>.inl h⟩
 | (j,m) :: l,L,hl,hr=>by
  obtain ⟨h1,h2,h3⟩:=hl j m (by simp)
  have e:=List.getElem?_eq_getElem h1
  rw [markG,e]
  simp only [Option.all_some,Bool.or_eq_true,decide_eq_true_eq]
  by_cases c:L[j] < 0∨L[j]=m
  ·rw [if_pos c]
   have self:(L.set j m)[j]? = some m:=List.getElem?_set_self h1
   have old:∀ (x:Nat) (y:Int),L[x]? = some y→0≤y→(L.set j m)[x]? = some y:=by
    intro x y hx hy
    by_cases q:j=x
    ·subst q
     rw [self]
     rw [e] at hx; cases hx
     rcases c with c | c
     ·omega
     ·rw [c]
    ·rw [List.getElem?_set_ne q]; exact hx
   have new:∀ (x:Nat) (y:Int),(L.set j m)[x]? = some y→(x=j∧y=m)∨L[x]? = some y:=by
    intro x y hx
    by_cases q:j=x
    ·subst q; rw [self] at hx; cases hx; exact .inl ⟨rfl,rfl⟩
    ·rw [List.getElem?_set_ne q] at hx; exact .inr hx
   rcases markG_spec l (L.set j m) (fun x y hm=>by have:=hl x y (by simp [hm]); simpa using this) (fun x y hx hy=>by
    rcases new x y hx with ⟨rfl,rfl⟩ | q
    ·exact h3
    ·exact hr x y q hy) with q | ⟨M,a1,a2,a3,a4,a5⟩
   ·exact .inl q
   ·refine .inr ⟨M,a1,by simpa using a2,fun x y hm=>?_,fun x y hx hy=>a4 x y (old x y hx hy) hy,fun x y hx=>?_⟩
    ·rcases List.mem_cons.mp hm with q | q
     ·cases q; exact a4 _ _ self h2
     ·exact a3 x y q
    ·rcases a5 x y hx with q | q
     ·rcases new x y q with ⟨rfl,rfl⟩ | q
      ·exact .inr (by simp)
      ·exact .inl q
     ·exact .inr (by simp [q])
  ·rw [if_neg c]
   refine .inl ⟨rfl,.inr ⟨j,L[j],m,hr j _ e (by omega),h3,fun q=>c (.inr q)⟩⟩
include hN in
theorem visitG_spec {k:Nat} (hk:k < N) {L:List Int} {D:List Bool} {b:Bool} (w:RndG succ N L D) :
  (visitG succ k (L,D,b)=none∧BadG succ)∨∃ M E c,visitG succ k (L,D,b)=some (M,E,c)∧RndG succ N M E ∧
   ((M=L∧E=D∧c=b∧∀ n,L[k]? = some n→0≤n→D[k]? = some true)∨(c=true∧E.countP (fun x=>!x) < D.countP (fun x=>!x))):=by
 have h1:k < L.length:=by rw [w.len]; exact hk
 have h2:k < D.length:=by rw [w.dlen]; exact hk
 have e1:=List.getElem?_eq_getElem h1
 have e2:=List.getElem?_eq_getElem h2
 simp only [visitG,e1,e2]
 by_cases c:L[k] < 0∨D[k]=true
 ·rw [if_pos c]
  refine .inr ⟨L,D,b,rfl,w,.inl ⟨rfl,rfl,rfl,fun n hn h0=>?_⟩⟩
  cases hn
  rcases c with c | c
  ·omega
  ·rw [c]
 ·rw [if_neg c]
  have c1:0≤L[k]:=by omega
  have c2:D[k]=false:=by cases h:D[k] <;> simp_all
  have hr:=w.reach k _ e1 c1
  cases hs:succ k L[k] with
  | none=>exact .inl ⟨rfl,.inl ⟨k,_,hr,hs⟩⟩
  | some l=>
   simp only [Option.bind_some]
   rcases markG_spec l L (succ:=succ) (fun j m hm=>⟨by rw [w.len]; exact (hN _ _ _ _ _ hs hm).1,(hN _ _ _ _ _ hs hm).2,hr.step hs hm⟩) w.reach with ⟨q,bad⟩ | ⟨M,a1,a2,a3,a4,a5⟩
   ·exact .inl ⟨by rw [q]; rfl,bad⟩
   ·rw [a1]
    refine .inr ⟨M,D.set k true,true,rfl,⟨a2.trans w.len,by simpa using w.dlen,a4 _ _ w.start (Int.le_refl 0),fun x y hx hy=>?_,fun x y hx=>?_,fun x y hx hd=>?_⟩,.inr ⟨rfl,?_⟩⟩
    ·rcases a5 x y hx with q | q
     ·exact w.reach x y q hy
     ·exact hr.step hs q
    ·rcases a5 x y hx with q | q
     ·exact w.vals x y q
     ·exact .inr (hN _ _ _ _ _ hs q).2
    ·by_cases q:k=x
     ·subst q
      rw [a4 _ _ e1 c1] at hx
      cases hx
      exact ⟨c1,l,hs,a3⟩
     ·rw [List.getElem?_set_ne q] at hd
      have hx0:x < L.length:=by
       have:=(List.getElem?_eq_some_iff.mp hd).1
       rw [w.len,← w.dlen]; exact this
      obtain ⟨v1,l',v2,v3⟩:=w.done x _ (List.getElem?_eq_getElem hx0) hd
      have:=a4 _ _ (List.getElem?_eq_getElem hx0) v1
      rw [this] at hx; cases hx
      exact ⟨v1,l',v2,fun j m hm=>a4 j m (v3 j m hm) (hN _ _ _ _ _ v2 hm).2⟩
    ·rw [List.countP_set h2]
     have:0 < D.countP (fun x=>!x):=List.countP_pos_iff.mpr ⟨D[k],List.getElem_mem h2,by simp [c2]⟩
     simp only [c2,Bool.not_false,if_true,Bool.not_true]
     simp
     omega
include hN in
theorem roundG_spec:∀ (ks:List Nat) (L:List Int) (D:List Bool) (b:Bool),(∀ k ∈ ks,k < N)→RndG succ N L D →
  (roundG succ ks (L,D,b)=none∧BadG succ)∨∃ M E c,roundG succ ks (L,D,b)=some (M,E,c)∧RndG succ N M E ∧
   ((M=L∧E=D∧c=b∧∀ k ∈ ks,∀ n,L[k]? = some n→0≤n→D[k]? = some true)∨(c=true∧E.countP (fun x=>!x) < D.countP (fun x=>!x)))
 | [],L,D,b,_,w=>.inr ⟨L,D,b,rfl,w,.inl ⟨rfl,rfl,rfl,fun k hk=>by cases hk⟩⟩
 | k :: ks,L,D,b,hk,w=>by
  rw [roundG]
  rcases visitG_spec succ N hN (hk k (by simp)) w (b:=b) with ⟨q,bad⟩ | ⟨M,E,c,a1,a2,a3⟩
  ·exact .inl ⟨by rw [q]; rfl,bad⟩
  ·rw [a1]
   simp only [Option.bind_some]
   rcases roundG_spec ks M E c (fun x hx=>hk x (by simp [hx])) a2 with q | ⟨M',E',c',b1,b2,b3⟩
   ·exact .inl q
   ·refine .inr ⟨M',E',c',b1,b2,?_⟩
    rcases a3 with ⟨rfl,rfl,rfl,a3⟩ | ⟨rfl,a3⟩
    ·rcases b3 with ⟨rfl,rfl,rfl,b3⟩ | b3
     ·refine .inl ⟨rfl,rfl,rfl,fun x hx n h1 h2=>?_⟩
      rcases List.mem_cons.mp hx with rfl | hx
      ·exact a3 n h1 h2
      ·exact b3 x hx n h1 h2
     ·exact .inr b3
    ·rcases b3 with ⟨rfl,rfl,rfl,b3⟩ | ⟨rfl,b3⟩
     ·exact .inr ⟨rfl,a3⟩
     ·exact .inr ⟨rfl,by omega⟩
include hN in
theorem roundsG_ans:∀ (f:Nat) (L:List Int) (D:List Bool),RndG succ N L D→D.countP (fun x=>!x) < f→AnsG succ N (roundsG succ N f L D)
 | 0,_,_,_,h=>by omega
 | f + 1,L,D,w,h=>by
  rw [roundsG]
  rcases roundG_spec succ N hN (List.range N) L D false (fun k hk=>List.mem_range.mp hk) w with ⟨q,bad⟩ | ⟨M,E,c,a1,a2,a3⟩
  ·rw [q]; exact bad
  ·rw [a1]
   simp only [Option.bind_some]
   rcases a3 with ⟨rfl,rfl,rfl,a3⟩ | ⟨rfl,a3⟩
   ·rw [if_neg (by simp)]
    refine ⟨w.len,w.start,fun k n h1 h2=>?_,w.reach,w.vals⟩
    have hk:k < N:=by rw [← w.len]; exact (List.getElem?_eq_some_iff.mp h1).1
    exact (w.done k n h1 (a3 k (List.mem_range.mpr hk) n h1 h2)).2
   ·rw [if_pos rfl]
    exact roundsG_ans f M E a2 (by omega)
end
end Go.Ev.YtmljkoieihaomaaGreat
namespace Go.Ev.YtmljkoieihaomaaGreat
set_option linter.unusedVariables false
set_option linter.unusedSimpArgs false
set_option linter.unusedSectionVars false
set_option linter.defProp false
set_option maxHeartbeats 1000000
open Go.Ev
theorem entry_kind {p:List SConst} {x:SConst} (h:entryM p x=true):x.Kind=1∨x.Kind=2∨x.Kind=3∨x.Kind=4∨x.Kind=5∨x.Kind=6:=by
 unfold entryM at h
 repeat' split at h
 all_goals first | omega | (cases h; done)
theorem Fine.kind {p:List SConst} (h:Fine p) {i:Int} (hi:inR i 1 p.length=true):(cAt p i).Kind=1∨(cAt p i).Kind=2∨(cAt p i).Kind=3∨(cAt p i).Kind=4∨(cAt p i).Kind=5∨(cAt p i).Kind=6:=by
 simp only [inR,Bool.and_eq_true,decide_eq_true_eq] at hi
 have hl:(i - 1).toNat < p.length:=by omega
 have hm:cAt p i ∈ p:=by
  unfold cAt
  rw [if_pos hi,List.getElem?_eq_getElem hl]
  exact List.getElem_mem hl
 exact entry_kind (h.fine _ hm)
end Go.Ev.YtmljkoieihaomaaGreat
namespace Go.Ev.YtmljkoieihaomaaGreat
set_option linter.unusedVariables false
set_option linter.unusedSimpArgs false
set_option linter.unusedSectionVars false
set_option linter.defProp false
set_option maxHeartbeats 1000000
open Go.Ev
theorem c3 (l:List SLoader) (w:LoadersWf l):run E (exec E) true 3 [.list (l.map SLoader.row)]=some (.bool true):=by
 rw [run_ent,e3]
 have L0:Lv [] [] []:=Lv.nil []
 rw [pure_call (ds:=[.list (l.map SLoader.row),.int .i64 ((1048576:Int))]) (by simp only [readA_int,readA_bool,readA_str,readA_list,readA_sl0,readA_sl,readA_agg,readA_tup,optAll_cons,optAll_nil,readT_int,readT_list9,Option.bind_some]) (c5 l ((1048576:Int)) w (by omega) (by omega))]
 simp only [Option.bind_some,bI_lss,asB_bool]
 by_cases gsl:¬ ((szL SLoader.sz l:Nat):Int)≤(1048576:Int)
 ·rw [szR_neg gsl]; simp
 have gsl:=Decidable.not_not.mp gsl
 rw [szR_pos gsl]
 simp only [show ¬ (1048576:Int) - ((szL SLoader.sz l:Nat):Int) < 0 by omega,decide_false,cond_false]
 have gnl:=szL_len (n:=1048576) (f:=SLoader.sz) (l:=l) (by omega)
 have hfit:∀ x ∈ l,x.fit:=fun x hx=>⟨(w.2 x hx).1.1,(w.2 x hx).2.1.1⟩
 have hw:=worldNewM_fit w
 have hsz:=worldNewM_sz l
 obtain ⟨d2,H2,B2,q2,L2⟩:=L0.own (c7 l (by omega)) (by decide) (ds:=[.list (l.map SLoader.row)]) (by simp only [readA_int,readA_bool,readA_str,readA_list,readA_sl0,readA_sl,readA_agg,readA_tup,optAll_cons,optAll_nil,readT_int,readT_str,readT_bool,readT_list9,SWorld.readD,Option.bind_some])
 rw [q2]; simp only [Option.bind_some]
 have r2:=L2.reads; simp only [Reads,and_true] at r2
 obtain ⟨H3,q3,L3⟩:=L2.view (dead:=[(d2,.list (l.map SLoader.row),B2)]) (rest:=[]) (c6 l w) (ds:=[d2]) (by simp only [readA_int,readA_bool,readA_str,readA_list,readA_sl0,readA_sl,readA_agg,readA_tup,optAll_cons,optAll_nil,r2,readT_int,readT_str,readT_bool,readT_list9,SWorld.readD,Option.bind_some]) (by simp)
 rw [q3]; simp only [Option.bind_some]
 obtain ⟨H4,p4,q4,L4⟩:=L3.var [.sl0,.sl0,.sl0,.sl0] ((worldNewM l).row) 4 rfl rfl rfl rfl
 rw [q4]
 have l4_p4:ld true 4 H4 (.ptr p4 0 0)=some ((worldNewM l).d):=L4.ld (.head _) (rfl)
 try simp only [l4_p4,Option.bind_some]
 try simp only [l4_p4,Option.bind_some]
 obtain ⟨d6,H6,B6,q6,L6⟩:=L4.own (c7 l (by omega)) (by decide) (ds:=[.list (l.map SLoader.row)]) (by simp only [readA_int,readA_bool,readA_str,readA_list,readA_sl0,readA_sl,readA_agg,readA_tup,optAll_cons,optAll_nil,readT_int,readT_str,readT_bool,readT_list9,SWorld.readD,Option.bind_some])
 rw [q6]; simp only [Option.bind_some]
 have r6:=L6.reads; simp only [Reads,and_true] at r6
 have l6_p4:ld true 4 H6 (.ptr p4 0 0)=some ((worldNewM l).d):=L6.ld (.head _) (rfl)
 try simp only [l6_p4,Option.bind_some]
 try simp only [l6_p4,Option.bind_some]
 obtain ⟨d7,H7,B7,q7,L7⟩:=L6.own (c8 l w) (by decide) (ds:=[d6]) (by simp only [readA_int,readA_bool,readA_str,readA_list,readA_sl0,readA_sl,readA_agg,readA_tup,optAll_cons,optAll_nil,r6,readT_int,readT_str,readT_bool,readT_list9,SWorld.readD,Option.bind_some])
 rw [q7]; simp only [Option.bind_some]
 have r7:=L7.reads; simp only [Reads,and_true] at r7
 have l7_p4:ld true 4 H7 (.ptr p4 0 0)=some ((worldNewM l).d):=L7.ld (.head _) (rfl)
 try simp only [l7_p4,Option.bind_some]
 obtain ⟨cs8,rfl,n8,hc8⟩:=L7.agg' (d:=d7) (ts:=(worldNewM l).row) (B:=B7) (by simp)
 obtain ⟨H8,p8,q8,L8⟩:=L7.var [.sl0,.sl0,.sl0,.sl0] cs8 4 rfl rfl (n8.trans rfl) (hc8 rfl)
 rw [q8]
 have r8:=L8.reads; simp only [Reads,and_true] at r8
 have l8_p4:ld true 4 H8 (.ptr p4 0 0)=some ((worldNewM l).d):=L8.ld (.tail _ (.head _)) (rfl)
 have l8_p8:ld true 4 H8 (.ptr p8 0 0)=some ((.agg cs8)):=L8.ld (.head _) (n8.trans rfl)
 try simp only [l8_p4,l8_p8,Option.bind_some]
 try simp only [l8_p4,l8_p8,Option.bind_some]
 try simp only [l8_p4,l8_p8,Option.bind_some]
 rw [pure_call (ds:=[(.agg cs8),(worldNewM l).d]) (by simp only [readA_int,readA_bool,readA_str,readA_list,readA_sl0,readA_sl,readA_agg,readA_tup,optAll_cons,optAll_nil,r8,readT_int,readT_str,readT_bool,readT_list9,SWorld.readD,Option.bind_some]) (c9 (worldNewM l) (worldNewM l) (hw) (hw))]
 simp only [Option.bind_some,unOp_not,asB_bool,decide_true,Bool.not_true,cond_false,cond_true]
 try simp only [l8_p4,l8_p8,Option.bind_some]
 try simp only [l8_p4,l8_p8,Option.bind_some]
 obtain ⟨d10,H10,B10,q10,L10⟩:=L8.own (c7 l (by omega)) (by decide) (ds:=[.list (l.map SLoader.row)]) (by simp only [readA_int,readA_bool,readA_str,readA_list,readA_sl0,readA_sl,readA_agg,readA_tup,optAll_cons,optAll_nil,r8,readT_int,readT_str,readT_bool,readT_list9,SWorld.readD,Option.bind_some])
 rw [q10]; simp only [Option.bind_some]
 have r10:=L10.reads; simp only [Reads,and_true] at r10
 have l10_p4:ld true 4 H10 (.ptr p4 0 0)=some ((worldNewM l).d):=L10.ld (.tail _ (.head _)) (rfl)
 have l10_p8:ld true 4 H10 (.ptr p8 0 0)=some ((.agg cs8)):=L10.ld (.head _) (n8.trans rfl)
 try simp only [l10_p4,l10_p8,Option.bind_some]
 rw [pure_call (ds:=[d6,d10]) (by simp only [readA_int,readA_bool,readA_str,readA_list,readA_sl0,readA_sl,readA_agg,readA_tup,optAll_cons,optAll_nil,r10,readT_int,readT_str,readT_bool,readT_list9,SWorld.readD,Option.bind_some]) (c10 l l ⟨by omega,hfit⟩ ⟨by omega,hfit⟩)]
 simp only [Option.bind_some,unOp_not,asB_bool,decide_true,Bool.not_true,cond_false,cond_true]
 try simp only [l10_p4,l10_p8,Option.bind_some]
 try simp only [l10_p4,l10_p8,Option.bind_some]
 have hb11:=mkN_le (n:=SLoader.marks) (f:=SLoader.sz) (fun z=>SLoader.marks_le z) l
 obtain ⟨H11,q11,L11⟩:=L10.mark (pre:=[(d10,.list (l.map SLoader.row),B10),((.agg cs8),(worldNewM l).d,B7)]) (post:=[]) (xs:=l) (m11) (k:=(1:Int)) (by omega) (by omega)
 simp only [List.nil_append,List.cons_append] at L11
 rw [call_raw,q11]; simp only [Option.bind_some]
 have r11:=L11.reads; simp only [Reads,and_true] at r11
 have l11_p4:ld true 4 H11 (.ptr p4 0 0)=some ((worldNewM l).d):=L11.ld (.tail _ (.head _)) (rfl)
 have l11_p8:ld true 4 H11 (.ptr p8 0 0)=some ((.agg cs8)):=L11.ld (.head _) (n8.trans rfl)
 try simp only [l11_p4,l11_p8,Option.bind_some]
 try simp only [l11_p4,l11_p8,Option.bind_some]
 try simp only [l11_p4,l11_p8,Option.bind_some]
 simp only [bI_lss,Option.bind_some,asB_bool,show ¬ (1:Int) + ((mkN SLoader.marks l:Nat):Int) < 0 by omega,decide_false,cond_false]
 try simp only [l11_p4,l11_p8,Option.bind_some]
 rw [pure_call (ds:=[(.agg cs8),(worldNewM l).d]) (by simp only [readA_int,readA_bool,readA_str,readA_list,readA_sl0,readA_sl,readA_agg,readA_tup,optAll_cons,optAll_nil,r11,readT_int,readT_str,readT_bool,readT_list9,SWorld.readD,Option.bind_some]) (c9 (worldNewM l) (worldNewM l) (hw) (hw))]
 simp only [Option.bind_some,unOp_not,asB_bool,decide_true,Bool.not_true,cond_false,cond_true]
 try simp only [l11_p4,l11_p8,Option.bind_some]
 try simp only [l11_p4,l11_p8,Option.bind_some]
 have hb12:=SWorld.vmarks_le (worldNewM l)
 obtain ⟨H12,q12,L12⟩:=L11.markv (pre:=[(d10,.list (l.map SLoader.row),B10)]) (post:=[(d6,.list ((mkL SLoader.mark SLoader.marks ((1:Int)) l).map SLoader.row),B6)]) (x:=(worldNewM l)) (v12) (k:=(1:Int)) (by omega) (by omega)
 simp only [List.nil_append,List.cons_append] at L12
 rw [call_raw,q12]; simp only [Option.bind_some]
 have r12:=L12.reads; simp only [Reads,and_true] at r12
 have l12_p4:ld true 4 H12 (.ptr p4 0 0)=some ((worldNewM l).d):=L12.ld (.tail _ (.head _)) (rfl)
 have l12_p8:ld true 4 H12 (.ptr p8 0 0)=some ((.agg cs8)):=L12.ld (.head _) (n8.trans rfl)
 try simp only [l12_p4,l12_p8,Option.bind_some]
 try simp only [l12_p4,l12_p8,Option.bind_some]
 try simp only [l12_p4,l12_p8,Option.bind_some]
 rw [pure_call (ds:=[(.agg cs8),.int .i64 ((1:Int))]) (by simp only [readA_int,readA_bool,readA_str,readA_list,readA_sl0,readA_sl,readA_agg,readA_tup,optAll_cons,optAll_nil,r12,readT_int,readT_str,readT_bool,readT_list9,SWorld.readD,Option.bind_some]) (h13 (worldNewM l) ((1:Int)) (by omega) (by omega))]; simp only [Option.bind_some]
 try simp only [l12_p4,l12_p8,Option.bind_some]
 try simp only [l12_p4,l12_p8,Option.bind_some]
 try simp only [l12_p4,l12_p8,Option.bind_some]
 simp only [bI_lss,Option.bind_some,asB_bool,show ¬ (1:Int) + ((SWorld.vmarks (worldNewM l):Nat):Int) < 0 by omega,decide_false,cond_false]
 try simp only [l12_p4,l12_p8,Option.bind_some]
 try simp only [l12_p4,l12_p8,Option.bind_some]
 try simp only [bI_neq,bS_neq,bB_neq,beq_self_eq_true,decide_true,Bool.not_true,Option.bind_some,asB_bool,cond_false]
 try simp only [l12_p4,l12_p8,Option.bind_some]
 obtain ⟨d15,H15,B15,q15,L15⟩:=L12.own (c7 l (by omega)) (by decide) (ds:=[.list (l.map SLoader.row)]) (by simp only [readA_int,readA_bool,readA_str,readA_list,readA_sl0,readA_sl,readA_agg,readA_tup,optAll_cons,optAll_nil,r12,readT_int,readT_str,readT_bool,readT_list9,SWorld.readD,Option.bind_some])
 rw [q15]; simp only [Option.bind_some]
 have r15:=L15.reads; simp only [Reads,and_true] at r15
 have l15_p4:ld true 4 H15 (.ptr p4 0 0)=some ((worldNewM l).d):=L15.ld (.tail _ (.head _)) (rfl)
 have l15_p8:ld true 4 H15 (.ptr p8 0 0)=some ((.agg cs8)):=L15.ld (.head _) (n8.trans rfl)
 try simp only [l15_p4,l15_p8,Option.bind_some]
 obtain ⟨d16,H16,B16,q16,L16⟩:=L15.own (c8 l w) (by decide) (ds:=[d15]) (by simp only [readA_int,readA_bool,readA_str,readA_list,readA_sl0,readA_sl,readA_agg,readA_tup,optAll_cons,optAll_nil,r15,readT_int,readT_str,readT_bool,readT_list9,SWorld.readD,Option.bind_some])
 rw [q16]; simp only [Option.bind_some]
 have r16:=L16.reads; simp only [Reads,and_true] at r16
 have l16_p4:ld true 4 H16 (.ptr p4 0 0)=some ((worldNewM l).d):=L16.ld (.tail _ (.head _)) (rfl)
 have l16_p8:ld true 4 H16 (.ptr p8 0 0)=some ((.agg cs8)):=L16.ld (.head _) (n8.trans rfl)
 try simp only [l16_p4,l16_p8,Option.bind_some]
 obtain ⟨cs17,rfl,n17,hc17⟩:=L16.agg' (d:=d16) (ts:=(worldNewM l).row) (B:=B16) (by simp)
 obtain ⟨H17,p17,q17,L17⟩:=L16.var [.sl0,.sl0,.sl0,.sl0] cs17 4 rfl rfl (n17.trans rfl) (hc17 rfl)
 rw [q17]
 have r17:=L17.reads; simp only [Reads,and_true] at r17
 have l17_p4:ld true 4 H17 (.ptr p4 0 0)=some ((worldNewM l).d):=L17.ld (.tail _ (.tail _ (.head _))) (rfl)
 have l17_p8:ld true 4 H17 (.ptr p8 0 0)=some ((.agg cs8)):=L17.ld (.tail _ (.head _)) (n8.trans rfl)
 have l17_p17:ld true 4 H17 (.ptr p17 0 0)=some ((.agg cs17)):=L17.ld (.head _) (n17.trans rfl)
 try simp only [l17_p4,l17_p8,l17_p17,Option.bind_some]
 try simp only [l17_p4,l17_p8,l17_p17,Option.bind_some]
 try simp only [l17_p4,l17_p8,l17_p17,Option.bind_some]
 rw [pure_call (ds:=[(.agg cs17),(worldNewM l).d]) (by simp only [readA_int,readA_bool,readA_str,readA_list,readA_sl0,readA_sl,readA_agg,readA_tup,optAll_cons,optAll_nil,r17,readT_int,readT_str,readT_bool,readT_list9,SWorld.readD,Option.bind_some]) (c9 (worldNewM l) (worldNewM l) (hw) (hw))]
 simp only [Option.bind_some,unOp_not,asB_bool,decide_true,Bool.not_true,cond_false,cond_true]
 try simp only [l17_p4,l17_p8,l17_p17,Option.bind_some]
 try simp only [l17_p4,l17_p8,l17_p17,Option.bind_some]
 rw [pure_call (ds:=[(.agg cs8),.int .i64 ((1:Int))]) (by simp only [readA_int,readA_bool,readA_str,readA_list,readA_sl0,readA_sl,readA_agg,readA_tup,optAll_cons,optAll_nil,r17,readT_int,readT_str,readT_bool,readT_list9,SWorld.readD,Option.bind_some]) (h13 (worldNewM l) ((1:Int)) (by omega) (by omega))]; simp only [Option.bind_some]
 try simp only [l17_p4,l17_p8,l17_p17,Option.bind_some]
 try simp only [l17_p4,l17_p8,l17_p17,Option.bind_some]
 try simp only [l17_p4,l17_p8,l17_p17,Option.bind_some]
 simp only [bI_lss,Option.bind_some,asB_bool,show ¬ (1:Int) + ((SWorld.vmarks (worldNewM l):Nat):Int) < 0 by omega,decide_false,cond_false]
 try simp only [l17_p4,l17_p8,l17_p17,Option.bind_some]
 try simp only [l17_p4,l17_p8,l17_p17,Option.bind_some]
 try simp only [bI_neq,bS_neq,bB_neq,beq_self_eq_true,decide_true,Bool.not_true,Option.bind_some,asB_bool,cond_false]
 try simp only [l17_p4,l17_p8,l17_p17,Option.bind_some]
 simp only [readA_int,readA_bool,readA_str,readA_list,readA_sl0,readA_sl,readA_agg,readA_tup,ret_one,Option.bind_some,readT_bool]
end Go.Ev.YtmljkoieihaomaaGreat
