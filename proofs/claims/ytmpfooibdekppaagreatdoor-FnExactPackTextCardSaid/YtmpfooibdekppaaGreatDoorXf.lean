import Derived.Test.YtmpfooibdekppaaGreatDoorXc
namespace Go.Ev
set_option linter.unusedVariables false
set_option linter.unusedSimpArgs false
structure Fr (S:List Nat) (H H':Heap):Prop where
 len:H.length≤H'.length
 keep:∀ c,c < H.length→c ∉ S→getBlk H' c=getBlk H c
theorem Fr.refl (S:List Nat) (H:Heap):Fr S H H:=⟨Nat.le_refl _,fun _ _ _=>rfl⟩
theorem Fr.trans {S S' T : List Nat} {H H' H'' : Heap} (h : Fr S H H') (h' : Fr S' H' H'') (h1 : ∀ c ∈ S, c ∈ T ∨ H.length ≤ c) (h2 : ∀ c ∈ S', c ∈ T ∨ H.length ≤ c) : Fr T H H'' := by
 refine ⟨Nat.le_trans h.len h'.len,fun c hc hT=>?_⟩
 have:=h.len
 rw [h'.keep c (by omega) fun e=>(h2 c e).elim hT (by omega),h.keep c hc fun e=>(h1 c e).elim hT (by omega)]
theorem Fr.mono {S T:List Nat} {H H':Heap} (h:Fr S H H') (hs:∀ c ∈ S,c ∈ T∨H.length≤c):Fr T H H':=h.trans (Fr.refl [] H') hs (fun c hc=>by cases hc)
theorem Fr.alloc (S:List Nat) (H K:Heap):Fr S H (H++K):=⟨by simp,fun c hc _=>getBlk_left hc⟩
theorem Fr.set (H:Heap) (b:Nat) (x:Option Rows):Fr [b] H (H.set b x):=⟨by simp,fun c hc hb=>getBlk_ne (by simpa using hb)⟩
theorem Fr.rep {S:List Nat} {H H':Heap} (h:Fr S H H') {o:Bool} {n:Nat} {d t:D} {B:List Nat} (hr:RepT o H n d t B) (hb:∀ c ∈ B,c < H.length∧c ∉ S):RepT o H' n d t B:=
 hr.frame fun c hc=>h.keep c (hb c hc).1 (hb c hc).2
theorem FreshB.fr {H H':Heap} {B:List Nat} (h:FreshB H H' B):Fr [] H H':=⟨h.len,fun c hc _=>h.keep hc⟩
inductive Cell
 | own (t:D)
 | raw (d:D)
inductive RepO (H:Heap) (n:Nat):List D→List Cell→List Nat→Prop
 | nil:RepO H n [] [] []
 | some {d t ds ts B B'} (h:RepT true H n d t B) (hn:t = .list []→d = .sl0) (hc:t.isCell=true) (hs:RepO H n ds ts B'):RepO H n (d :: ds) (.own t :: ts) (B++B')
 | none {d ds ts B} (hc:d.isCell=true) (hs:RepO H n ds ts B):RepO H n (d :: ds) (.raw d :: ts) B
theorem RepO.frame {H H':Heap} {n:Nat}:∀ {ds ts B},RepO H n ds ts B→(∀ b ∈ B,getBlk H' b=getBlk H b)→RepO H' n ds ts B
 | _,_,_,.nil,_=>.nil
 | _,_,_,.some h hn hc hs,hf=>.some (h.frame fun b hb=>hf b (by simp [hb])) hn hc (hs.frame fun b hb=>hf b (by simp [hb]))
 | _,_,_,.none hc hs,hf=>.none hc (hs.frame hf)
theorem RepO.length {H:Heap} {n:Nat}:∀ {ds ts B},RepO H n ds ts B→ds.length=ts.length
 | _,_,_,.nil=>rfl
 | _,_,_,.some _ _ _ hs=>by simp [hs.length]
 | _,_,_,.none _ hs=>by simp [hs.length]
theorem RepO.cells {H:Heap} {n:Nat}:∀ {ds ts B},RepO H n ds ts B→ds.all D.isCell=true
 | _,_,_,.nil=>rfl
 | _,_,_,.some h _ hc hs=>by simp [hs.cells,h.cell hc]
 | _,_,_,.none hc hs=>by simp [hs.cells,hc]
theorem RepO.all {H:Heap} {n:Nat}:∀ {ds:List D} {ts:List D} {B},RepO H n ds (ts.map Cell.own) B→RepR true H n ds ts B
 | _,[],_,.nil=>.nil
 | _,_ :: _,_,.some h _ _ hs=>.cons h hs.all
theorem RepO.of {H:Heap} {n:Nat}:∀ {ds:List D} {ts:List D} {B},RepR true H n ds ts B→ts.all D.isCell=true→(∀ f:Nat,ts[f]? = Option.some (D.list [])→ds[f]? = Option.some D.sl0)→RepO H n ds (ts.map Cell.own) B
 | _,_,_,.nil,_,_=>.nil
 | _,_,_,.cons h hs,hc,hn=>by
  simp only [List.all_cons,Bool.and_eq_true] at hc
  exact .some h (fun e=>by subst e; have:=hn 0 rfl; simpa using this) hc.1 (RepO.of hs hc.2 fun f hf=>by have:=hn (f + 1) (by simpa using hf); simpa using this)
theorem RepO.up {H:Heap} {n N:Nat} (hN:n≤N):∀ {ds ts B},RepO H n ds ts B→RepO H N ds ts B
 | _,_,_,.nil=>.nil
 | _,_,_,.some h hn hc hs=>.some (h.up hN) hn hc (hs.up hN)
 | _,_,_,.none hc hs=>.none hc (hs.up hN)
theorem RepO.get {H:Heap} {n:Nat}:∀ {ds ts B},RepO H n ds ts B→∀ {f:Nat} {t:D},ts[f]? = Option.some (Cell.own t)→∃ d Bf Br,ds[f]? = Option.some d∧RepT true H n d t Bf∧(t = .list []→d = .sl0)∧t.isCell=true∧B.Perm (Bf++Br)∧RepO H n ds (ts.set f (.raw d)) Br
 | _,_,_,.nil,f,t,h=>by simp at h
 | _,_,_,.some (B:=B) (B':=B') h hn hc hs,0,t,ht=>by
  simp at ht; subst ht
  exact ⟨_,B,B',rfl,h,hn,hc,List.Perm.refl _,.none (h.cell hc) hs⟩
 | _,_,_,.some (B:=B) (B':=B') h hn hc hs,f + 1,t,ht=>by
  obtain ⟨d',Bf,Br,h1,h2,h3,h4,h5,h6⟩:=hs.get (f:=f) (t:=t) (by simpa using ht)
  refine ⟨d',Bf,B++Br,by simpa using h1,h2,h3,h4,?_,.some h hn hc h6⟩
  refine (List.Perm.append_left B h5).trans ?_
  rw [← List.append_assoc,← List.append_assoc]
  exact List.Perm.append_right _ List.perm_append_comm
 | _,_,_,.none hc hs,0,t,ht=>by simp at ht
 | _,_,_,.none hc hs,f + 1,t,ht=>by
  obtain ⟨d',Bf,Br,h1,h2,h3,h4,h5,h6⟩:=hs.get (f:=f) (t:=t) (by simpa using ht)
  exact ⟨d',Bf,Br,by simpa using h1,h2,h3,h4,h5,.none hc h6⟩
theorem RepO.put {H:Heap} {n:Nat}:∀ {ds ts B},RepO H n ds ts B→∀ {f:Nat},f < ts.length→∀ {d t:D} {B1:List Nat},RepT true H n d t B1→(t = .list []→d = .sl0)→t.isCell=true→∃ B2 Bo,RepO H n (ds.set f d) (ts.set f (.own t)) B2∧(B2++Bo).Perm (B1++B)
 | _,_,_,.nil,f,hf,_,_,_,_,_,_=>by simp at hf
 | _,_,_,.some (B:=B) (B':=B') h hn hc hs,0,hf,d,t,B1,hr,h1,h2=>⟨B1++B',B,.some hr h1 h2 hs,by
  rw [List.append_assoc]
  exact List.Perm.append_left _ List.perm_append_comm⟩
 | _,_,_,.some (B:=B) (B':=B') h hn hc hs,f + 1,hf,d,t,B1,hr,h1,h2=>by
  obtain ⟨B2,Bo,g1,g2⟩:=hs.put (f:=f) (by simpa using hf) hr h1 h2
  refine ⟨B++B2,Bo,.some h hn hc g1,?_⟩
  rw [List.append_assoc]
  refine (List.Perm.append_left B g2).trans ?_
  rw [← List.append_assoc,← List.append_assoc]
  exact List.Perm.append_right _ List.perm_append_comm
 | _,_,_,.none hc hs,0,hf,d,t,B1,hr,h1,h2=>⟨_,[],.some hr h1 h2 hs,by simp⟩
 | _,_,_,.none hc hs,f + 1,hf,d,t,B1,hr,h1,h2=>by
  obtain ⟨B2,Bo,g1,g2⟩:=hs.put (f:=f) (by simpa using hf) hr h1 h2
  exact ⟨B2,Bo,.none hc g1,g2⟩
inductive Asset
 | val (n:Nat) (d t:D)
 | var (n b:Nat) (ts:List Cell)
def Nice (d t:D):Prop:=(t = .list []→d = .sl0)∧∀ cs ts,d = .agg cs→t = .agg ts→(∀ f:Nat,ts[f]? = some (D.list [])→cs[f]? = some D.sl0)∧ts.all D.isCell=true
theorem Nice.cell {d t:D} (h:t = .list []→d = .sl0) (ht:t.isCell=true):Nice d t:=⟨h,fun cs ts _ e=>by subst e; cases ht⟩
theorem Nice.agg {cs ts:List D} (h:∀ f:Nat,ts[f]? = some (D.list [])→cs[f]? = some D.sl0) (hc:ts.all D.isCell=true):Nice (.agg cs) (.agg ts):=⟨fun e=>(by cases e),fun _ _ e1 e2=>by cases e1; cases e2; exact ⟨h,hc⟩⟩
def Asset.holds (H:Heap) (B:List Nat):Asset→Prop
 | .val n d t=>RepT true H n d t B∧Nice d t
 | .var n b ts=>∃ cs B',B=b :: B'∧getBlk H b=some [cs]∧RepO H n cs ts B'
theorem Asset.frame {H H':Heap} {B:List Nat}:∀ {a:Asset},a.holds H B→(∀ b ∈ B,getBlk H' b=getBlk H b)→a.holds H' B
 | .val n d t,⟨h,h0⟩,hf=>⟨h.frame hf,h0⟩
 | .var n b ts,⟨cs,B',e,h1,h2⟩,hf=>⟨cs,B',e,(hf b (by simp [e])).trans h1,h2.frame fun c hc=>hf c (by simp [e,hc])⟩
def OwnB (H:Heap):List Asset→List Nat→Prop
 | [],B=>B=[]
 | a :: L,B=>∃ B1 B2,B=B1++B2∧a.holds H B1∧OwnB H L B2
theorem OwnB.frame {H H':Heap}:∀ {L:List Asset} {B:List Nat},OwnB H L B→(∀ b ∈ B,getBlk H' b=getBlk H b)→OwnB H' L B
 | [],_,h,_=>h
 | _ :: _,_,⟨B1,B2,e,h1,h2⟩,hf=>⟨B1,B2,e,Asset.frame h1 fun c hc=>hf c (by simp [e,hc]),OwnB.frame h2 fun c hc=>hf c (by simp [e,hc])⟩
theorem OwnB.append {H:Heap}:∀ {L L':List Asset} {B B':List Nat},OwnB H L B→OwnB H L' B'→OwnB H (L++L') (B++B')
 | [],_,_,_,h,h'=>by rw [h]; exact h'
 | _ :: _,_,_,_,⟨B1,B2,e,h1,h2⟩,h'=>⟨B1,B2++_,by rw [e,List.append_assoc],h1,OwnB.append h2 h'⟩
theorem OwnB.cut {H:Heap}:∀ {L L':List Asset} {B:List Nat},OwnB H (L++L') B→∃ B1 B2,B=B1++B2∧OwnB H L B1∧OwnB H L' B2
 | [],_,B,h=>⟨[],B,rfl,rfl,h⟩
 | _ :: _,_,_,⟨B1,B2,e,h1,h2⟩=>by
  obtain ⟨B3,B4,e2,h3,h4⟩:=OwnB.cut h2
  exact ⟨B1++B3,B4,by rw [e,e2,List.append_assoc],⟨B1,B3,rfl,h1,h3⟩,h4⟩
def Own (H:Heap) (L:List Asset):Prop:=∃ B,OwnB H L B∧B.Nodup∧∀ c ∈ B,c < H.length
theorem Own.nil (H:Heap):Own H []:=⟨[],rfl,List.nodup_nil,fun c hc=>by cases hc⟩
theorem Own.upd {H:Heap} {La L:List Asset} (h:Own H (La++L)):∃ B1,OwnB H La B1∧B1.Nodup∧(∀ c ∈ B1,c < H.length) ∧
  ∀ {H':Heap} {La':List Asset} {B1':List Nat},Fr B1 H H'→OwnB H' La' B1'→B1'.Nodup→(∀ c ∈ B1',c < H'.length∧(c ∈ B1∨H.length≤c))→Own H' (La'++L):=by
 obtain ⟨B,h1,h2,h3⟩:=h
 obtain ⟨B1,B2,rfl,h4,h5⟩:=OwnB.cut h1
 have hn:=List.nodup_append.mp h2
 refine ⟨B1,h4,hn.1,fun c hc=>h3 c (by simp [hc]),fun {H' La' B1'} fr ho hn' hl=>⟨B1'++B2,ho.append (h5.frame fun c hc=>fr.keep c (h3 c (by simp [hc])) fun e=>hn.2.2 c e c hc rfl),?_,fun c hc=>?_⟩⟩
 ·rw [List.nodup_append]
  refine ⟨hn',hn.2.1,fun x hx y hy e=>?_⟩
  subst e
  rcases (hl x hx).2 with h | h
  ·exact hn.2.2 x h x hy rfl
  ·have:=h3 x (by simp [hy]); omega
 ·rcases List.mem_append.mp hc with hc | hc
  ·exact (hl c hc).1
  ·have:=h3 c (by simp [hc]); have:=fr.len; omega
theorem Own.perm {H:Heap} {L L':List Asset} (hp:L.Perm L'):Own H L→Own H L':=by
 rintro ⟨B,h1,h2,h3⟩
 have:∀ {L L':List Asset},L.Perm L'→∀ {B},OwnB H L B→∃ B',OwnB H L' B'∧B.Perm B':=by
  intro L L' hp
  induction hp with
  | nil=>intro B h; exact ⟨B,h,List.Perm.refl _⟩
  | cons a _ ih=>
   rintro B ⟨B1,B2,rfl,h1,h2⟩
   obtain ⟨B',g1,g2⟩:=ih h2
   exact ⟨B1++B',⟨B1,B',rfl,h1,g1⟩,List.Perm.append_left _ g2⟩
  | swap a b l=>
   rintro B ⟨B1,B2,rfl,h1,B3,B4,rfl,h3,h4⟩
   refine ⟨B3++(B1++B4),⟨B3,_,rfl,h3,B1,B4,rfl,h1,h4⟩,?_⟩
   rw [← List.append_assoc,← List.append_assoc]
   exact List.Perm.append_right _ List.perm_append_comm
  | trans _ _ ih1 ih2=>
   intro B h
   obtain ⟨B1,g1,g2⟩:=ih1 h
   obtain ⟨B2,g3,g4⟩:=ih2 g1
   exact ⟨B2,g3,g2.trans g4⟩
 obtain ⟨B',g1,g2⟩:=this hp h1
 exact ⟨B',g1,g2.nodup_iff.mp h2,fun c hc=>h3 c (g2.mem_iff.mpr hc)⟩
theorem Own.pull1 {H:Heap} {a b:Asset} {L:List Asset} (h:Own H (a :: b :: L)):Own H (b :: a :: L):=h.perm (List.Perm.swap _ _ _)
theorem Own.pull2 {H:Heap} {a b c:Asset} {L:List Asset} (h:Own H (a :: b :: c :: L)):Own H (c :: a :: b :: L):=
 h.perm (((List.Perm.swap _ _ _).cons a).trans (List.Perm.swap _ _ _))
theorem Own.pull3 {H:Heap} {a b c d:Asset} {L:List Asset} (h:Own H (a :: b :: c :: d :: L)):Own H (d :: a :: b :: c :: L):=
 h.perm ((((List.Perm.swap _ _ _).cons b).cons a).trans (((List.Perm.swap _ _ _).cons a).trans (List.Perm.swap _ _ _)))
theorem Own.pull {H:Heap} {a:Asset} (pre:List Asset) {post:List Asset} (h:Own H (pre++a :: post)):Own H (a :: (pre++post)):=h.perm List.perm_middle
theorem Own.drop {H:Heap} {a:Asset} {L:List Asset} (h:Own H (a :: L)):Own H L:=by
 obtain ⟨B1,h1,h2,h3,h4⟩:=Own.upd (La:=[a]) h
 exact h4 (La':=[]) (Fr.refl _ H) rfl List.nodup_nil (fun c hc=>by cases hc)
theorem Own.alloc {H:Heap} {L:List Asset} (h:Own H L) (n:Nat) {cs ts:List D} (hr:RepR true H n cs ts []) (hc:ts.all D.isCell=true) (h0:∀ f:Nat,ts[f]? = some (D.list [])→cs[f]? = some D.sl0):Own (H++[some [cs]]) (.var n H.length (ts.map Cell.own) :: L):=by
 obtain ⟨B1,h1,h2,h3,h4⟩:=Own.upd (La:=[]) h
 exact h4 (La':=[_]) (Fr.alloc _ _ _) ⟨[H.length],[],rfl,⟨cs,[],rfl,getBlk_self H _ [],RepO.of (hr.frame fun c hc=>by cases hc) hc h0⟩,rfl⟩ (by simp) (fun c hc=>by simp at hc; subst hc; simp)
theorem Own.ld {H:Heap} {L:List Asset} {n b:Nat} {ts:List Cell} (h:Own H (.var n b ts :: L)) {f:Nat} {t:D} (ht:ts[f]? = some (Cell.own t)) (hs:t.scalar=true):Ev.ld false 1 H (.ptr b 0 f)=some t:=by
 obtain ⟨B,⟨B1,B2,_,⟨cs,B',_,g1,g2⟩,_⟩,_⟩:=h
 obtain ⟨d,Bf,Br,k1,k2,-⟩:=g2.get ht
 rw [ld_ptr g1 rfl]
 simp [part,k1,(k2.val hs).1]
theorem RepO.rawAt {H:Heap} {n:Nat}:∀ {ds ts B},RepO H n ds ts B→∀ {f:Nat} {d:D},ts[f]? = Option.some (Cell.raw d)→ds[f]? = Option.some d
 | _,_,_,.nil,f,d,h=>by simp at h
 | _,_,_,.some _ _ _ hs,0,d,h=>by simp at h
 | _,_,_,.none hc hs,0,d,h=>by simp at h; subst h; rfl
 | _,_,_,.some _ _ _ hs,f + 1,d,h=>by simpa using hs.rawAt (f:=f) (by simpa using h)
 | _,_,_,.none hc hs,f + 1,d,h=>by simpa using hs.rawAt (f:=f) (by simpa using h)
theorem Own.ldraw {H:Heap} {L:List Asset} {n b:Nat} {ts:List Cell} (h:Own H (.var n b ts :: L)) {f:Nat} {d:D} (ht:ts[f]? = some (Cell.raw d)):Ev.ld false 1 H (.ptr b 0 f)=some d:=by
 obtain ⟨B,⟨B1,B2,_,⟨cs,B',_,g1,g2⟩,_⟩,_⟩:=h
 rw [ld_ptr g1 rfl]
 simp [part,g2.rawAt ht]
theorem rep_same {H:Heap} {n:Nat} {d:D} {rows:Rows} {B:List Nat} (h:RepT true H n d (.list rows) B):sameD d d=true:=by
 cases h with
 | sc h=>cases h
 | sl0=>rfl
 | fz h=>cases h
 | sl h1 h2=>simp [sameD]
theorem again_same {d:D} (h:sameD d d=true) (k:R):again d d k=k:=by unfold again; rw [h]; rfl
theorem set_take {cs:List D} {f:Nat} (hf:f < cs.length) {v:D} (hv:v.cells=[v]):cs.take f++v.cells++cs.drop (f + 1)=cs.set f v:=by
 rw [hv,List.set_eq_take_append_cons_drop,if_pos hf]; simp
theorem scalar_cell {v:D} (hv:v.scalar=true):v.isCell=true:=by cases v <;> first | rfl | (cases hv; done)
theorem Own.take {H:Heap} {L:List Asset} {n b:Nat} {ts:List Cell} (h:Own H (.var n b ts :: L)) {f:Nat} {t:D} (ht:ts[f]? = some (Cell.own t)):∃ d,Ev.ld false 1 H (.ptr b 0 f)=some d∧Own H (.val n d t :: .var n b (ts.set f (.raw d)) :: L):=by
 obtain ⟨B1,⟨B2,_,rfl,⟨cs,B',rfl,g1,g2⟩,rfl⟩,h2,h3,h4⟩:=Own.upd (La:=[_]) h
 obtain ⟨d,Bf,Br,k1,k2,k3,k4,k5,k6⟩:=g2.get ht
 refine ⟨d,by rw [ld_ptr g1 rfl]; simp [part,k1],?_⟩
 rw [List.append_nil] at h2 h3 h4
 have hp:(b :: B').Perm (Bf++b :: Br):=(k5.cons b).trans (List.perm_middle.symm)
 refine h4 (La':=[_,_]) (B1':=Bf++b :: Br) (Fr.refl _ H) ⟨Bf,_,rfl,⟨k2,Nice.cell k3 k4⟩,b :: Br,[],by simp,⟨cs,Br,rfl,g1,k6⟩,rfl⟩ (hp.nodup_iff.mp h2) (fun c hc=>?_)
 have:=hp.mem_iff.mpr hc
 exact ⟨h3 c this,.inl this⟩
theorem Own.put {H:Heap} {L:List Asset} {m n b:Nat} {ts:List Cell} {d t:D} (h:Own H (.val m d t :: .var n b ts :: L)) (hm:m≤n) {f:Nat} (hf:f < ts.length) (hc:t.isCell=true) (hd:d.cells=[d]):∃ H',st 1 H (.ptr b 0 f) d=some H'∧Own H' (.var n b (ts.set f (.own t)) :: L):=by
 obtain ⟨B1,⟨B2,_,rfl,⟨r1,r2⟩,_,_,rfl,⟨cs,B',rfl,g1,g2⟩,rfl⟩,h2,h3,h4⟩:=Own.upd (La:=[_,_]) h
 rw [List.append_nil] at h2 h3 h4
 have hlen:=g2.length
 have hcell:=r1.cell hc
 have hst:=st_ptr (z:=1) (f:=f) (v:=d) g1 (i:=0) (row:=cs) rfl (by rw [hd]; rfl) (by rw [hd]; simp [hcell]) (by omega)
 rw [set_take (by omega) hd] at hst
 have hnd:=List.nodup_append.mp h2
 have hb:b ∉ B2∧b ∉ B':=⟨fun e=>hnd.2.2 b e b (by simp) rfl,(List.nodup_cons.mp hnd.2.1).1⟩
 obtain ⟨B3,Bo,k1,k2⟩:=(g2.frame (H':=H.set b (some ([cs].set 0 (cs.set f d)))) fun c hc=>getBlk_ne (by rintro rfl; exact hb.2 hc)).put (f:=f) hf ((r1.up hm).frame fun c hc=>getBlk_ne (by rintro rfl; exact hb.1 hc)) r2.1 hc
 have hmem:∀ c ∈ B3,c ∈ B2∨c ∈ B':=fun c hc=>List.mem_append.mp (k2.mem_iff.mp (by simp [hc]))
 have hnd3:B3.Nodup:=(List.nodup_append.mp (k2.nodup_iff.mpr (List.nodup_append.mpr ⟨hnd.1,(List.nodup_cons.mp hnd.2.1).2,fun x hx y hy=>hnd.2.2 x hx y (by simp [hy])⟩))).1
 refine ⟨_,hst,h4 (La':=[_]) (B1':=b :: B3) ((Fr.set _ _ _).mono fun c hc=>by simp at hc; subst hc; exact .inl (by simp)) ⟨b :: B3,[],by simp,⟨cs.set f d,B3,rfl,by rw [getBlk_set_self (getBlk_lt' g1)]; rfl,k1⟩,rfl⟩ ?_ (fun c hc=>?_)⟩
 ·exact List.nodup_cons.mpr ⟨fun e=>(hmem b e).elim hb.1 hb.2,hnd3⟩
 ·have:c ∈ B2++b :: B':=by
   rcases List.mem_cons.mp hc with rfl | hc
   ·simp
   ·rcases hmem c hc with h | h <;> simp [h]
  exact ⟨by rw [List.length_set]; exact h3 c this,.inl this⟩
theorem Own.sc {H:Heap} {L:List Asset} (h:Own H L) (n:Nat) {v:D} (hv:v.scalar=true):Own H (.val n v v :: L):=by
 obtain ⟨B1,h1,h2,h3,h4⟩:=Own.upd (La:=[]) h
 refine h4 (La':=[_]) (B1':=[]) (Fr.refl _ H) ⟨[],[],rfl,⟨.sc hv,Nice.cell (fun e=>by subst e; cases hv) (scalar_cell hv)⟩,rfl⟩ List.nodup_nil (fun c hc=>by cases hc)
theorem Own.sl0 {H:Heap} {L:List Asset} (h:Own H L) (n:Nat):Own H (.val (n + 1) .sl0 (.list []) :: L):=by
 obtain ⟨B1,h1,h2,h3,h4⟩:=Own.upd (La:=[]) h
 exact h4 (La':=[_]) (B1':=[]) (Fr.refl _ H) ⟨[],[],rfl,⟨.sl0,Nice.cell (fun _=>rfl) rfl⟩,rfl⟩ List.nodup_nil (fun c hc=>by cases hc)
theorem Own.val {H:Heap} {L:List Asset} {n:Nat} {d t:D} (h:Own H (.val n d t :: L)):∃ B,RepT true H n d t B∧B.Nodup:=by
 obtain ⟨B1,⟨B2,_,rfl,⟨g1,g2⟩,rfl⟩,h2,-⟩:=Own.upd (La:=[_]) h
 exact ⟨B2,g1,by simpa using h2⟩
theorem Own.st {H:Heap} {L:List Asset} {n b:Nat} {ts:List Cell} (h:Own H (.var n b ts :: L)) {f:Nat} (hf:f < ts.length) {v:D} (hv:v.scalar=true) (hc:v.cells=[v]):∃ H',Ev.st 1 H (.ptr b 0 f) v=some H'∧Own H' (.var n b (ts.set f (.own v)) :: L):=
 (h.sc n hv).put (Nat.le_refl n) hf (scalar_cell hv) hc
theorem RepO.nil0 {H:Heap} {n:Nat}:∀ {ds:List D} {ts:List D} {B},RepO H n ds (ts.map Cell.own) B→∀ f:Nat,ts[f]? = Option.some (D.list [])→ds[f]? = Option.some D.sl0
 | _,[],_,.nil,f,h=>by simp at h
 | _,_ :: _,_,.some _ hn _ hs,0,h=>by simp at h; subst h; simp [hn rfl]
 | _,_ :: _,_,.some _ _ _ hs,f + 1,h=>by simpa using hs.nil0 f (by simpa using h)
theorem RepO.isCells {H:Heap} {n:Nat}:∀ {ds:List D} {ts:List D} {B},RepO H n ds (ts.map Cell.own) B→ts.all D.isCell=true
 | _,[],_,.nil=>rfl
 | _,_ :: _,_,.some _ _ hc hs=>by simp [hc,hs.isCells]
theorem Own.whole {H:Heap} {L:List Asset} {n b:Nat} {ts:List D} (h:Own H (.var n b (ts.map Cell.own) :: L)) {z:Nat} (hz:ts.length=z):∃ cs,Ev.ld true z H (.ptr b 0 0)=some (.agg cs)∧Own H (.val (n + 1) (.agg cs) (.agg ts) :: L)∧(∀ f:Nat,ts[f]? = some (D.list [])→cs[f]? = some D.sl0)∧ts.all D.isCell=true:=by
 obtain ⟨B1,⟨B2,_,rfl,⟨cs,B',rfl,g1,g2⟩,rfl⟩,h2,h3,h4⟩:=Own.upd (La:=[_]) h
 rw [List.append_nil] at h2 h3 h4
 have hl:=g2.length
 rw [List.length_map] at hl
 refine ⟨cs,?_,h4 (La':=[_]) (B1':=B') (Fr.refl _ H) ⟨B',[],by simp,⟨.agg g2.all,Nice.agg g2.nil0 g2.isCells⟩,rfl⟩ (List.nodup_cons.mp h2).2 (fun c hc=>⟨h3 c (by simp [hc]),.inl (by simp [hc])⟩),g2.nil0,g2.isCells⟩
 rw [ld_ptr g1 rfl,part_agg,if_pos (by omega)]
 simp [← hz,← hl]
theorem Own.lit {H:Heap} {L:List Asset} (h:Own H L) {n:Nat} {cs ts:List D} (hr:RepR true H n cs ts []) (hc:ts.all D.isCell=true) (h0:∀ f:Nat,ts[f]? = some (D.list [])→cs[f]? = some D.sl0):Own H (.val (n + 1) (.agg cs) (.agg ts) :: L):=by
 obtain ⟨B1,h1,h2,h3,h4⟩:=Own.upd (La:=[]) h
 exact h4 (La':=[_]) (B1':=[]) (Fr.refl _ H) ⟨[],[],rfl,⟨.agg hr,Nice.agg h0 hc⟩,rfl⟩ List.nodup_nil (fun c hc=>by cases hc)
theorem Own.over {H:Heap} {L:List Asset} {m n b:Nat} {ts0:List Cell} {cs ts:List D} (h:Own H (.val (m + 1) (.agg cs) (.agg ts) :: .var n b ts0 :: L)) (hm:m≤n) {z:Nat} (hz:ts.length=z) (hz0:ts0.length=z):∃ H',Ev.st z H (.ptr b 0 0) (.agg cs)=some H'∧Own H' (.var n b (ts.map Cell.own) :: L)∧Ev.ld true z H' (.ptr b 0 0)=some (.agg cs):=by
 obtain ⟨B1,⟨B2,_,rfl,⟨r1,r2⟩,_,_,rfl,⟨cs0,B',rfl,g1,g2⟩,rfl⟩,h2,h3,h4⟩:=Own.upd (La:=[_,_]) h
 rw [List.append_nil] at h2 h3 h4
 have hnd:=List.nodup_append.mp h2
 have hb:b ∉ B2:=fun e=>hnd.2.2 b e b (by simp) rfl
 have hl0:=g2.length
 obtain ⟨h0,hc⟩:=r2.2 cs ts rfl rfl
 cases r1 with
 | sc hx=>cases hx
 | agg r=>
  have hl:=r.length
  have hst:=st_ptr (z:=z) (f:=0) (v:=.agg cs) g1 (i:=0) (row:=cs0) rfl (by simp [D.cells]; omega) (by simpa [D.cells] using r.cells hc) (by omega)
  have e:cs0.take 0++(D.agg cs).cells++cs0.drop (0 + z)=cs:=by
   rw [List.drop_of_length_le (by omega)]; simp [D.cells]
  rw [e] at hst
  have hg:getBlk (H.set b (some ([cs0].set 0 cs))) b=some [cs]:=by rw [getBlk_set_self (getBlk_lt' g1)]; rfl
  refine ⟨_,hst,h4 (La':=[_]) (B1':=b :: B2) ((Fr.set _ _ _).mono fun c hc=>by simp at hc; subst hc; exact .inl (by simp)) ⟨b :: B2,[],by simp,⟨cs,B2,rfl,hg,RepO.up hm (RepO.of (r.frame fun c hc=>getBlk_ne (by rintro rfl; exact hb hc)) hc h0)⟩,rfl⟩ (List.nodup_cons.mpr ⟨hb,hnd.1⟩) (fun c hc=>?_),?_⟩
  ·have:c ∈ B2++b :: B':=by rcases List.mem_cons.mp hc with rfl | hc <;> simp [*]
   exact ⟨by rw [List.length_set]; exact h3 c this,.inl this⟩
  ·rw [ld_ptr hg rfl,part_agg,if_pos (by omega)]
   simp [← hz,← hl]
theorem RepT.app {H:Heap} {n:Nat} {d:D} {rows:Rows} {Bd:List Nat} (hd:RepT true H (n + 1) d (.list rows) Bd) (hne:rows=[]→d = .sl0) (hnd:Bd.Nodup) (hlt:∀ c ∈ Bd,c < H.length)
  {v:D} {t:List D} {B1:List Nat} (hv:RepR true H n v.cells t B1) (hn1:B1.Nodup) (hl1:∀ c ∈ B1,c < H.length∧c ∉ Bd) {esz eb:Nat} {zero:List D} (he:t.length=esz) (hesz:esz≤65536) (hz:zero.all D.isCell=true) (hc:t.all D.isCell=true) (hrows:∀ r ∈ rows,r.length=esz) (hm:(rows.length + 1) * (eb + 1)≤maxLen) :
  ∃ d2 H2 B2,bsl esz zero H 1 [(0,v)]=some (.sl H.length 0 1,H++[some [v.cells]])∧Ev.app esz eb (H++[some [v.cells]]) d (.sl H.length 0 1)=some (d2,H2)∧RepT true H2 (n + 1) d2 (.list (rows++[t])) B2∧B2.Nodup∧Fr Bd H H2∧(∀ c ∈ B2,c < H2.length∧(c ∈ Bd∨c ∈ B1∨H.length≤c))∧d2.cells=[d2]:=by
 have hvl:v.cells.length=esz:=by rw [hv.length,he]
 have hb:=bsl_one (H:=H) hesz hz hvl (hv.cells hc)
 have hs:srcRows (H++[some [v.cells]]) (.sl H.length 0 1)=some [v.cells]:=by simp [srcRows]
 have hfit:rowsFit esz [v.cells]=true:=by simp [rowsFit,hvl]
 cases hd with
 | sc h=>cases h
 | fz h=>cases h
 | sl0=>
  refine ⟨.sl (H.length + 1) 0 1,H++[some [v.cells]]++[some [v.cells]],[H.length + 1]++B1,hb,?_,?_,?_,?_,?_,rfl⟩
  ·have:1 * (eb + 1)≤maxLen:=by simpa using hm
   simp [Ev.app,hs,hfit]
   omega
  ·have h1:RepRR true (H++[some [v.cells]]++[some [v.cells]]) n [v.cells] [t] (B1++[]):=.cons (hv.frame fun c hc=>by rw [List.append_assoc]; exact getBlk_left (hl1 c hc).1) .nil
   rw [List.append_nil] at h1
   have hg:getBlk (H++[some [v.cells]]++[some [v.cells]]) (H.length + 1)=some [v.cells]:=by
    have:=getBlk_self (H++[some [v.cells]]) [v.cells] []
    simpa using this
   exact RepT.sl hg h1
  ·simp only [List.singleton_append,List.nodup_cons]
   exact ⟨fun hm=>by have:=(hl1 _ hm).1; omega,hn1⟩
  ·exact ⟨by simp,fun c hc _=>by rw [List.append_assoc]; exact getBlk_left hc⟩
  ·intro c hc
   simp only [List.singleton_append,List.mem_cons] at hc
   rcases hc with rfl | hc
   ·exact ⟨by simp,.inr (.inr (by omega))⟩
   ·have:=(hl1 c hc).1; exact ⟨by simp; omega,.inr (.inl hc)⟩
 | @sl _ b rs _ B hbk h=>
  have hlen:=h.length
  have hbl:=getBlk_lt' hbk
  have hbB:=List.nodup_cons.mp hnd
  have hb2:getBlk (H++[some [v.cells]]) b=some rs:=getBlk_app hbk
  have hrs:rowsFit esz rs=true:=by
   cases h with
   | nil=>rfl
   | cons h hs=>simp only [rowsFit,beq_iff_eq,h.length]; exact hrows _ (by simp)
  have h0:rows ≠ []:=fun e=>by cases hne e
  have hpos:0 < rs.length:=by rw [hlen]; exact List.length_pos_iff.mpr h0
  have hg:getBlk ((H++[some [v.cells]]).set b none++[some (rs++[v.cells])]) (H.length + 1)=some (rs++[v.cells]):=by
   have:=getBlk_self ((H++[some [v.cells]]).set b none) (rs++[v.cells]) []
   simpa using this
  have hkeep:∀ c,c < H.length→c ≠ b→getBlk ((H++[some [v.cells]]).set b none++[some (rs++[v.cells])]) c=getBlk H c:=by
   intro c hc hcb
   rw [getBlk_left (by simp; omega),getBlk_ne hcb,getBlk_left hc]
  refine ⟨.sl (H.length + 1) 0 (rs++[v.cells]).length,(H++[some [v.cells]]).set b none++[some (rs++[v.cells])],(H.length + 1) :: (_++(B1++[])),hb,?_,RepT.sl hg (RepRR.append (h.frame fun c hc=>hkeep c (hlt c (by simp [hc])) (by rintro rfl; exact hbB.1 hc)) (.cons (hv.frame fun c hc=>hkeep c (hl1 c hc).1 (by rintro rfl; exact (hl1 _ hc).2 (by simp))) .nil)),?_,?_,?_,rfl⟩
  ·have hm':(rs.length + 1) * (eb + 1)≤maxLen:=by rw [hlen]; exact hm
   simp [Ev.app,hs,hfit,hb2,hpos,hrs,hm']
  ·rw [List.append_nil,List.nodup_cons,List.nodup_append]
   refine ⟨fun hm=>?_,hbB.2,hn1,fun x hx y hy e=>by subst e; exact (hl1 x hy).2 (by simp [hx])⟩
   rcases List.mem_append.mp hm with hm | hm
   ·have:=hlt _ (List.mem_cons_of_mem _ hm); omega
   ·have:=(hl1 _ hm).1; omega
  ·refine ⟨by simp; omega,fun c hc hcb=>hkeep c hc (by rintro rfl; exact hcb (by simp))⟩
  ·intro c hc
   simp only [List.append_nil,List.mem_cons,List.mem_append] at hc
   rcases hc with rfl | hc | hc
   ·exact ⟨by simp,.inr (.inr (by omega))⟩
   ·have:=hlt c (by simp [hc]); exact ⟨by simp; omega,.inl (by simp [hc])⟩
   ·have:=(hl1 c hc).1; exact ⟨by simp; omega,.inr (.inl hc)⟩
theorem Own.init {H:Heap} {L:List Asset} {n b:Nat} {ts0:List Cell} (h:Own H (.var n b ts0 :: L)) {cs ts:List D} (hr:RepR true H n cs ts []) (hc:ts.all D.isCell=true) (h0:∀ f:Nat,ts[f]? = some (D.list [])→cs[f]? = some D.sl0) {z:Nat} (hz:ts.length=z) (hz0:ts0.length=z):∃ H',Ev.st z H (.ptr b 0 0) (.agg cs)=some H'∧Own H' (.var n b (ts.map Cell.own) :: L)∧Ev.ld true z H' (.ptr b 0 0)=some (.agg cs):=
 (h.lit hr hc h0).over (Nat.le_refl n) hz hz0
theorem Own.copyout {H:Heap} {L:List Asset} {n p q:Nat} {ts:List D} {ts0:List Cell} (h:Own H (.var n p (ts.map Cell.own) :: .var n q ts0 :: L)) {z:Nat} (hz:ts.length=z) (hz0:ts0.length=z):∃ cs H',Ev.ld true z H (.ptr p 0 0)=some (.agg cs)∧Ev.st z H (.ptr q 0 0) (.agg cs)=some H'∧Ev.ld true z H' (.ptr q 0 0)=some (.agg cs)∧Own H' (.val (n + 1) (.agg cs) (.agg ts) :: L):=by
 obtain ⟨cs,e1,h1,h2,h3⟩:=h.whole hz
 obtain ⟨H',e2,h4,e3⟩:=h1.over (Nat.le_refl n) hz hz0
 obtain ⟨cs',e4,h5,-⟩:=h4.whole hz
 rw [e3] at e4
 cases e4
 exact ⟨cs,H',e1,e2,e3,h5⟩
theorem OwnB.vals {H:Heap} {n:Nat}:∀ {vs:List (D×D)} {B:List Nat},OwnB H (vs.map fun v=>.val n v.1 v.2) B→RepR true H n (vs.map (·.1)) (vs.map (·.2)) B
 | [],_,h=>by cases h; exact .nil
 | v :: vs,_,⟨B1,B2,e,h1,h2⟩=>by subst e; exact .cons h1.1 (OwnB.vals h2)
theorem OwnB.nice {H:Heap} {n:Nat}:∀ {vs:List (D×D)} {B:List Nat},OwnB H (vs.map fun v=>.val n v.1 v.2) B→∀ f:Nat,(vs.map (·.2))[f]? = some (D.list [])→(vs.map (·.1))[f]? = some D.sl0
 | [],_,_,f,hf=>by simp at hf
 | v :: vs,_,⟨B1,B2,e,h1,h2⟩,0,hf=>by simp at hf ⊢; exact h1.2.1 hf
 | v :: vs,_,⟨B1,B2,e,h1,h2⟩,f + 1,hf=>by simpa using OwnB.nice h2 f (by simpa using hf)
theorem Own.build {H:Heap} {L:List Asset} {n:Nat} (vs:List (D×D)) (hc:(vs.map (·.2)).all D.isCell=true) (h:Own H ((vs.map fun v=>Asset.val n v.1 v.2)++L)):Own H (.val (n + 1) (.agg (vs.map (·.1))) (.agg (vs.map (·.2))) :: L):=by
 obtain ⟨B1,h1,h2,h3,h4⟩:=Own.upd h
 exact h4 (La':=[_]) (B1':=B1) (Fr.refl _ H) ⟨B1,[],by simp,⟨.agg (OwnB.vals h1),Nice.agg (OwnB.nice h1) hc⟩,rfl⟩ h2 (fun c hc=>⟨h3 c hc,.inl hc⟩)
theorem Own.cellOf {H:Heap} {L:List Asset} {n:Nat} {d:D} {rows:Rows} (h:Own H (.val n d (.list rows) :: L)):d.cells=[d]∧d.isCell=true:=by
 obtain ⟨B,r,-⟩:=h.val
 refine ⟨?_,r.cell rfl⟩
 generalize ht:D.list rows=t at r
 cases r with
 | sc hx=>subst ht; cases hx
 | sl0=>rfl
 | fz hx=>cases hx
 | sl h1 h2=>rfl
 | agg h=>cases ht
 | tup h=>cases ht
theorem Own.app {H:Heap} {L:List Asset} {n m:Nat} {d v tv:D} {rows:Rows} (h:Own H (.val (n + 1) d (.list rows) :: .val m v tv :: L)) {t:List D} (hv:∀ B,RepT true H m v tv B→RepR true H n v.cells t B) {esz eb:Nat} {zero:List D} (he:t.length=esz) (hesz:esz≤65536) (hz:zero.all D.isCell=true) (hc:t.all D.isCell=true) (hrows:∀ r ∈ rows,r.length=esz) (hm:(rows.length + 1) * (eb + 1)≤maxLen) :
  ∃ d2 H2,bsl esz zero H 1 [(0,v)]=some (.sl H.length 0 1,H++[some [v.cells]])∧Ev.app esz eb (H++[some [v.cells]]) d (.sl H.length 0 1)=some (d2,H2)∧Own H2 (.val (n + 1) d2 (.list (rows++[t])) :: L)∧d2.cells=[d2]:=by
 obtain ⟨B1,⟨B2,_,rfl,⟨r1,r2⟩,B3,_,rfl,⟨g1,g2⟩,rfl⟩,h2,h3,h4⟩:=Own.upd (La:=[_,_]) h
 rw [List.append_nil] at h2 h3 h4
 have hnd:=List.nodup_append.mp h2
 obtain ⟨d2,H2,B4,k1,k2,k3,k4,k5,k6,k7⟩:=r1.app (fun e=>r2.1 (by rw [e])) hnd.1 (fun c hc=>h3 c (by simp [hc])) (hv _ g1) hnd.2.1 (fun c hc=>⟨h3 c (by simp [hc]),fun e=>hnd.2.2 c e c hc rfl⟩) he hesz hz hc hrows hm
 refine ⟨d2,H2,k1,k2,h4 (La':=[_]) (B1':=B4) (k5.mono fun c hc=>.inl (by simp [hc])) ⟨B4,[],by simp,⟨k3,Nice.cell (fun e=>by simp at e) rfl⟩,rfl⟩ k4 (fun c hc=>?_),k7⟩
 have:=k6 c hc
 exact ⟨this.1,by simpa [or_assoc] using this.2⟩
theorem rowOf_agg {H:Heap} {n:Nat} {cs ts:List D}:∀ B,RepT true H (n + 1) (.agg cs) (.agg ts) B→RepR true H n (D.agg cs).cells ts B:=fun B h=>by
 cases h with
 | sc h=>cases h
 | agg h=>exact h
theorem rowOf_sc {H:Heap} {n m:Nat} {v:D} (hv:v.scalar=true) (hc:v.cells=[v]):∀ B,RepT true H m v v B→RepR true H n v.cells [v] B:=fun B h=>by
 obtain ⟨-,rfl⟩:=h.val hv
 rw [hc]
 exact .cons (B:=[]) (B':=[]) (.sc hv) .nil
end Go.Ev
namespace Go.Ev
set_option linter.unusedVariables false
set_option linter.unusedSimpArgs false
structure Lv (H:Heap) (L:List Thing) (P:List (Nat×List D)):Prop where
 live:Live H L
 pin:∀ e ∈ P,getBlk H e.1=some [e.2]∧e.1 ∉ blks L
theorem Lv.nil (H:Heap):Lv H [] []:=⟨Live.nil H,fun e he=>by cases he⟩
theorem Lv.reads {H:Heap} {L:List Thing} {P:List (Nat×List D)} (h:Lv H L P):Reads H L:=h.live.reads
theorem Lv.ld {H:Heap} {L:List Thing} {P:List (Nat×List D)} (h:Lv H L P) {p z:Nat} {cs:List D} (hp:(p,cs) ∈ P) (hz:cs.length=z):Ev.ld true z H (.ptr p 0 0)=some (.agg cs):=by
 rw [ld_ptr (h.pin _ hp).1 rfl]
 subst hz
 simp [part]
theorem Lv.keep {H H':Heap} {L L':List Thing} {P:List (Nat×List D)} (h:Lv H L P) (hl:Live H' L') {S:List Nat} (hs:∀ c ∈ S,c ∈ blks L) (hf:∀ c,c < H.length→c ∉ S→getBlk H' c=getBlk H c) (hb:∀ c ∈ blks L',c ∈ blks L∨H.length≤c):Lv H' L' P:=by
 refine ⟨hl,fun e he=>?_⟩
 obtain ⟨h1,h2⟩:=h.pin e he
 have hlt:=getBlk_lt' h1
 refine ⟨by rw [hf _ hlt fun hc=>h2 (hs _ hc)]; exact h1,fun hc=>?_⟩
 rcases hb _ hc with hc | hc
 ·exact h2 hc
 ·omega
theorem Lv.pinz {H:Heap} {L:List Thing} {P:List (Nat×List D)} (h:Lv H L P) (cs:List D):Lv (H++[some [cs]]) L ((H.length,cs) :: P):=by
 refine ⟨⟨fun e he=>(h.live.rep e he).frame fun b hb=>getBlk_left (h.live.lt b (mem_blks he hb)),h.live.nd,fun b hb=>?_⟩,fun e he=>?_⟩
 ·have:=h.live.lt b hb; simp; omega
 ·rcases List.mem_cons.mp he with rfl | he
  ·exact ⟨getBlk_self _ _ [],fun hb=>by have:=h.live.lt _ hb; omega⟩
  ·exact ⟨getBlk_app (h.pin e he).1,(h.pin e he).2⟩
theorem Lv.own {E:Env} {H:Heap} {L:List Thing} {P:List (Nat×List D)} (h:Lv H L P) {n:Nat} {g:FuncId} {ts:List D} {t:D} (ho:OwnC E n g ts t) (hn:n≤8) {ds:List D} (hr:optAll (readT true depth H) ds=some ts) :
  ∃ d H' B,callFn E (exec E) .own g ds H=some (d,H')∧Lv H' ((d,t,B) :: L) P:=by
 obtain ⟨d,H',B,h1,h2,h3⟩:=ho.call (by omega) hr
 refine ⟨d,H',B,h1,h.keep (h.live.add (h2.up hn) h3) (S:=[]) (by simp) (fun c hc _=>h3.keep hc) fun c hc=>?_⟩
 rw [blks_cons,List.mem_append] at hc
 exact hc.elim (fun hc=>.inr (h3.rng c hc).1) .inl
theorem Lv.sub {H:Heap} {L L':List Thing} {P:List (Nat×List D)} (h:Lv H L P) (hl:Live H L') (hb:∀ c ∈ blks L',c ∈ blks L):Lv H L' P:=
 h.keep hl (S:=[]) (by simp) (fun _ _ _=>rfl) fun c hc=>.inl (hb c hc)
theorem Lv.drop {H:Heap} {e:Thing} {L:List Thing} {P:List (Nat×List D)} (h:Lv H (e :: L) P):Lv H L P:=h.sub h.live.drop fun c hc=>by rw [blks_cons]; simp [hc]
theorem Lv.view {E:Env} {H:Heap} {dead rest:List Thing} {P:List (Nat×List D)} (h:Lv H (dead++rest) P) {g:FuncId} {ts:List D} {t:D} (hv:run E (exec E) true g ts=some t) {ds:List D} (hr:optAll (readT true depth H) ds=some ts) (hd:∀ d ∈ ds,(∃ e ∈ dead,e.1=d)∨∀ K,killT depth H d K=K) :
  ∃ H',callFn E (exec E) .view g ds H=some (t,H')∧Lv H' rest P:=by
 obtain ⟨h1,h2⟩:=h.live.kills hd H
 obtain ⟨H',e,l⟩:=h.live.view hv hr hd
 have e2:H'=ds.foldl (fun K d=>killT depth H d K) H:=by
  rw [call_view,hr] at e
  simp only [Option.bind_some,hv,Option.some.injEq,Prod.mk.injEq] at e
  exact e.2.symm
 refine ⟨H',e,h.keep l (S:=blks dead) (fun c hc=>by rw [blks_append]; simp [hc]) (fun c _ hc=>by rw [e2]; exact h2 c hc) fun c hc=>.inl (by rw [blks_append]; simp [hc])⟩
theorem RepR.isCells {o:Bool} {H:Heap} {n:Nat}:∀ {ds ts:List D} {B:List Nat},RepR o H n ds ts B→ts.all D.isCell=true→ds.all D.isCell=true
 | _,_,_,.nil,_=>rfl
 | _,_,_,.cons h hs,hc=>by
  simp only [List.all_cons,Bool.and_eq_true] at hc ⊢
  exact ⟨h.cell hc.1,hs.isCells hc.2⟩
theorem Lv.agg {H:Heap} {L:List Thing} {P:List (Nat×List D)} {d:D} {ts:List D} {B:List Nat} (h:Lv H ((d,.agg ts,B) :: L) P):∃ cs,d = .agg cs∧cs.length=ts.length∧(ts.all D.isCell=true→cs.all D.isCell=true):=by
 have hr:=h.live.rep _ List.mem_cons_self
 cases hr with
 | sc h=>exact ⟨ts,rfl,rfl,id⟩
 | @agg n cs ts B hr=>exact ⟨cs,rfl,hr.length,hr.isCells⟩
theorem Lv.agg' {H:Heap} {L:List Thing} {P:List (Nat×List D)} {d:D} {ts:List D} {B:List Nat} (h:Lv H L P) (hm:(d,.agg ts,B) ∈ L):∃ cs,d = .agg cs∧cs.length=ts.length∧(ts.all D.isCell=true→cs.all D.isCell=true):=by
 have hr:=h.live.rep _ hm
 cases hr with
 | sc h=>exact ⟨ts,rfl,rfl,id⟩
 | @agg n cs ts B hr=>exact ⟨cs,rfl,hr.length,hr.isCells⟩
theorem Lv.param {H:Heap} {L:List Thing} {P:List (Nat×List D)} (h:Lv H L P) (cs:List D) (hc:cs.all D.isCell=true) :
  ∃ H' p,(∀ k:D→Heap→R,alloc_ H cs k=k (.ptr p 0 0) H')∧Lv H' L ((p,cs) :: P):=
 ⟨H++[some [cs]],H.length,fun k=>alloc_eq _ _ _ hc,h.pinz cs⟩
theorem Lv.var {H:Heap} {L:List Thing} {P:List (Nat×List D)} (h:Lv H L P) (zero cs:List D) (z:Nat) (h0:zero.all D.isCell=true) (hz:zero.length=z) (hl:cs.length=z) (hc:cs.all D.isCell=true) :
  ∃ H' p,(∀ k:D→Heap→R,alloc_ H zero (fun p1 H1=>(st z H1 p1 (.agg cs)).bind fun H2=>k p1 H2)=k (.ptr p 0 0) H')∧Lv H' L ((p,cs) :: P):=by
 refine ⟨H++[some [cs]],H.length,fun k=>?_,h.pinz cs⟩
 rw [alloc_eq _ _ _ h0]
 have hst:=st_ptr (z:=z) (f:=0) (v:=.agg cs) (H:=H++[some [zero]]) (getBlk_self _ _ []) (i:=0) rfl hl hc (by omega)
 have e:((H++[some [zero]]).set H.length (some ([zero].set 0 (zero.take 0++(D.agg cs).cells++zero.drop (0 + z)))))=H++[some [cs]]:=by
  rw [List.set_append_right _ _ (Nat.le_refl _)]
  simp [D.cells,List.drop_of_length_le (show zero.length≤z by omega)]
 rw [e] at hst
 rw [hst]
 rfl
end Go.Ev
namespace Go.Ev
set_option linter.unusedVariables false
set_option linter.unusedSimpArgs false
theorem RepT.slice {o:Bool} {H:Heap} {n:Nat} {d:D} {rows:Rows} {B:List Nat} (h:RepT o H n d (.list rows) B):d.cells=[d]∧d.isCell=true:=by
 generalize ht:D.list rows=t at h
 cases h with
 | sc h=>subst ht; cases h
 | sl0=>exact ⟨rfl,rfl⟩
 | fz h=>exact ⟨rfl,rfl⟩
 | sl h1 h2=>exact ⟨rfl,rfl⟩
 | agg h=>cases ht
 | tup h=>cases ht
def zok:D→Bool
 | .list []=>true
 | d=>d.scalar
def unz:D→D
 | .list []=>.sl0
 | d=>d
theorem RepT.zero {o:Bool} {H:Heap} {n:Nat}:∀ {t:D},zok t=true→RepT o H (n + 1) (unz t) t []:=by
 intro t h
 cases t with
 | list r=>
  cases r with
  | nil=>exact .sl0
  | cons a l=>cases h
 | _=>first | exact .sc h | (cases h; done)
theorem RepR.zero {o:Bool} {H:Heap} {n:Nat}:∀ {ts:List D},ts.all zok=true→RepR o H (n + 1) (ts.map unz) ts []
 | [],_=>.nil
 | t :: ts,h=>by
  simp only [List.all_cons,Bool.and_eq_true] at h
  exact .cons (B:=[]) (B':=[]) (RepT.zero h.1) (RepR.zero h.2)
def Turn (N0:Nat) (H:Heap) (b lv:Nat) (ts rest:Rows):Prop:=
 ∃ done B,getBlk H b=some (done++rest)∧RepRR true H lv done ts B∧(b :: B).Nodup∧∀ c ∈ b :: B,N0≤c∧c < H.length
theorem Turn.start {N0:Nat} {H:Heap} {b lv:Nat} {rest:Rows} (hb:getBlk H b=some rest) (h0:N0≤b):Turn N0 H b lv [] rest:=
 ⟨[],[],by simpa using hb,.nil,by simp,fun c hc=>by simp at hc; subst hc; exact ⟨h0,getBlk_lt' hb⟩⟩
theorem Turn.frame {N0:Nat} {H H':Heap} {b lv:Nat} {ts rest:Rows} (h:Turn N0 H b lv ts rest) (hl:H.length≤H'.length) (hf:∀ c,N0≤c→c < H.length→getBlk H' c=getBlk H c):Turn N0 H' b lv ts rest:=by
 obtain ⟨done,B,h1,h2,h3,h4⟩:=h
 refine ⟨done,B,?_,h2.frame fun c hc=>?_,h3,fun c hc=>?_⟩
 ·have:=h4 b (by simp); rw [hf b this.1 this.2]; exact h1
 ·have:=h4 c (by simp [hc]); exact hf c this.1 this.2
 ·have:=h4 c hc; exact ⟨this.1,by omega⟩
theorem Turn.done {N0:Nat} {H:Heap} {b lv:Nat} {ts:Rows} (h:Turn N0 H b lv ts []):∃ B,RepT true H (lv + 1) (.sl b 0 ts.length) (.list ts) B∧B.Nodup∧∀ c ∈ B,N0≤c∧c < H.length:=by
 obtain ⟨done,B,h1,h2,h3,h4⟩:=h
 rw [List.append_nil] at h1
 have:=RepT.sl h1 h2
 rw [h2.length] at this
 exact ⟨b :: B,this,h3,h4⟩
theorem Turn.get {N0:Nat} {H:Heap} {b lv:Nat} {ts rest:Rows} {r:List D} (h:Turn N0 H b lv ts (r :: rest)):∃ rows,getBlk H b=some rows∧rows[ts.length]? = some r:=by
 obtain ⟨done,B,h1,h2,h3,h4⟩:=h
 exact ⟨_,h1,by rw [← h2.length]; simp⟩
theorem Turn.ia {N0:Nat} {H:Heap} {b lv:Nat} {ts rest:Rows} {r:List D} (h:Turn N0 H b lv ts (r :: rest)) {n esz:Nat} (hn:ts.length < n) (he:r.length=esz):Ev.ia esz H (.sl b 0 n) (.int .i64 ts.length)=some (.ptr b ts.length 0):=by
 obtain ⟨rows,h1,h2⟩:=h.get
 have:=ia_sl (k:=.i64) (o:=0) (n:=n) (i:=(ts.length:Int)) (esz:=esz) h1 (by omega) (by omega) (row:=r) (by simpa using h2) he
 simpa using this
theorem Turn.ld {N0:Nat} {H:Heap} {b lv:Nat} {ts rest:Rows} {r:List D} (h:Turn N0 H b lv ts (r :: rest)) (a:Bool) (z f:Nat):Ev.ld a z H (.ptr b ts.length f)=part r (f,z,a):=by
 obtain ⟨rows,h1,h2⟩:=h.get
 exact ld_ptr h1 h2
theorem Turn.st {N0:Nat} {H:Heap} {b lv:Nat} {ts rest:Rows} {r:List D} (h:Turn N0 H b lv ts (r :: rest)) {f z:Nat} {v:D} (hv:v.cells.length=z) (hc:v.cells.all D.isCell=true) (hf:f + z≤r.length) :
  ∃ H',Ev.st z H (.ptr b ts.length f) v=some H'∧Turn N0 H' b lv ts ((r.take f++v.cells++r.drop (f + z)) :: rest)∧H'.length=H.length∧∀ c,c ≠ b→getBlk H' c=getBlk H c:=by
 obtain ⟨done,B,h1,h2,h3,h4⟩:=h
 have hl:=h2.length
 have hst:=st_ptr (z:=z) (f:=f) (v:=v) h1 (i:=ts.length) (row:=r) (by rw [← hl]; simp) hv hc hf
 refine ⟨_,hst,⟨done,B,?_,h2.frame fun c hc=>getBlk_ne fun e=>?_,h3,fun c hc=>by simpa using h4 c hc⟩,by simp,fun c hc=>getBlk_ne hc⟩
 ·rw [getBlk_set_self (getBlk_lt' h1),← hl]; simp
 ·subst e; exact (List.nodup_cons.mp h3).1 hc
theorem Turn.next {N0:Nat} {H:Heap} {b lv:Nat} {ts rest:Rows} {r t:List D} {B1:List Nat} (h:Turn N0 H b lv ts (r :: rest)) (hr:RepR true H lv r t B1) (hn:B1.Nodup) (hlt:∀ c ∈ B1,N0≤c∧c < H.length) (hd:∀ done B,getBlk H b=some (done++r :: rest)→RepRR true H lv done ts B→∀ c ∈ B1,c ∉ b :: B):Turn N0 H b lv (ts++[t]) rest:=by
 obtain ⟨done,B,h1,h2,h3,h4⟩:=h
 have hd:=hd done B h1 h2
 refine ⟨done++[r],B++B1,by simpa using h1,?_,?_,?_⟩
 ·have:=RepRR.append h2 (RepRR.cons hr RepRR.nil)
  simpa using this
 ·rw [← List.cons_append,List.nodup_append]
  exact ⟨h3,hn,fun x hx y hy e=>by subst e; exact hd x hy hx⟩
 ·intro c hc
  rw [← List.cons_append,List.mem_append] at hc
  exact hc.elim (h4 c) (hlt c)
theorem Turn.close {N0:Nat} {H H3:Heap} {b lv:Nat} {ts rest:Rows} {r r1 t:List D} {B1:List Nat} (h:Turn N0 H b lv ts (r :: rest)) (hl:H.length≤H3.length)
  (hb:∀ rows,getBlk H b=some rows→getBlk H3 b=some (rows.set ts.length r1)) (hf:∀ c,c < H.length→c ≠ b→getBlk H3 c=getBlk H c) (hr:RepR true H3 lv r1 t B1) (hn:B1.Nodup) (hlt:∀ c ∈ B1,H.length≤c∧c < H3.length):Turn N0 H3 b lv (ts++[t]) rest:=by
 obtain ⟨done,B,h1,h2,h3,h4⟩:=h
 have hlen:=h2.length
 have hb3:=hb _ h1
 have e:(done++r :: rest).set ts.length r1=done++r1 :: rest:=by rw [← hlen]; simp
 rw [e] at hb3
 have hbB:=List.nodup_cons.mp h3
 refine ⟨done++[r1],B++B1,by simpa using hb3,?_,?_,?_⟩
 ·have:=RepRR.append (h2.frame fun c hc=>hf c (h4 c (by simp [hc])).2 fun e=>by subst e; exact hbB.1 hc) (RepRR.cons hr RepRR.nil)
  simpa using this
 ·rw [← List.cons_append,List.nodup_append]
  refine ⟨h3,hn,fun x hx y hy e=>?_⟩
  have:=(h4 x hx).2; have:=(hlt y hy).1; omega
 ·intro c hc
  rw [← List.cons_append,List.mem_append] at hc
  rcases hc with hc | hc
  ·have:=h4 c hc; exact ⟨this.1,by omega⟩
  ·have:=hlt c hc; have:=(h4 b (by simp)); omega
theorem Turn.lt {N0:Nat} {H:Heap} {b lv:Nat} {ts rest:Rows} (h:Turn N0 H b lv ts rest):b < H.length:=by
 obtain ⟨done,B,h1,h2,h3,h4⟩:=h
 exact getBlk_lt' h1
theorem Turn.put {N0:Nat} {H K:Heap} {b lv:Nat} {ts rest rows:Rows} {r r1 t:List D} {B1:List Nat} (h:Turn N0 H b lv ts (r :: rest)) (hb:getBlk H b=some rows) (hr:RepR true (H++K) lv r1 t B1) (hf:FreshB H (H++K) B1):Turn N0 ((H++K).set b (some (rows.set ts.length r1))) b lv (ts++[t]) rest:=by
 have hlt:=h.lt
 refine h.close (r1:=r1) (by simp) (fun rows' hb'=>?_) (fun c hc hne=>?_) (hr.frame fun c hc=>getBlk_ne fun e=>?_) hf.nodup (fun c hc=>by simpa using hf.rng c hc)
 ·rw [hb] at hb'; cases hb'
  exact getBlk_set_self (by simp; omega)
 ·rw [getBlk_ne hne,getBlk_left hc]
 ·subst e; have:=(hf.rng _ hc).1; omega
def AccR (lv esz:Nat) (H:Heap) (d:D) (ts:Rows):Prop:=
 ∃ rows B,Acc esz H d rows∧RepRR false H lv rows ts B∧∀ c ∈ B,c < H.length∧∀ o n,d ≠ .sl c o n
theorem AccR.nil (lv esz:Nat) (H:Heap):AccR lv esz H .sl0 []:=⟨[],[],Acc.nil _ _,.nil,fun c hc=>by cases hc⟩
theorem AccR.frame {lv esz:Nat} {H:Heap} {d:D} {ts:Rows} (h:AccR lv esz H d ts) (K:Heap):AccR lv esz (H++K) d ts:=by
 obtain ⟨rows,B,h1,h2,h3⟩:=h
 exact ⟨rows,B,h1.app K,h2.frame fun c hc=>getBlk_left (h3 c hc).1,fun c hc=>⟨by have:=(h3 c hc).1; simp; omega,(h3 c hc).2⟩⟩
theorem AccR.len {lv esz:Nat} {H:Heap} {d:D} {ts:Rows} (h:AccR lv esz H d ts):lnL d=some (.int .i64 ts.length):=by
 obtain ⟨rows,B,h1,h2,h3⟩:=h
 rw [h1.len,h2.length]
theorem AccR.read {lv esz:Nat} {H:Heap} {d:D} {ts:Rows} (h:AccR lv esz H d ts) {N:Nat} (hN:lv + 1≤N):readT true N H d=some (.list ts):=by
 obtain ⟨rows,B,h1,h2,h3⟩:=h
 obtain ⟨N,rfl⟩:∃ k,N=k + 1:=⟨N - 1,by omega⟩
 rcases h1.2 with ⟨e,rfl⟩ | ⟨_,b,rfl,hb⟩
 ·subst e; cases h2; rfl
 ·exact (RepT.sl hb h2).read (.inr rfl) hN
theorem AccR.rep {lv esz:Nat} {H:Heap} {d:D} {ts:Rows} (h:AccR lv esz H d ts):∃ B,RepT false H (lv + 1) d (.list ts) B∧∀ c ∈ B,c < H.length:=by
 obtain ⟨rows,B,h1,h2,h3⟩:=h
 rcases h1.2 with ⟨e,rfl⟩ | ⟨_,b,rfl,hb⟩
 ·subst e; cases h2; exact ⟨[],.sl0,fun c hc=>by cases hc⟩
 ·exact ⟨b :: B,.sl hb h2,fun c hc=>by
   rcases List.mem_cons.mp hc with rfl | hc
   ·exact getBlk_lt' hb
   ·exact (h3 c hc).1⟩
theorem AccR.app {lv esz eb:Nat} {H:Heap} {d:D} {ts:Rows} (h:AccR lv esz H d ts) {c t:List D} {B1:List Nat} (hr:RepR false H lv c t B1) (hB:∀ x ∈ B1,x < H.length∧∀ o n,d ≠ .sl x o n) (hc:t.length=esz) (hm:(ts.length + 1) * (eb + 1)≤maxLen) :
  ∃ d' H',Ev.app esz eb (H++[some [c]]) d (.sl H.length 0 1)=some (d',H')∧AccR lv esz H' d' (ts++[t])∧H.length≤H'.length∧(∀ b,b < H.length→(∀ o n,d ≠ .sl b o n)→getBlk H' b=getBlk H b)∧(∀ b o n,d' = .sl b o n→H.length≤b):=by
 obtain ⟨rows,B,h1,h2,h3⟩:=h
 have hl:=h2.length
 have hs:srcRows (H++[some [c]]) (.sl H.length 0 1)=some [c]:=by simp [srcRows]
 obtain ⟨d',H',e,a1,a2,a3⟩:=app_rows (eb:=eb) (h1.app [some [c]]) hs (fun r hr'=>by simp at hr'; subst hr'; rw [hr.length]; exact hc) (by simp) (by simpa [hl] using hm)
 have hk:∀ b,b < H.length→(∀ o n,d ≠ .sl b o n)→getBlk H' b=getBlk H b:=fun b hb hn=>by
  rw [a2.2 b (by simp; omega) hn,getBlk_left hb]
 have hle:H.length + 1≤H'.length:=by have:=a2.1; simpa using this
 refine ⟨d',H',e,⟨rows++[c],B++B1,a1,?_,?_⟩,by omega,hk,?_⟩
 ·have q1:=h2.frame (H':=H') fun b hb=>hk b (h3 b hb).1 (h3 b hb).2
  have q2:=hr.frame (H':=H') fun b hb=>hk b (hB b hb).1 (hB b hb).2
  have:=RepRR.append q1 (RepRR.cons q2 RepRR.nil)
  simpa using this
 ·intro b hb
  have:b < H.length:=by
   rcases List.mem_append.mp hb with hb | hb
   ·exact (h3 b hb).1
   ·exact (hB b hb).1
  refine ⟨by omega,fun o n e=>?_⟩
  rw [a3] at e
  cases e
  simp only [List.length_append,List.length_singleton] at this
  omega
 ·intro b o n e
  rw [a3] at e
  cases e
  simp
end Go.Ev
