import Derived.Test.YtmpfooibdekppaaGreatDoorXb
namespace Go.Ev
set_option linter.unusedVariables false
set_option linter.unusedSimpArgs false
mutual
inductive RepT (o:Bool) (H:Heap):Nat→D→D→List Nat→Prop
 | sc {n d} (h:d.scalar=true):RepT o H n d d []
 | sl0 {n}:RepT o H (n + 1) .sl0 (.list []) []
 | fz {n r} (h:o=false):RepT o H (n + 1) (.list r) (.list r) []
 | sl {n b rows ts B} (hb:getBlk H b=some rows) (h:RepRR o H n rows ts B):RepT o H (n + 1) (.sl b 0 rows.length) (.list ts) (b :: B)
 | agg {n cs ts B} (h:RepR o H n cs ts B):RepT o H (n + 1) (.agg cs) (.agg ts) B
 | tup {n cs ts B} (h:RepR o H n cs ts B):RepT o H (n + 1) (.tup cs) (.tup ts) B
inductive RepR (o:Bool) (H:Heap):Nat→List D→List D→List Nat→Prop
 | nil {n}:RepR o H n [] [] []
 | cons {n d t ds ts B B'} (h:RepT o H n d t B) (hs:RepR o H n ds ts B'):RepR o H n (d :: ds) (t :: ts) (B++B')
inductive RepRR (o:Bool) (H:Heap):Nat→List (List D)→List (List D)→List Nat→Prop
 | nil {n}:RepRR o H n [] [] []
 | cons {n d t ds ts B B'} (h:RepR o H n d t B) (hs:RepRR o H n ds ts B'):RepRR o H n (d :: ds) (t :: ts) (B++B')
end
mutual
theorem RepT.frame {o:Bool} {H H':Heap}:∀ {n d t B},RepT o H n d t B→(∀ b ∈ B,getBlk H' b=getBlk H b)→RepT o H' n d t B
 | _,_,_,_,.sc h,_=>.sc h
 | _,_,_,_,.sl0,_=>.sl0
 | _,_,_,_,.fz h,_=>.fz h
 | _,_,_,_,.sl hb h,hf=>.sl ((hf _ (by simp)).trans hb) (h.frame fun b hb=>hf b (by simp [hb]))
 | _,_,_,_,.agg h,hf=>.agg (h.frame hf)
 | _,_,_,_,.tup h,hf=>.tup (h.frame hf)
theorem RepR.frame {o:Bool} {H H':Heap}:∀ {n d t B},RepR o H n d t B→(∀ b ∈ B,getBlk H' b=getBlk H b)→RepR o H' n d t B
 | _,_,_,_,.nil,_=>.nil
 | _,_,_,_,.cons h hs,hf=>.cons (h.frame fun b hb=>hf b (by simp [hb])) (hs.frame fun b hb=>hf b (by simp [hb]))
theorem RepRR.frame {o:Bool} {H H':Heap}:∀ {n d t B},RepRR o H n d t B→(∀ b ∈ B,getBlk H' b=getBlk H b)→RepRR o H' n d t B
 | _,_,_,_,.nil,_=>.nil
 | _,_,_,_,.cons h hs,hf=>.cons (h.frame fun b hb=>hf b (by simp [hb])) (hs.frame fun b hb=>hf b (by simp [hb]))
end
theorem readT_scalar {l:Bool} {n:Nat} {H:Heap} {d:D} (h:d.scalar=true):readT l n H d=some d:=by
 cases n with
 | zero=>simp [readT,h]
 | succ n=>cases d <;> first | rfl | (cases h; done)
mutual
theorem RepT.read {o l:Bool} {H:Heap} (hl:o=true∨l=true):∀ {n d t B},RepT o H n d t B→∀ {N:Nat},n≤N→readT l N H d=some t
 | _,d,_,_,.sc h,N,_=>readT_scalar h
 | _,_,_,_,.sl0,N + 1,_=>rfl
 | _,_,_,_,.fz h,N + 1,_=>by
  rcases hl with hl | rfl
  ·rw [h] at hl; cases hl
  ·rfl
 | _,_,_,_,.sl (n:=n) (b:=b) (rows:=rows) hb h,N + 1,hN=>by
  rw [readT_slE,hb]
  simp only [Option.bind_some,Nat.zero_add,Nat.le_refl,if_true,List.drop_zero,List.take_length,h.read hl (Nat.le_of_succ_le_succ hN)]
  rfl
 | _,_,_,_,.agg h,N + 1,hN=>by rw [readT_agg,h.read hl (Nat.le_of_succ_le_succ hN)]; rfl
 | _,_,_,_,.tup h,N + 1,hN=>by rw [readT_tup,h.read hl (Nat.le_of_succ_le_succ hN)]; rfl
theorem RepR.read {o l:Bool} {H:Heap} (hl:o=true∨l=true):∀ {n d t B},RepR o H n d t B→∀ {N:Nat},n≤N→optAll (readT l N H) d=some t
 | _,_,_,_,.nil,_,_=>rfl
 | _,_,_,_,.cons h hs,_,hN=>by rw [optAll_cons,h.read hl hN,hs.read hl hN]; rfl
theorem RepRR.read {o l:Bool} {H:Heap} (hl:o=true∨l=true):∀ {n d t B},RepRR o H n d t B→∀ {N:Nat},n≤N→optAll (optAll (readT l N H)) d=some t
 | _,_,_,_,.nil,_,_=>rfl
 | _,_,_,_,.cons h hs,_,hN=>by rw [optAll_cons,h.read hl hN,hs.read hl hN]; rfl
end
mutual
theorem RepT.up {o:Bool} {H:Heap}:∀ {n d t B},RepT o H n d t B→∀ {N:Nat},n≤N→RepT o H N d t B
 | _,_,_,_,.sc h,N,_=>.sc h
 | _,_,_,_,.sl0,N + 1,_=>.sl0
 | _,_,_,_,.fz h,N + 1,_=>.fz h
 | _,_,_,_,.sl hb h,N + 1,hN=>.sl hb (h.up (Nat.le_of_succ_le_succ hN))
 | _,_,_,_,.agg h,N + 1,hN=>.agg (h.up (Nat.le_of_succ_le_succ hN))
 | _,_,_,_,.tup h,N + 1,hN=>.tup (h.up (Nat.le_of_succ_le_succ hN))
theorem RepR.up {o:Bool} {H:Heap}:∀ {n d t B},RepR o H n d t B→∀ {N:Nat},n≤N→RepR o H N d t B
 | _,_,_,_,.nil,_,_=>.nil
 | _,_,_,_,.cons h hs,_,hN=>.cons (h.up hN) (hs.up hN)
theorem RepRR.up {o:Bool} {H:Heap}:∀ {n d t B},RepRR o H n d t B→∀ {N:Nat},n≤N→RepRR o H N d t B
 | _,_,_,_,.nil,_,_=>.nil
 | _,_,_,_,.cons h hs,_,hN=>.cons (h.up hN) (hs.up hN)
end
theorem RepRR.length {o:Bool} {H:Heap}:∀ {n d t B},RepRR o H n d t B→d.length=t.length
 | _,_,_,_,.nil=>rfl
 | _,_,_,_,.cons _ hs=>by simp [hs.length]
mutual
inductive NormT:Nat→D→D→Prop
 | sc {n d} (h:d.scalar=true):NormT n d d
 | sl0 {n}:NormT (n + 1) .sl0 (.list [])
 | list {n rs ts} (h:NormRR n rs ts):NormT (n + 1) (.list rs) (.list ts)
 | agg {n cs ts} (h:NormR n cs ts):NormT (n + 1) (.agg cs) (.agg ts)
 | tup {n cs ts} (h:NormR n cs ts):NormT (n + 1) (.tup cs) (.tup ts)
inductive NormR:Nat→List D→List D→Prop
 | nil {n}:NormR n [] []
 | cons {n d t ds ts} (h:NormT n d t) (hs:NormR n ds ts):NormR n (d :: ds) (t :: ts)
inductive NormRR:Nat→List (List D)→List (List D)→Prop
 | nil {n}:NormRR n [] []
 | cons {n d t ds ts} (h:NormR n d t) (hs:NormRR n ds ts):NormRR n (d :: ds) (t :: ts)
end
mutual
theorem RepT.take {H:Heap}:∀ {n d t B},RepT true H n d t B→∀ {N:Nat},n≤N→B.Nodup→∀ K:Heap,(∀ b ∈ B,getBlk K b=getBlk H b)→∃ t' K',takeT N d K=some (t',K')∧NormT n t' t∧∀ b,b ∉ B→getBlk K' b=getBlk K b
 | _,_,_,_,.sc h,N,_,_,K,_=>⟨_,K,takeT_scalar h,.sc h,fun _ _=>rfl⟩
 | _,_,_,_,.sl0,N + 1,_,_,K,_=>⟨_,K,rfl,.sl0,fun _ _=>rfl⟩
 | _,_,_,_,.sl (b:=b) (rows:=rows) hb h,N + 1,hN,hn,K,hk=>by
  have hbk:getBlk K b=some rows:=(hk b (by simp)).trans hb
  rw [List.nodup_cons] at hn
  obtain ⟨t',K',h1,h2,h3⟩:=h.take (Nat.le_of_succ_le_succ hN) hn.2 (K.set b none) fun c hc=>by
   have hne:c ≠ b:=by rintro rfl; exact hn.1 hc
   rw [getBlk_ne hne]; exact hk c (by simp [hc])
  refine ⟨.list t',K',?_,.list h2,fun c hc=>?_⟩
  ·simp only [takeT,hbk,Option.bind_some,Nat.zero_add,Nat.le_refl,if_true,List.drop_zero,List.take_length,h1]
   rfl
  ·rw [List.mem_cons,not_or] at hc
   rw [h3 c hc.2,getBlk_ne hc.1]
 | _,_,_,_,.agg h,N + 1,hN,hn,K,hk=>by
  obtain ⟨t',K',h1,h2,h3⟩:=h.take (Nat.le_of_succ_le_succ hN) hn K hk
  exact ⟨.agg t',K',by rw [takeT_agg,h1]; rfl,.agg h2,h3⟩
 | _,_,_,_,.tup (cs:=cs) h,N + 1,hN,hn,K,hk=>by
  obtain ⟨t',K',h1,h2,h3⟩:=h.take (Nat.le_of_succ_le_succ hN) hn K hk
  refine ⟨.tup t',K',?_,.tup h2,h3⟩
  show (optAllS _ cs K).map _=_
  rw [h1]; rfl
theorem RepR.take {H:Heap}:∀ {n d t B},RepR true H n d t B→∀ {N:Nat},n≤N→B.Nodup→∀ K:Heap,(∀ b ∈ B,getBlk K b=getBlk H b)→∃ t' K',optAllS (takeT N) d K=some (t',K')∧NormR n t' t∧∀ b,b ∉ B→getBlk K' b=getBlk K b
 | _,_,_,_,.nil,N,_,_,K,_=>⟨_,K,rfl,.nil,fun _ _=>rfl⟩
 | _,_,_,_,.cons (B:=B) (B':=B') h hs,N,hN,hn,K,hk=>by
  rw [List.nodup_append] at hn
  obtain ⟨n1,n2,n3⟩:=hn
  obtain ⟨t',K',h1,h2,h3⟩:=h.take hN n1 K fun b hb=>hk b (by simp [hb])
  obtain ⟨t2,K2,g1,g2,g3⟩:=hs.take hN n2 K' fun b hb=>by
   rw [h3 b fun hb'=>n3 b hb' b hb rfl]; exact hk b (by simp [hb])
  refine ⟨t' :: t2,K2,by rw [optAllS_cons,h1]; simp only [Option.bind_some,g1],.cons h2 g2,fun b hb=>?_⟩
  rw [List.mem_append,not_or] at hb
  rw [g3 b hb.2,h3 b hb.1]
theorem RepRR.take {H:Heap}:∀ {n d t B},RepRR true H n d t B→∀ {N:Nat},n≤N→B.Nodup→∀ K:Heap,(∀ b ∈ B,getBlk K b=getBlk H b)→∃ t' K',optAllS (optAllS (takeT N)) d K=some (t',K')∧NormRR n t' t∧∀ b,b ∉ B→getBlk K' b=getBlk K b
 | _,_,_,_,.nil,N,_,_,K,_=>⟨_,K,rfl,.nil,fun _ _=>rfl⟩
 | _,_,_,_,.cons (B:=B) (B':=B') h hs,N,hN,hn,K,hk=>by
  rw [List.nodup_append] at hn
  obtain ⟨n1,n2,n3⟩:=hn
  obtain ⟨t',K',h1,h2,h3⟩:=h.take hN n1 K fun b hb=>hk b (by simp [hb])
  obtain ⟨t2,K2,g1,g2,g3⟩:=hs.take hN n2 K' fun b hb=>by
   rw [h3 b fun hb'=>n3 b hb' b hb rfl]; exact hk b (by simp [hb])
  refine ⟨t' :: t2,K2,by rw [optAllS_cons,h1]; simp only [Option.bind_some,g1],.cons h2 g2,fun b hb=>?_⟩
  rw [List.mem_append,not_or] at hb
  rw [g3 b hb.2,h3 b hb.1]
end
structure FreshB (H H':Heap) (B:List Nat):Prop where
 app:∃ K,H'=H++K
 nodup:B.Nodup
 rng:∀ b ∈ B,H.length≤b∧b < H'.length
theorem FreshB.nil (H:Heap):FreshB H H []:=⟨⟨[],by simp⟩,List.nodup_nil,fun b hb=>by cases hb⟩
theorem FreshB.append {H H1 H2:Heap} {B B':List Nat} (h:FreshB H H1 B) (h':FreshB H1 H2 B'):FreshB H H2 (B++B'):=by
 obtain ⟨K,rfl⟩:=h.app
 obtain ⟨K',rfl⟩:=h'.app
 refine ⟨⟨K++K',by simp⟩,?_,fun b hb=>?_⟩
 ·rw [List.nodup_append]
  refine ⟨h.nodup,h'.nodup,fun a ha b hb e=>?_⟩
  have:=(h.rng a ha).2
  have:=(h'.rng b hb).1
  omega
 ·rcases List.mem_append.mp hb with hb | hb
  ·have:=h.rng b hb
   simp at this ⊢
   omega
  ·have:=h'.rng b hb
   simp at this ⊢
   omega
theorem FreshB.keep {H H':Heap} {B:List Nat} (h:FreshB H H' B) {b:Nat} (hb:b < H.length):getBlk H' b=getBlk H b:=by
 obtain ⟨K,rfl⟩:=h.app
 exact getBlk_left hb
theorem FreshB.len {H H':Heap} {B:List Nat} (h:FreshB H H' B):H.length≤H'.length:=by
 obtain ⟨K,rfl⟩:=h.app
 simp
mutual
theorem NormT.lay:∀ {n t' t},NormT n t' t→∀ {N:Nat},n≤N→∀ H:Heap,∃ B,RepT true (layT N t' H).2 n (layT N t' H).1 t B∧FreshB H (layT N t' H).2 B
 | _,_,_,.sc h,N,_,H=>by rw [layT_scalar h]; exact ⟨[],.sc h,FreshB.nil H⟩
 | _,_,_,.sl0,N,_,H=>by rw [layT_sl0]; exact ⟨[],.sl0,FreshB.nil H⟩
 | _,_,_,.list (n:=n) (rs:=rs) h,N + 1,hN,H=>by
  obtain ⟨B,h1,h2⟩:=h.lay (Nat.le_of_succ_le_succ hN) H
  have hlay:layT (N + 1) (.list rs) H=(.sl (mapS (mapS (layT N)) rs H).2.length 0 rs.length,(mapS (mapS (layT N)) rs H).2++[some (mapS (mapS (layT N)) rs H).1]):=rfl
  rw [hlay]
  have hl:rs.length=(mapS (mapS (layT N)) rs H).1.length:=by
   rw [h1.length]; exact h.length
  rw [hl]
  refine ⟨(mapS (mapS (layT N)) rs H).2.length :: B,.sl (getBlk_self _ _ _) (h1.frame fun b hb=>getBlk_left (h2.rng b hb).2),?_⟩
  obtain ⟨K,hK⟩:=h2.app
  refine ⟨⟨K++[some (mapS (mapS (layT N)) rs H).1],by rw [← List.append_assoc,← hK]⟩,?_,fun b hb=>?_⟩
  ·rw [List.nodup_cons]
   exact ⟨fun hm=>Nat.lt_irrefl _ (h2.rng _ hm).2,h2.nodup⟩
  ·rcases List.mem_cons.mp hb with rfl | hb
   ·have:=h2.len
    simp only [List.length_append,List.length_singleton]
    omega
   ·have:=h2.rng b hb
    simp only [List.length_append,List.length_singleton]
    omega
 | _,_,_,.agg h,N + 1,hN,H=>by
  obtain ⟨B,h1,h2⟩:=h.lay (Nat.le_of_succ_le_succ hN) H
  rw [layT_agg]
  exact ⟨B,.agg h1,h2⟩
 | _,_,_,.tup (n:=n) (cs:=cs) h,N + 1,hN,H=>by
  obtain ⟨B,h1,h2⟩:=h.lay (Nat.le_of_succ_le_succ hN) H
  exact ⟨B,.tup h1,h2⟩
theorem NormR.lay:∀ {n t' t},NormR n t' t→∀ {N:Nat},n≤N→∀ H:Heap,∃ B,RepR true (mapS (layT N) t' H).2 n (mapS (layT N) t' H).1 t B∧FreshB H (mapS (layT N) t' H).2 B
 | _,_,_,.nil,N,_,H=>⟨[],.nil,FreshB.nil H⟩
 | _,_,_,.cons (d:=d) h hs,N,hN,H=>by
  obtain ⟨B,h1,h2⟩:=h.lay hN H
  obtain ⟨B',g1,g2⟩:=hs.lay hN (layT N d H).2
  rw [mapS_cons]
  exact ⟨B++B',.cons (h1.frame fun b hb=>g2.keep (h2.rng b hb).2) g1,h2.append g2⟩
theorem NormRR.lay:∀ {n t' t},NormRR n t' t→∀ {N:Nat},n≤N→∀ H:Heap,∃ B,RepRR true (mapS (mapS (layT N)) t' H).2 n (mapS (mapS (layT N)) t' H).1 t B∧FreshB H (mapS (mapS (layT N)) t' H).2 B
 | _,_,_,.nil,N,_,H=>⟨[],.nil,FreshB.nil H⟩
 | _,_,_,.cons (d:=d) h hs,N,hN,H=>by
  obtain ⟨B,h1,h2⟩:=h.lay hN H
  obtain ⟨B',g1,g2⟩:=hs.lay hN (mapS (layT N) d H).2
  rw [mapS_cons]
  exact ⟨B++B',.cons (h1.frame fun b hb=>g2.keep (h2.rng b hb).2) g1,h2.append g2⟩
theorem NormRR.length:∀ {n t' t},NormRR n t' t→t'.length=t.length
 | _,_,_,.nil=>rfl
 | _,_,_,.cons _ hs=>by simp [hs.length]
end
def OwnC (E:Env) (n:Nat) (g:FuncId) (ts:List D) (t:D):Prop:=∃ d H B,ent E g ts []=some (d,H)∧RepT true H n d t B∧B.Nodup
theorem OwnC.run {E:Env} {n:Nat} {g:FuncId} {ts:List D} {t:D} (h:OwnC E n g ts t) (hn:n≤9) (l:Bool):run E (exec E) l g ts=some t:=by
 obtain ⟨d,H,B,h1,h2,_⟩:=h
 rw [run_ent,h1]
 exact h2.read (.inl rfl) hn
theorem OwnC.callA {E:Env} {n:Nat} {g:FuncId} {ts:List D} {t:D} (h:OwnC E n g ts t) (hn:n≤9) {ds:List D} {H0:Heap} (hr:optAll (readA H0) ds=some ts) :
  ∃ d H B,callFn E (exec E) .own g ds H0=some (d,H)∧RepT true H n d t B∧FreshB H0 H B:=by
 obtain ⟨d,H,B,h1,h2,h3⟩:=h
 obtain ⟨t',K',g1,g2,-⟩:=h2.take (N:=depth) hn h3 H fun _ _=>rfl
 obtain ⟨B',k1,k2⟩:=g2.lay (N:=depth) hn H0
 refine ⟨_,_,B',?_,k1,k2⟩
 rw [call_own,hr]
 simp only [Option.bind_some,runO_ent,h1,g1,Option.map_some]
theorem OwnC.call {E:Env} {n:Nat} {g:FuncId} {ts:List D} {t:D} (h:OwnC E n g ts t) (hn:n≤9) {ds:List D} {H0:Heap} (hr:optAll (readT true depth H0) ds=some ts) :
  ∃ d H B,callFn E (exec E) .own g ds H0=some (d,H)∧RepT true H n d t B∧FreshB H0 H B:=h.callA hn (readA_all hr)
theorem RepR.scalars {o:Bool} {H:Heap} {n:Nat}:∀ {r:List D},r.all D.scalar=true→RepR o H n r r []
 | [],_=>.nil
 | d :: r,h=>by
  simp only [List.all_cons,Bool.and_eq_true] at h
  exact .cons (B:=[]) (B':=[]) (.sc h.1) (RepR.scalars h.2)
theorem RepRR.scalars {o:Bool} {H:Heap} {n:Nat}:∀ {rows:Rows},scalarRows rows→RepRR o H n rows rows []
 | [],_=>.nil
 | r :: rows,h=>.cons (B:=[]) (B':=[]) (RepR.scalars (h r (by simp))) (RepRR.scalars fun r hr=>h r (by simp [hr]))
theorem Acc.rep {o:Bool} {esz:Nat} {H:Heap} {d:D} {rows:Rows} (h:Acc esz H d rows) (hs:scalarRows rows) (n:Nat):∃ B,RepT o H (n + 1) d (.list rows) B∧B.Nodup∧∀ b ∈ B,∃ m,d = .sl b 0 m:=by
 rcases h.2 with ⟨rfl,rfl⟩ | ⟨_,b,rfl,hb⟩
 ·exact ⟨[],.sl0,List.nodup_nil,fun b hb=>by cases hb⟩
 ·exact ⟨[b],.sl hb (RepRR.scalars hs),by simp,fun c hc=>by simp at hc; subst hc; exact ⟨_,rfl⟩⟩
theorem RepT.cell {o:Bool} {H:Heap} {n:Nat} {d t:D} {B:List Nat} (h:RepT o H n d t B) (ht:t.isCell=true):d.isCell=true:=by
 cases h with
 | sc h=>exact ht
 | sl0=>rfl
 | fz h=>rfl
 | sl hb h=>rfl
 | agg h=>cases ht
 | tup h=>cases ht
theorem RepR.cells {o:Bool} {H:Heap}:∀ {n:Nat} {ds ts:List D} {B:List Nat},RepR o H n ds ts B→ts.all D.isCell=true→ds.all D.isCell=true
 | _,_,_,_,.nil,_=>rfl
 | _,_,_,_,.cons h hs,ht=>by
  simp only [List.all_cons,Bool.and_eq_true] at ht ⊢
  exact ⟨h.cell ht.1,hs.cells ht.2⟩
theorem RepR.length {o:Bool} {H:Heap}:∀ {n:Nat} {ds ts:List D} {B:List Nat},RepR o H n ds ts B→ds.length=ts.length
 | _,_,_,_,.nil=>rfl
 | _,_,_,_,.cons _ hs=>by simp [hs.length]
theorem RepRR.append {o:Bool} {H:Heap}:∀ {n:Nat} {ds ts es us:Rows} {B B':List Nat},RepRR o H n ds ts B→RepRR o H n es us B'→RepRR o H n (ds++es) (ts++us) (B++B')
 | _,_,_,_,_,_,_,.nil,h'=>h'
 | _,_,_,_,_,_,_,.cons (B:=B1) (B':=B2) h hs,h'=>by
  rw [List.append_assoc]
  exact .cons h (hs.append h')
theorem RepR.append {o:Bool} {H:Heap}:∀ {n:Nat} {ds ts es us:List D} {B B':List Nat},RepR o H n ds ts B→RepR o H n es us B'→RepR o H n (ds++es) (ts++us) (B++B')
 | _,_,_,_,_,_,_,.nil,h'=>h'
 | _,_,_,_,_,_,_,.cons (B:=B1) (B':=B2) h hs,h'=>by
  rw [List.append_assoc]
  exact .cons h (hs.append h')
def Filling (H:Heap) (b lv n:Nat) (zero:List D) (ts:Rows):Prop:=
 ∃ done B,getBlk H b=some (done++List.replicate (n - ts.length) zero)∧RepRR true H lv done ts B∧B.Nodup∧b ∉ B∧(∀ c ∈ B,c < H.length)∧ts.length≤n
theorem Filling.start (H:Heap) (lv n:Nat) (zero:List D):Filling (H++[some (List.replicate n zero)]) H.length lv n zero []:=
 ⟨[],[],by simp,.nil,List.nodup_nil,by simp,(fun c hc=>by cases hc),by simp⟩
theorem Filling.ia {H:Heap} {b lv n:Nat} {zero:List D} {ts:Rows} (h:Filling H b lv n zero ts) (hlt:ts.length < n) {K:Heap} (hk:getBlk K b=getBlk H b) {k:IntKind} {i:Int} (hi:i=ts.length) {esz:Nat} (he:zero.length=esz) :
  Ev.ia esz K (.sl b 0 n) (.int k i)=some (.ptr b ts.length 0):=by
 obtain ⟨done,B,h1,h2,-⟩:=h
 have hl:=h2.length
 have:(done++List.replicate (n - ts.length) zero)[0 + i.toNat]? = some zero:=by
  rw [List.getElem?_append_right (by omega),List.getElem?_replicate,if_pos (by omega)]
 have:=ia_sl (k:=k) (n:=n) (hk.trans h1) (show 0≤i by omega) (by omega) this he
 rw [this]
 congr 2
 omega
theorem Filling.store {H:Heap} {b lv n:Nat} {zero:List D} {ts:Rows} (h:Filling H b lv n zero ts) (hlt:ts.length < n) {H1:Heap} {v:D} {t:List D} {B1:List Nat} (hr:RepR true H1 lv v.cells t B1) (hf:FreshB H H1 B1) (ht:t.all D.isCell=true) {z:Nat} (hz:t.length=z) (hzero:zero.length=z) :
  ∃ H2,st z H1 (.ptr b ts.length 0) v=some H2∧Filling H2 b lv n zero (ts++[t])∧H2.length=H1.length∧∀ c,c ≠ b→getBlk H2 c=getBlk H1 c:=by
 obtain ⟨done,B,h1,h2,h3,h4,h5,h6⟩:=h
 have hlb:=getBlk_lt' h1
 have hl:=h2.length
 have hb1:getBlk H1 b=some (done++List.replicate (n - ts.length) zero):=(hf.keep hlb).trans h1
 have hrep:List.replicate (n - ts.length) zero=zero :: List.replicate (n - (ts++[t]).length) zero:=by
  rw [show n - ts.length=(n - (ts++[t]).length) + 1 by simp; omega]
  rfl
 have hst:=st_ptr (f:=0) (z:=z) (v:=v) hb1 (i:=ts.length) (row:=zero) (by rw [List.getElem?_append_right (by omega),List.getElem?_replicate,if_pos (by omega)]) (by rw [hr.length,hz]) (hr.cells ht) (by omega)
 refine ⟨_,hst,⟨done++[v.cells],B++B1,?_,?_,?_,?_,?_,?_⟩,by simp,fun c hc=>getBlk_ne hc⟩
 ·rw [getBlk_set_self (getBlk_lt' hb1),hrep,← hl,set_self]
  simp [hzero]
 ·have hne:∀ c ∈ B++B1,c ≠ b:=by
   intro c hc e
   subst e
   rcases List.mem_append.mp hc with hc | hc
   ·exact h4 hc
   ·have:=(hf.rng _ hc).1; omega
  refine RepRR.append ((h2.frame fun c hc=>hf.keep (h5 c hc)).frame fun c hc=>getBlk_ne (hne c (by simp [hc]))) ?_
  have:=RepRR.cons (hr.frame (H':=H1.set b (some ((done++List.replicate (n - ts.length) zero).set ts.length (zero.take 0++v.cells++zero.drop (0 + z))))) fun c hc=>getBlk_ne (hne c (by simp [hc]))) RepRR.nil
  simpa using this
 ·rw [List.nodup_append]
  refine ⟨h3,hf.nodup,fun x hx y hy e=>?_⟩
  have:=h5 x hx
  have:=(hf.rng y hy).1
  omega
 ·intro hc
  rcases List.mem_append.mp hc with hc | hc
  ·exact h4 hc
  ·have:=(hf.rng _ hc).1; omega
 ·intro c hc
  rw [List.length_set]
  rcases List.mem_append.mp hc with hc | hc
  ·have:=h5 c hc; have:=hf.len; omega
  ·exact (hf.rng c hc).2
 ·simp; omega
theorem Filling.done {H:Heap} {b lv n:Nat} {zero:List D} {ts:Rows} (h:Filling H b lv n zero ts) (hn:ts.length=n):∃ B,RepT true H (lv + 1) (.sl b 0 n) (.list ts) (b :: B)∧(b :: B).Nodup:=by
 obtain ⟨done,B,h1,h2,h3,h4,-⟩:=h
 have hl:=h2.length
 rw [hn,Nat.sub_self,List.replicate_zero,List.append_nil] at h1
 refine ⟨B,?_,List.nodup_cons.mpr ⟨h4,h3⟩⟩
 have:=RepT.sl h1 h2
 rwa [hl,hn] at this
theorem mks_eq {eb:Nat} {zero:List D} {H:Heap} {n:Nat} (h1:n * eb≤maxLen) (h2:n≤maxLen) (hz:zero.all D.isCell=true):mks eb zero H (.int .i64 n) (.int .i64 n)=some (.sl H.length 0 n,H++[some (List.replicate n zero)]):=by
 have h3:((n:Int)) * eb≤(maxLen:Nat):=by exact_mod_cast h1
 have h4:((n:Int))≤(maxLen:Nat):=by exact_mod_cast h2
 have hc:0≤(n:Int)∧(n:Int)≤n∧(n:Int) * eb≤(maxLen:Nat)∧(n:Int)≤(maxLen:Nat)∧zero.all D.isCell=true:=⟨Int.natCast_nonneg n,Int.le_refl _,h3,h4,hz⟩
 show (if 0≤(n:Int)∧(n:Int)≤n∧(n:Int) * eb≤(maxLen:Nat)∧(n:Int)≤(maxLen:Nat)∧zero.all D.isCell=true then some (D.sl H.length 0 (n:Int).toNat,H++[some (List.replicate (n:Int).toNat zero)]) else none)=_
 rw [if_pos hc]
 simp
def Conv (G:Heap) (src z0 ds ts zs:List D) (B:List Nat) (lv:Nat):Prop:=
 getBlk G 0=some [src]∧getBlk G 1=some [z0]∧getBlk G 2=some [ds++zs]∧RepR true G lv ds ts B∧B.Nodup∧∀ b ∈ B,3≤b∧b < G.length
theorem Conv.start (src z0:List D) (lv:Nat):Conv [some [src],some [z0],some [z0]] src z0 [] [] z0 [] lv:=
 ⟨rfl,rfl,rfl,.nil,List.nodup_nil,fun b hb=>by cases hb⟩
theorem Conv.len {G:Heap} {src z0 ds ts zs:List D} {B:List Nat} {lv:Nat} (h:Conv G src z0 ds ts zs B lv):3≤G.length:=getBlk_lt' h.2.2.1
theorem Conv.src {G:Heap} {src z0 ds ts zs:List D} {B:List Nat} {lv:Nat} (h:Conv G src z0 ds ts zs B lv) (a:Bool) (z k:Nat):ld a z G (.ptr 0 0 k)=part src (k,z,a):=ld_ptr h.1 rfl
theorem Conv.store {G:Heap} {src z0 ds ts zs:List D} {B:List Nat} {lv:Nat} (h:Conv G src z0 ds ts zs B lv) {G1:Heap} {v:D} {t:List D} {B1:List Nat} (hr:RepR true G1 lv v.cells t B1) (hf:FreshB G G1 B1) (ht:t.all D.isCell=true) {k z:Nat} (hk:k=ts.length) (hz:z=t.length) (hle:z≤zs.length) :
  ∃ G2,st z G1 (.ptr 2 0 k) v=some G2∧Conv G2 src z0 (ds++v.cells) (ts++t) (zs.drop z) (B++B1) lv:=by
 have h3:=h.len
 obtain ⟨h0,h1,h2,h4,h5,h6⟩:=h
 have hl:=h4.length
 have hvl:=hr.length
 have b0:=(hf.keep (by omega)).trans h0
 have b1:=(hf.keep (by omega)).trans h1
 have b2:=(hf.keep (by omega)).trans h2
 subst hk hz
 refine ⟨_,st_ptr b2 rfl hvl (hr.cells ht) (by simp; omega),(getBlk_ne (by decide)).trans b0,(getBlk_ne (by decide)).trans b1,?_,?_,?_,?_⟩
 ·rw [getBlk_set_self (getBlk_lt' b2)]
  have e1:(ds++zs).take ts.length=ds:=by rw [← hl]; simp
  have e2:(ds++zs).drop (ts.length + t.length)=zs.drop t.length:=by rw [← hl,List.drop_append,List.drop_eq_nil_of_le (by omega)]; simp
  simp [e1,e2]
 ·have hne:∀ c ∈ B++B1,c ≠ 2:=by
   intro c hc e
   subst e
   rcases List.mem_append.mp hc with hc | hc
   ·have:=(h6 _ hc).1; omega
   ·have:=(hf.rng _ hc).1; omega
  exact RepR.append ((h4.frame fun c hc=>hf.keep (h6 c hc).2).frame fun c hc=>getBlk_ne (hne c (by simp [hc]))) (hr.frame fun c hc=>getBlk_ne (hne c (by simp [hc])))
 ·rw [List.nodup_append]
  refine ⟨h5,hf.nodup,fun x hx y hy e=>?_⟩
  have:=h6 x hx
  have:=(hf.rng y hy).1
  omega
 ·intro c hc
  rw [List.length_set]
  rcases List.mem_append.mp hc with hc | hc
  ·have:=h6 c hc; have:=hf.len; omega
  ·have:=hf.rng c hc; omega
theorem Conv.finish {G:Heap} {src z0 ds ts:List D} {B:List Nat} {lv:Nat} (h:Conv G src z0 ds ts [] B lv) (ht:ts.all D.isCell=true) {z:Nat} (hz:z=ts.length) (hz0:z=z0.length) :
  ld true z G (.ptr 2 0 0)=some (.agg ds)∧∃ G',st z G (.ptr 1 0 0) (.agg ds)=some G'∧ld true z G' (.ptr 1 0 0)=some (.agg ds)∧RepT true G' (lv + 1) (.agg ds) (.agg ts) B:=by
 obtain ⟨h0,h1,h2,h4,h5,h6⟩:=h
 have hl:=h4.length
 rw [List.append_nil] at h2
 subst hz
 refine ⟨?_,_,st_ptr h1 rfl (show ds.length=_ from hl) (h4.cells ht) (by omega),?_,?_⟩
 ·rw [ld_ptr h2 rfl,part_agg,if_pos (by omega),List.drop_zero,List.take_of_length_le (by omega)]
 ·rw [ld_ptr (getBlk_set_self (getBlk_lt' h1)) rfl,part_agg]
  have e:(z0.take 0++(D.agg ds).cells++z0.drop (0 + ts.length))=ds:=by
   rw [Nat.zero_add,List.drop_eq_nil_of_le (by omega)]; simp [D.cells]
  rw [e,if_pos (by omega),List.drop_zero,List.take_of_length_le (by omega)]
 ·exact .agg (h4.frame fun c hc=>getBlk_ne (by have:=(h6 c hc).1; omega))
end Go.Ev
namespace Go.Ev
set_option linter.unusedVariables false
set_option linter.unusedSimpArgs false
def Mk (H0 H:Heap) (b:Nat) (pre:Rows) (cs ts:List D) (post:Rows) (B:List Nat) (lv:Nat):Prop:=
 getBlk H b=some (pre++cs :: post)∧RepR true H lv cs ts B∧(b :: B).Nodup∧H.length=H0.length∧∀ c,c ≠ b→c ∉ B→getBlk H c=getBlk H0 c
theorem Mk.start {H:Heap} {b:Nat} {pre:Rows} {cs ts:List D} {post:Rows} {B:List Nat} {lv:Nat} (hb:getBlk H b=some (pre++cs :: post)) (hr:RepR true H lv cs ts B) (hn:(b :: B).Nodup):Mk H H b pre cs ts post B lv:=
 ⟨hb,hr,hn,rfl,fun _ _ _=>rfl⟩
theorem row_mid {pre:Rows} {cs:List D} {post:Rows}:(pre++cs :: post)[pre.length]? = some cs:=by simp
theorem Mk.ia {H0 H:Heap} {b:Nat} {pre:Rows} {cs ts:List D} {post:Rows} {B:List Nat} {lv:Nat} (h:Mk H0 H b pre cs ts post B lv) {N:Nat} (hN:pre.length < N) {esz:Nat} (he:ts.length=esz) :
  Ev.ia esz H (.sl b 0 N) (.int .i64 pre.length)=some (.ptr b pre.length 0):=by
 have:=ia_sl (k:=.i64) (o:=0) (i:=(pre.length:Int)) (n:=N) (esz:=esz) h.1 (by omega) (by omega) (row:=cs) (by simp) (by rw [h.2.1.length,he])
 simpa using this
theorem RepR.get {o:Bool} {H:Heap}:∀ {lv:Nat} {ds ts:List D} {B:List Nat},RepR o H lv ds ts B→∀ {f:Nat} {t:D},ts[f]? = some t→∃ d Bf,ds[f]? = some d∧RepT o H lv d t Bf∧(∀ c ∈ Bf,c ∈ B)∧(B.Nodup→Bf.Nodup) ∧
  ∀ {H':Heap} {t':D},(B.Nodup→(∀ c ∈ B,c ∉ Bf→getBlk H' c=getBlk H c)→RepT o H' lv d t' Bf→RepR o H' lv ds (ts.set f t') B)
 | _,_,_,_,.nil,f,t,h=>by simp at h
 | _,_,_,_,.cons (d:=d) (t:=t0) (ds:=ds) (ts:=ts) (B:=B) (B':=B') h hs,0,t,ht=>by
  simp at ht; subst ht
  refine ⟨d,B,rfl,h,fun c hc=>by simp [hc],fun hn=>(List.nodup_append.mp hn).1,fun {H' t'} hn hf h'=>?_⟩
  refine .cons h' (hs.frame fun c hc=>hf c (by simp [hc]) fun hB=>?_)
  exact (List.nodup_append.mp hn).2.2 c hB c hc rfl
 | _,_,_,_,.cons (d:=d) (t:=t0) (ds:=ds) (ts:=ts) (B:=B) (B':=B') h hs,f + 1,t,ht=>by
  obtain ⟨d',Bf,h1,h2,h3,h4,h5⟩:=hs.get (f:=f) (t:=t) (by simpa using ht)
  refine ⟨d',Bf,by simpa using h1,h2,fun c hc=>by simp [h3 c hc],fun hn=>h4 (List.nodup_append.mp hn).2.1,fun {H' t'} hn hf h'=>?_⟩
  rw [List.nodup_append] at hn
  refine .cons (h.frame fun c hc=>hf c (by simp [hc]) fun hB=>hn.2.2 c hc c (h3 c hB) rfl) ?_
  exact h5 hn.2.1 (fun c hc hB=>hf c (by simp [hc]) hB) h'
theorem Mk.get {H0 H:Heap} {b:Nat} {pre:Rows} {cs ts:List D} {post:Rows} {B:List Nat} {lv:Nat} (h:Mk H0 H b pre cs ts post B lv) {f:Nat} {t:D} (ht:ts[f]? = some t) (hl:t.isCell=true) :
  ∃ d Bf,ld false 1 H (.ptr b pre.length f)=some d∧RepT true H lv d t Bf∧Bf.Nodup ∧
  ∀ {H':Heap} {t':D},H'.length=H.length→(∀ c,c ∉ Bf→getBlk H' c=getBlk H c)→RepT true H' lv d t' Bf→Mk H0 H' b pre cs (ts.set f t') post B lv:=by
 obtain ⟨hb,hr,hn,hl0,hf0⟩:=h
 obtain ⟨d,Bf,h1,h2,h3,h4,h5⟩:=hr.get ht
 have hbB:=(List.nodup_cons.mp hn)
 refine ⟨d,Bf,?_,h2,h4 hbB.2,fun {H' t'} hlen hf h'=>⟨?_,?_,hn,by rw [hlen,hl0],fun c hc hB=>?_⟩⟩
 ·rw [ld_ptr hb row_mid]
  have:f + 1≤cs.length:=by
   have:=List.getElem?_eq_some_iff.mp h1
   obtain ⟨w,_⟩:=this; omega
  simp [part,h1]
 ·rw [hf b fun hB=>hbB.1 (h3 b hB)]; exact hb
 ·exact h5 hbB.2 (fun c _ hB=>hf c hB) h'
 ·rw [hf c fun h=>hB (h3 c h)]; exact hf0 c hc hB
theorem RepR.set {o:Bool} {H:Heap}:∀ {lv:Nat} {ds ts:List D} {B:List Nat},RepR o H lv ds ts B→∀ {f:Nat} {t v:D},ts[f]? = some t→t.scalar=true→v.scalar=true→RepR o H lv (ds.set f v) (ts.set f v) B
 | _,_,_,_,.nil,f,t,v,h,_,_=>.nil
 | _,_,_,_,.cons (d:=d) (t:=t0) (ds:=ds) (ts:=ts) (B:=B) (B':=B') h hs,0,t,v,ht,hs1,hv=>by
  simp at ht; subst ht
  cases h with
  | sc h=>exact .cons (.sc hv) hs
  | sl0=>cases hs1
  | fz h=>cases hs1
  | sl h1 h2=>cases hs1
  | agg h=>cases hs1
  | tup h=>cases hs1
 | _,_,_,_,.cons h hs,f + 1,t,v,ht,hs1,hv=>.cons h (hs.set (by simpa using ht) hs1 hv)
theorem Mk.set {H0 H:Heap} {b:Nat} {pre:Rows} {cs ts:List D} {post:Rows} {B:List Nat} {lv:Nat} (h:Mk H0 H b pre cs ts post B lv) {f:Nat} {t v:D} (ht:ts[f]? = some t) (hs:t.scalar=true) (hv:v.scalar=true) (hc:v.cells=[v]) :
  ∃ H' cs',st 1 H (.ptr b pre.length f) v=some H'∧Mk H0 H' b pre cs' (ts.set f v) post B lv:=by
 obtain ⟨hb,hr,hn,hl0,hf0⟩:=h
 have hlen:=hr.length
 have hft:f < ts.length:=by obtain ⟨w,_⟩:=List.getElem?_eq_some_iff.mp ht; exact w
 have hbB:=(List.nodup_cons.mp hn)
 have hcell:v.isCell=true:=by cases v <;> first | rfl | (cases hv; done)
 have hst:=st_ptr (z:=1) (f:=f) (v:=v) hb row_mid (by rw [hc]; rfl) (by rw [hc]; simp [hcell]) (by omega)
 refine ⟨_,_,hst,?_,(hr.set ht hs hv).frame fun c hc=>getBlk_ne (by rintro rfl; exact hbB.1 hc),hn,by simpa using hl0,fun c hc hB=>by rw [getBlk_ne hc]; exact hf0 c hc hB⟩
 rw [getBlk_set_self (getBlk_lt' hb),hc]
 simp only [set_self]
 congr 4
 rw [List.set_eq_take_append_cons_drop,if_pos (by omega)]
 simp
end Go.Ev
namespace Go.Ev
set_option linter.unusedVariables false
set_option linter.unusedSimpArgs false
mutual
theorem RepT.kill {H:Heap}:∀ {n d t B},RepT true H n d t B→∀ (N:Nat) (K:Heap),(killT N H d K).length=K.length∧∀ c,c ∉ B→getBlk (killT N H d K) c=getBlk K c
 | _,_,_,_,_,0,K=>⟨rfl,fun _ _=>rfl⟩
 | _,d,_,_,.sc h,N + 1,K=>by
  have:killT (N + 1) H d K=K:=by cases d <;> first | rfl | (cases h; done)
  rw [this]; exact ⟨rfl,fun _ _=>rfl⟩
 | _,_,_,_,.sl0,N + 1,K=>⟨rfl,fun _ _=>rfl⟩
 | _,_,_,_,.sl (b:=b) (rows:=rows) hb h,N + 1,K=>by
  have e:killT (N + 1) H (.sl b 0 rows.length) K=rows.foldl (fun K (r:List D)=>r.foldl (fun K c=>killT N H c K) K) (K.set b none):=by
   simp [killT,hb]
  rw [e]
  obtain ⟨h1,h2⟩:=h.kill N (K.set b none)
  refine ⟨by rw [h1]; simp,fun c hc=>?_⟩
  rw [List.mem_cons,not_or] at hc
  rw [h2 c hc.2,getBlk_ne hc.1]
 | _,_,_,_,.agg h,N + 1,K=>h.kill N K
 | _,_,_,_,.tup h,N + 1,K=>h.kill N K
theorem RepR.kill {H:Heap}:∀ {n d t B},RepR true H n d t B→∀ (N:Nat) (K:Heap),(d.foldl (fun K c=>killT N H c K) K).length=K.length∧∀ c,c ∉ B→getBlk (d.foldl (fun K c=>killT N H c K) K) c=getBlk K c
 | _,_,_,_,.nil,N,K=>⟨rfl,fun _ _=>rfl⟩
 | _,_,_,_,.cons (d:=d) h hs,N,K=>by
  obtain ⟨h1,h2⟩:=h.kill N K
  obtain ⟨h3,h4⟩:=hs.kill N (killT N H d K)
  refine ⟨by rw [List.foldl_cons,h3,h1],fun c hc=>?_⟩
  rw [List.mem_append,not_or] at hc
  rw [List.foldl_cons,h4 c hc.2,h2 c hc.1]
theorem RepRR.kill {H:Heap}:∀ {n d t B},RepRR true H n d t B→∀ (N:Nat) (K:Heap),(d.foldl (fun K (r:List D)=>r.foldl (fun K c=>killT N H c K) K) K).length=K.length∧∀ c,c ∉ B→getBlk (d.foldl (fun K (r:List D)=>r.foldl (fun K c=>killT N H c K) K) K) c=getBlk K c
 | _,_,_,_,.nil,N,K=>⟨rfl,fun _ _=>rfl⟩
 | _,_,_,_,.cons (d:=d) h hs,N,K=>by
  obtain ⟨h1,h2⟩:=h.kill N K
  obtain ⟨h3,h4⟩:=hs.kill N (d.foldl (fun K c=>killT N H c K) K)
  refine ⟨by rw [List.foldl_cons,h3,h1],fun c hc=>?_⟩
  rw [List.mem_append,not_or] at hc
  rw [List.foldl_cons,h4 c hc.2,h2 c hc.1]
end
theorem RepT.val {o:Bool} {H:Heap} {n:Nat} {d t:D} {B:List Nat} (h:RepT o H n d t B) (ht:t.scalar=true):d=t∧B=[]:=by
 cases h with
 | sc h=>exact ⟨rfl,rfl⟩
 | sl0=>cases ht
 | fz h=>cases ht
 | sl hb h=>cases ht
 | agg h=>cases ht
 | tup h=>cases ht
abbrev Thing:=D×D×List Nat
def blks (L:List Thing):List Nat:=L.flatMap (·.2.2)
theorem blks_cons (e:Thing) (L:List Thing):blks (e :: L)=e.2.2++blks L:=rfl
theorem blks_append (A L:List Thing):blks (A++L)=blks A++blks L:=by simp [blks]
theorem mem_blks {e:Thing} {L:List Thing} (h:e ∈ L) {b:Nat} (hb:b ∈ e.2.2):b ∈ blks L:=List.mem_flatMap.mpr ⟨e,h,hb⟩
structure Live (H:Heap) (L:List Thing):Prop where
 rep:∀ e ∈ L,RepT true H 8 e.1 e.2.1 e.2.2
 nd:(blks L).Nodup
 lt:∀ b ∈ blks L,b < H.length
theorem Live.nil (H:Heap):Live H []:=⟨fun e he=>(by cases he),List.nodup_nil,fun b hb=>(by cases hb)⟩
theorem Live.read {H:Heap} {L:List Thing} (h:Live H L) {e:Thing} (he:e ∈ L):readT true depth H e.1=some e.2.1:=(h.rep e he).read (.inl rfl) (by decide)
def Reads (H:Heap):List Thing→Prop
 | []=>True
 | e :: L=>readT true depth H e.1=some e.2.1∧Reads H L
theorem Live.reads {H:Heap} {L:List Thing} (h:Live H L):Reads H L:=by
 have:∀ L':List Thing,(∀ e ∈ L',e ∈ L)→Reads H L':=by
  intro L'
  induction L' with
  | nil=>intro _; trivial
  | cons e L' ih=>intro hs; exact ⟨h.read (hs e (by simp)),ih fun x hx=>hs x (by simp [hx])⟩
 exact this L fun _ h=>h
theorem pure_call {E:Env} {g:FuncId} {ds ts:List D} {t:D} {H:Heap} (hr:optAll (readT true depth H) ds=some ts) (hp:run E (exec E) false g ts=some t):callFn E (exec E) .pure g ds H=some (t,H):=by
 rw [call_pure,readA_all hr]; simp only [Option.bind_some,hp]
theorem Live.add {H H':Heap} {L:List Thing} (h:Live H L) {d t:D} {B:List Nat} (hr:RepT true H' 8 d t B) (hf:FreshB H H' B):Live H' ((d,t,B) :: L):=by
 refine ⟨fun e he=>?_,?_,fun b hb=>?_⟩
 ·rcases List.mem_cons.mp he with rfl | he
  ·exact hr
  ·exact (h.rep e he).frame fun b hb=>hf.keep (h.lt b (mem_blks he hb))
 ·rw [blks_cons,List.nodup_append]
  refine ⟨hf.nodup,h.nd,fun a ha b hb e=>?_⟩
  have:=(hf.rng a ha).1
  have:=h.lt b hb
  omega
 ·rw [blks_cons,List.mem_append] at hb
  rcases hb with hb | hb
  ·exact (hf.rng b hb).2
  ·have:=h.lt b hb; have:=hf.len; omega
theorem Live.ownA {E:Env} {H:Heap} {L:List Thing} (h:Live H L) {n:Nat} {g:FuncId} {ts:List D} {t:D} (ho:OwnC E n g ts t) (hn:n≤8) {ds:List D} (hr:optAll (readA H) ds=some ts) :
  ∃ d H' B,callFn E (exec E) .own g ds H=some (d,H')∧Live H' ((d,t,B) :: L):=by
 obtain ⟨d,H',B,h1,h2,h3⟩:=ho.callA (by omega) hr
 exact ⟨d,H',B,h1,h.add (h2.up hn) h3⟩
theorem Live.own {E:Env} {H:Heap} {L:List Thing} (h:Live H L) {n:Nat} {g:FuncId} {ts:List D} {t:D} (ho:OwnC E n g ts t) (hn:n≤8) {ds:List D} (hr:optAll (readT true depth H) ds=some ts) :
  ∃ d H' B,callFn E (exec E) .own g ds H=some (d,H')∧Live H' ((d,t,B) :: L):=h.ownA ho hn (readA_all hr)
theorem Live.drop {H:Heap} {e:Thing} {L:List Thing} (h:Live H (e :: L)):Live H L:=by
 have hn:=h.nd
 rw [blks_cons] at hn
 exact ⟨fun x hx=>h.rep x (by simp [hx]),(List.nodup_append.mp hn).2.1,fun b hb=>h.lt b (by rw [blks_cons]; simp [hb])⟩
theorem Live.perm {H:Heap} {L L':List Thing} (h:Live H L) (hp:L.Perm L'):Live H L':=by
 have hb:(blks L).Perm (blks L'):=hp.flatMap_right _
 exact ⟨fun x hx=>h.rep x (hp.mem_iff.mpr hx),hb.nodup_iff.mp h.nd,fun b hx=>h.lt b (hb.mem_iff.mpr hx)⟩
theorem Live.kills {H:Heap} {dead rest:List Thing} (h:Live H (dead++rest)):∀ {ds:List D},(∀ d ∈ ds,(∃ e ∈ dead,e.1=d)∨∀ K,killT depth H d K=K)→∀ K:Heap,(ds.foldl (fun K d=>killT depth H d K) K).length=K.length∧∀ c,c ∉ blks dead→getBlk (ds.foldl (fun K d=>killT depth H d K) K) c=getBlk K c
 | [],_,K=>⟨rfl,fun _ _=>rfl⟩
 | d :: ds,hd,K=>by
  have h1:(killT depth H d K).length=K.length∧∀ c,c ∉ blks dead→getBlk (killT depth H d K) c=getBlk K c:=by
   rcases hd d (by simp) with ⟨e,he,rfl⟩ | hk
   ·obtain ⟨h1,h2⟩:=(h.rep e (by simp [he])).kill depth K
    exact ⟨h1,fun c hc=>h2 c fun hb=>hc (mem_blks he hb)⟩
   ·rw [hk]; exact ⟨rfl,fun _ _=>rfl⟩
  obtain ⟨h3,h4⟩:=h.kills (ds:=ds) (fun d hd'=>hd d (by simp [hd'])) (killT depth H d K)
  exact ⟨by rw [List.foldl_cons,h3,h1.1],fun c hc=>by rw [List.foldl_cons,h4 c hc,h1.2 c hc]⟩
theorem Live.view {E:Env} {H:Heap} {dead rest:List Thing} (h:Live H (dead++rest)) {g:FuncId} {ts:List D} {t:D} (hv:run E (exec E) true g ts=some t) {ds:List D} (hr:optAll (readT true depth H) ds=some ts) (hd:∀ d ∈ ds,(∃ e ∈ dead,e.1=d)∨∀ K,killT depth H d K=K) :
  ∃ H',callFn E (exec E) .view g ds H=some (t,H')∧Live H' rest:=by
 obtain ⟨h1,h2⟩:=h.kills hd H
 have hnd:=h.nd
 rw [blks_append] at hnd
 rw [call_view,hr]
 simp only [Option.bind_some,hv]
 refine ⟨_,rfl,fun e he=>?_,(List.nodup_append.mp hnd).2.1,fun b hb=>?_⟩
 ·refine (h.rep e (by simp [he])).frame fun b hb=>h2 b fun hx=>?_
  exact (List.nodup_append.mp hnd).2.2 b hx b (mem_blks he hb) rfl
 ·rw [h1]; exact h.lt b (by rw [blks_append]; simp [hb])
theorem Live.val {H:Heap} {d t:D} {B:List Nat} {L:List Thing} (h:Live H ((d,t,B) :: L)) (ht:t.scalar=true):d=t∧Live H L:=
 ⟨((h.rep _ List.mem_cons_self).val ht).1,h.drop⟩
end Go.Ev
