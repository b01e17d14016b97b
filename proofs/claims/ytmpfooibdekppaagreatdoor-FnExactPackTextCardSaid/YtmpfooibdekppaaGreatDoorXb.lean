import Derived.Test.YtmpfooibdekppaaGreatDoorXa
namespace Go.Ev
set_option linter.unusedVariables false
set_option linter.unusedSimpArgs false
@[simp] theorem getBlk_zero (x:Option Rows) (H:Heap):getBlk (x :: H) 0=x:=rfl
@[simp] theorem getBlk_succ (x:Option Rows) (H:Heap) (n:Nat):getBlk (x :: H) (n + 1)=getBlk H n:=rfl
@[simp] theorem getBlk_nil (n:Nat):getBlk [] n=none:=by cases n <;> rfl
@[simp] theorem getBlk_1 (x0 x1:Option Rows) (H:Heap):getBlk (x0 :: x1 :: H) 1=x1:=rfl
@[simp] theorem getBlk_2 (x0 x1 x2:Option Rows) (H:Heap):getBlk (x0 :: x1 :: x2 :: H) 2=x2:=rfl
@[simp] theorem getBlk_3 (x0 x1 x2 x3:Option Rows) (H:Heap):getBlk (x0 :: x1 :: x2 :: x3 :: H) 3=x3:=rfl
@[simp] theorem getBlk_4 (x0 x1 x2 x3 x4:Option Rows) (H:Heap):getBlk (x0 :: x1 :: x2 :: x3 :: x4 :: H) 4=x4:=rfl
@[simp] theorem getBlk_5 (x0 x1 x2 x3 x4 x5:Option Rows) (H:Heap):getBlk (x0 :: x1 :: x2 :: x3 :: x4 :: x5 :: H) 5=x5:=rfl
@[simp] theorem getBlk_6 (x0 x1 x2 x3 x4 x5 x6:Option Rows) (H:Heap):getBlk (x0 :: x1 :: x2 :: x3 :: x4 :: x5 :: x6 :: H) 6=x6:=rfl
@[simp] theorem getBlk_7 (x0 x1 x2 x3 x4 x5 x6 x7:Option Rows) (H:Heap):getBlk (x0 :: x1 :: x2 :: x3 :: x4 :: x5 :: x6 :: x7 :: H) 7=x7:=rfl
@[simp] theorem getBlk_8 (x0 x1 x2 x3 x4 x5 x6 x7 x8:Option Rows) (H:Heap):getBlk (x0 :: x1 :: x2 :: x3 :: x4 :: x5 :: x6 :: x7 :: x8 :: H) 8=x8:=rfl
def i64 (n:Int):Prop:=-9223372036854775808≤n∧n≤9223372036854775807
inductive Shp where
 | int (k:IntKind)
 | bool
 | str
 | list (r:List Shp)
theorem getBlk_lt' {H:Heap} {b:Nat} {r:Rows} (h:getBlk H b=some r):b < H.length:=by
 unfold getBlk at h
 rcases Nat.lt_or_ge b H.length with h' | h'
 ·exact h'
 ·rw [List.getElem?_eq_none h'] at h; cases h
theorem getBlk_left {H K:Heap} {b:Nat} (h:b < H.length):getBlk (H++K) b=getBlk H b:=by
 unfold getBlk; rw [List.getElem?_append_left h]
@[simp] theorem getBlk_self (H:Heap) (r:Rows) (K:Heap):getBlk (H++some r :: K) H.length=some r:=by
 unfold getBlk; simp
@[simp] theorem getBlk_two (H:Heap) (r s:Rows):getBlk (H++[some r]++[some s]) H.length=some r:=by
 rw [List.append_assoc]; exact getBlk_self H r _
theorem getBlk_app {H K:Heap} {b:Nat} {r:Rows} (h:getBlk H b=some r):getBlk (H++K) b=some r:=by
 rw [getBlk_left (getBlk_lt' h)]; exact h
theorem getBlk_ne {H:Heap} {b c:Nat} {x:Option Rows} (h:b ≠ c):getBlk (H.set c x) b=getBlk H b:=by
 unfold getBlk
 rw [List.getElem?_set_ne (Ne.symm h)]
theorem bsl_one {esz:Nat} {zero:List D} {H:Heap} {v:D} (h1:esz≤65536) (hz:zero.all D.isCell=true) (h2:v.cells.length=esz) (h3:v.cells.all D.isCell=true) :
  bsl esz zero H 1 [(0,v)]=some (.sl H.length 0 1,H++[some [v.cells]]):=by
 simp [bsl,h1,hz,h2,h3,fillR]
theorem bsl_zero (esz:Nat) (zero:List D) (H:Heap) (hz:zero.all D.isCell=true):bsl esz zero H 0 []=some (.sl0,H):=by
 simp [bsl,hz,fillR]
def Acc (esz:Nat) (H:Heap) (d:D) (rows:Rows):Prop:=
 (∀ r ∈ rows,r.length=esz)∧((rows=[]∧d = .sl0)∨(rows ≠ []∧∃ b,d = .sl b 0 rows.length∧getBlk H b=some rows))
theorem Acc.nil (esz:Nat) (H:Heap):Acc esz H .sl0 []:=⟨(fun r h=>by cases h),.inl ⟨rfl,rfl⟩⟩
theorem Acc.app {esz:Nat} {H:Heap} {d:D} {rows:Rows} (h:Acc esz H d rows) (K:Heap):Acc esz (H++K) d rows:=
 ⟨h.1,h.2.imp id fun ⟨h1,b,h2,h3⟩=>⟨h1,b,h2,getBlk_app h3⟩⟩
theorem Acc.len {esz:Nat} {H:Heap} {d:D} {rows:Rows} (h:Acc esz H d rows):lnL d=some (.int .i64 rows.length):=by
 rcases h.2 with ⟨rfl,rfl⟩ | ⟨_,b,rfl,_⟩ <;> rfl
def Kept (d:D) (H H':Heap):Prop:=H.length≤H'.length∧∀ b,b < H.length→(∀ o n,d ≠ .sl b o n)→getBlk H' b=getBlk H b
theorem Kept.refl (d:D) (H:Heap):Kept d H H:=⟨Nat.le_refl _,fun _ _ _=>rfl⟩
theorem app_rows {esz eb:Nat} {H:Heap} {d x:D} {rows xs:Rows} (h:Acc esz H d rows) (hs:srcRows H x=some xs) (hx:∀ r ∈ xs,r.length=esz) (hne:xs ≠ []) (hm:(rows.length + xs.length) * (eb + 1)≤maxLen) :
  ∃ d' H',app esz eb H d x=some (d',H')∧Acc esz H' d' (rows++xs)∧Kept d H H'∧d' = .sl H.length 0 (rows.length + xs.length):=by
 have hfit:rowsFit esz xs=true:=by
  cases xs with
  | nil=>rfl
  | cons a l=>simpa [rowsFit] using hx a (by simp)
 have hrows:∀ r ∈ rows++xs,r.length=esz:=fun r hr=>(List.mem_append.mp hr).elim (h.1 r) (hx r)
 rcases h.2 with ⟨rfl,rfl⟩ | ⟨h1,b,rfl,h3⟩
 ·refine ⟨.sl H.length 0 xs.length,H++[some xs],?_,⟨hrows,.inr ⟨by simpa using hne,H.length,by simp,by simp⟩⟩,⟨by simp,fun b hb _=>getBlk_left hb⟩,by simp⟩
  have:xs.length * (eb + 1)≤maxLen:=by simpa using hm
  have h0:xs.isEmpty=false:=by cases xs with
   | nil=>exact absurd rfl hne
   | cons a l=>rfl
  simp [Ev.app,hs,hfit,this,h0,hne]
 ·have hpos:0 < rows.length:=List.length_pos_iff.mpr h1
  have hf2:rowsFit esz rows=true:=by
   cases rows with
   | nil=>rfl
   | cons a l=>simpa [rowsFit] using h.1 a (by simp)
  refine ⟨.sl H.length 0 (rows.length + xs.length),H.set b none++[some (rows++xs)],?_,⟨hrows,.inr ⟨by simp [h1],H.length,by simp,?_⟩⟩,⟨by simp,fun c hc hn=>?_⟩,rfl⟩
  ·simp [Ev.app,hs,hfit,h3,hpos,hf2,hm]
  ·have:=getBlk_self (H.set b none) (rows++xs) []
   rwa [List.length_set] at this
  ·rw [getBlk_left (by simpa using hc),getBlk_ne]
   rintro rfl
   exact hn _ _ rfl
theorem app_one {esz eb:Nat} {H:Heap} {d:D} {rows:Rows} {c:List D} (h:Acc esz H d rows) (hc:c.length=esz) (hm:(rows.length + 1) * (eb + 1)≤maxLen) :
  ∃ d' H',app esz eb (H++[some [c]]) d (.sl H.length 0 1)=some (d',H')∧Acc esz H' d' (rows++[c])∧Kept d H H':=by
 obtain ⟨d',H',h1,h2,h3,-⟩:=app_rows (eb:=eb) (xs:=[c]) (x:=.sl H.length 0 1) (h.app [some [c]]) (by simp [srcRows]) (by simpa using hc) (by simp) (by simpa using hm)
 exact ⟨d',H',h1,h2,by have:=h3.1; simp at this; omega,fun b hb hn=>by rw [h3.2 b (by simp; omega) hn,getBlk_left hb]⟩
def plainRows (rows:Rows):Prop:=∀ r ∈ rows,∀ (l:Bool) (n:Nat) (H:Heap),optAll (readT l n H) r=some r
theorem optAll_self {α:Type} {f:α→Option α}:∀ {l:List α},(∀ a ∈ l,f a=some a)→optAll f l=some l
 | [],_=>rfl
 | a :: l,h=>by
  rw [optAll_cons,h a (by simp),optAll_self fun x hx=>h x (by simp [hx])]
  rfl
theorem Acc.read {esz:Nat} {H:Heap} {d:D} {rows:Rows} (h:Acc esz H d rows) (hp:plainRows rows) (l:Bool) (n:Nat):readT l (n + 1) H d=some (.list rows):=by
 rcases h.2 with ⟨rfl,rfl⟩ | ⟨h1,b,rfl,h3⟩
 ·rfl
 ·simp only [readT,h3,Option.bind_some,Nat.zero_add,Nat.le_refl,if_true,List.drop_zero,List.take_length]
  rw [optAll_self fun r hr=>hp r hr l n H]
  rfl
@[simp] theorem set_self {α:Type} (H:List α) (r x:α) (K:List α):(H++r :: K).set H.length x=H++x :: K:=by
 induction H with
 | nil=>rfl
 | cons a H ih=>simp
@[simp] theorem get_self {α:Type} (H:List α) (r:α) (K:List α):(H++r :: K)[H.length]? = some r:=by simp
theorem getBlk_set_self {H:Heap} {b:Nat} {x:Option Rows} (h:b < H.length):getBlk (H.set b x) b=x:=by
 unfold getBlk; simp [h]
@[simp] theorem alloc_eq (H:Heap) (cells:List D) (k:D→Heap→R) (h:cells.all D.isCell=true):alloc_ H cells k=k (.ptr H.length 0 0) (H++[some [cells]]):=by
 simp [alloc_,h]
theorem st_ptr {z:Nat} {H:Heap} {b i f:Nat} {v:D} {rows:Rows} {row:List D} (hb:getBlk H b=some rows) (hr:rows[i]? = some row) (hz:v.cells.length=z) (hc:v.cells.all D.isCell=true) (hf:f + z≤row.length) :
  st z H (.ptr b i f) v=some (H.set b (some (rows.set i (row.take f++v.cells++row.drop (f + z))))):=by
 subst hz
 simp [st,hb,hr,hc,storeRow,hf]
theorem ld_ptr {a:Bool} {z:Nat} {H:Heap} {b i f:Nat} {rows:Rows} {row:List D} (hb:getBlk H b=some rows) (hr:rows[i]? = some row):ld a z H (.ptr b i f)=part row (f,z,a):=by
 simp [ld,getRow,hb,hr]
theorem ia_sl {esz:Nat} {H:Heap} {b o n:Nat} {k:IntKind} {i:Int} {rows:Rows} {row:List D} (hb:getBlk H b=some rows) (h0:0≤i) (h1:i < n) (hr:rows[o + i.toNat]? = some row) (he:row.length=esz) :
  ia esz H (.sl b o n) (.int k i)=some (.ptr b (o + i.toNat) 0):=by
 simp [ia,h0,h1,rowLen,getRow,hb,hr,he]
def scalarRows (rows:Rows):Prop:=∀ r ∈ rows,r.all D.scalar=true
theorem takeT_scalar {n:Nat} {d:D} {H:Heap} (h:d.scalar=true):takeT n d H=some (d,H):=by
 cases n with
 | zero=>simp [takeT,h]
 | succ n=>cases d <;> first | rfl | (cases h; done)
theorem layT_scalar {n:Nat} {d:D} {H:Heap} (h:d.scalar=true):layT n d H=(d,H):=by
 cases n with
 | zero=>rfl
 | succ n=>cases d <;> first | rfl | (cases h; done)
theorem optAllS_self {α:Type} {f:α→Heap→Option (α×Heap)}:∀ {l:List α} {H:Heap},(∀ a ∈ l,∀ H,f a H=some (a,H))→optAllS f l H=some (l,H)
 | [],_,_=>rfl
 | a :: l,H,h=>by
  show ((f a H).bind fun r=>(optAllS f l r.2).bind fun q=>some (r.1 :: q.1,q.2))=_
  rw [h a (by simp)]
  simp only [Option.bind_some]
  rw [optAllS_self fun x hx=>h x (by simp [hx])]
  rfl
theorem mapS_self {α:Type} {f:α→Heap→α×Heap}:∀ {l:List α} {H:Heap},(∀ a ∈ l,∀ H,f a H=(a,H))→mapS f l H=(l,H)
 | [],_,_=>rfl
 | a :: l,H,h=>by
  show ((f a H).1 :: (mapS f l (f a H).2).1,(mapS f l (f a H).2).2)=_
  rw [h a (by simp)]
  simp only
  rw [mapS_self fun x hx=>h x (by simp [hx])]
theorem takeT_rows {n:Nat} {rows:Rows} {H:Heap} (h:scalarRows rows):optAllS (optAllS (takeT n)) rows H=some (rows,H):=
 optAllS_self fun r hr H=>optAllS_self fun d hd H=>takeT_scalar (List.all_eq_true.mp (h r hr) d hd)
theorem layT_rows {n:Nat} {rows:Rows} {H:Heap} (h:scalarRows rows):mapS (mapS (layT n)) rows H=(rows,H):=
 mapS_self fun r hr H=>mapS_self fun d hd H=>layT_scalar (List.all_eq_true.mp (h r hr) d hd)
theorem layT_list {n:Nat} {rows:Rows} {H:Heap} (h:scalarRows rows):layT (n + 1) (.list rows) H=(.sl H.length 0 rows.length,H++[some rows]):=by
 simp only [layT,layT_rows h]
theorem takeT_sl {n b:Nat} {rows:Rows} {H:Heap} (hb:getBlk H b=some rows) (h:scalarRows rows):takeT (n + 1) (.sl b 0 rows.length) H=some (.list rows,H.set b none):=by
 simp [takeT,hb,takeT_rows h]
theorem Acc.take {esz:Nat} {H:Heap} {d:D} {rows:Rows} (h:Acc esz H d rows) (hne:rows ≠ []) (hs:scalarRows rows) (n:Nat):∃ H',takeT (n + 1) d H=some (.list rows,H'):=by
 rcases h.2 with ⟨rfl,_⟩ | ⟨_,b,rfl,hb⟩
 ·exact absurd rfl hne
 ·exact ⟨_,takeT_sl hb hs⟩
@[simp] theorem takeT_tup9 (ds:List D) (H:Heap):takeT depth (.tup ds) H=(optAllS (takeT 8) ds H).map fun r=>(.tup r.1,r.2):=rfl
@[simp] theorem takeT_agg9 (ds:List D) (H:Heap):takeT depth (.agg ds) H=(optAllS (takeT 8) ds H).map fun r=>(.agg r.1,r.2):=rfl
@[simp] theorem takeT_agg (n:Nat) (ds:List D) (H:Heap):takeT (n + 1) (.agg ds) H=(optAllS (takeT n) ds H).map fun r=>(.agg r.1,r.2):=rfl
@[simp] theorem takeT_sl0 (n:Nat) (H:Heap):takeT (n + 1) .sl0 H=some (.sl0,H):=rfl
@[simp] theorem takeT_int (n:Nat) (k:IntKind) (i:Int) (H:Heap):takeT n (.int k i) H=some (.int k i,H):=takeT_scalar rfl
@[simp] theorem takeT_bool (n:Nat) (b:Bool) (H:Heap):takeT n (.bool b) H=some (.bool b,H):=takeT_scalar rfl
@[simp] theorem takeT_str (n:Nat) (s:List UInt8) (H:Heap):takeT n (.str s) H=some (.str s,H):=takeT_scalar rfl
@[simp] theorem optAllS_nil {α β:Type} (f:α→Heap→Option (β×Heap)) (H:Heap):optAllS f [] H=some ([],H):=rfl
@[simp] theorem optAllS_cons {α β:Type} (f:α→Heap→Option (β×Heap)) (a:α) (l:List α) (H:Heap):optAllS f (a :: l) H=(f a H).bind fun r=>(optAllS f l r.2).bind fun q=>some (r.1 :: q.1,q.2):=rfl
@[simp] theorem layT_tup9 (ds:List D) (H:Heap):layT depth (.tup ds) H=(.tup (mapS (layT 8) ds H).1,(mapS (layT 8) ds H).2):=rfl
@[simp] theorem layT_agg9 (ds:List D) (H:Heap):layT depth (.agg ds) H=(.agg (mapS (layT 8) ds H).1,(mapS (layT 8) ds H).2):=rfl
@[simp] theorem layT_agg (n:Nat) (ds:List D) (H:Heap):layT (n + 1) (.agg ds) H=(.agg (mapS (layT n) ds H).1,(mapS (layT n) ds H).2):=rfl
@[simp] theorem layT_sl0 (n:Nat) (H:Heap):layT n .sl0 H=(.sl0,H):=by cases n <;> rfl
@[simp] theorem layT_int (n:Nat) (k:IntKind) (i:Int) (H:Heap):layT n (.int k i) H=(.int k i,H):=layT_scalar rfl
@[simp] theorem layT_bool (n:Nat) (b:Bool) (H:Heap):layT n (.bool b) H=(.bool b,H):=layT_scalar rfl
@[simp] theorem layT_str (n:Nat) (s:List UInt8) (H:Heap):layT n (.str s) H=(.str s,H):=layT_scalar rfl
@[simp] theorem mapS_nil {α β:Type} (f:α→Heap→β×Heap) (H:Heap):mapS f [] H=([],H):=rfl
@[simp] theorem mapS_cons {α β:Type} (f:α→Heap→β×Heap) (a:α) (l:List α) (H:Heap):mapS f (a :: l) H=((f a H).1 :: (mapS f l (f a H).2).1,(mapS f l (f a H).2).2):=rfl
theorem drop_dec {α:Type} [DecidableEq α] {a b:List α} {i:Nat} (ha:i < a.length) (hb:i < b.length):decide (a.drop i=b.drop i)=(decide (a[i]=b[i]) && decide (a.drop (i + 1)=b.drop (i + 1))):=by
 rw [Bool.eq_iff_iff]
 simp only [decide_eq_true_eq,Bool.and_eq_true]
 rw [List.drop_eq_getElem_cons ha,List.drop_eq_getElem_cons hb,List.cons.injEq]
theorem readT_slE (l:Bool) (n:Nat) (H:Heap) (b off len:Nat):readT l (n + 1) H (.sl b off len)=(getBlk H b).bind fun rows=>if off + len≤rows.length then (optAll (optAll (readT l n H)) ((rows.drop off).take len)).map .list else none:=rfl
@[simp] theorem take_map_len {α β:Type} (f:α→β) (l:List α):(l.map f).take l.length=l.map f:=List.take_of_length_le (by simp)
@[simp] theorem killT_int (H K:Heap) (k:IntKind) (n:Int):killT depth H (.int k n) K=K:=rfl
@[simp] theorem killT_bool (H K:Heap) (b:Bool):killT depth H (.bool b) K=K:=rfl
@[simp] theorem killT_str (H K:Heap) (s:List UInt8):killT depth H (.str s) K=K:=rfl
@[simp] theorem killT_list (H K:Heap) (r:Rows):killT depth H (.list r) K=K:=rfl
@[simp] theorem killT_sl0 (H K:Heap):killT depth H .sl0 K=K:=rfl
end Go.Ev
