import Derived.Test.YtmpfooibdekppaaGreatDoorEvA
import Derived.Tactics
import Derived.Below
import Derived.WideLaws
import Derived.Laws.Slices
import Derived.Laws.Strings
import Derived.Laws.IdiomStrings
import Derived.Laws.IdiomCopy
import Derived.Laws.BytesArg
import Derived.Laws.MakeOwn
import Derived.Laws.OwnMore
import Derived.Laws.Append
import Derived.Laws.Build
import Derived.Laws.Concat
import Derived.Laws.Cover1
import Derived.KernelRfl
import Derived.Laws.StructEq
import Derived.Laws.Small
import Derived.Lib.SliceRun
namespace Go.Ev
open Go.RowKit
set_option linter.unusedVariables false
set_option linter.unusedSimpArgs false
structure Pl where
 rb:Nat
 ro:Nat
 e:Nat
 C:Nat
structure Inj where
 pl:Nat→Option Pl
 fz:Nat→Option Obj
instance:CoeFun Inj (fun _=>Nat→Option Pl):=⟨Inj.pl⟩
abbrev Frz:=Nat→Option Obj
def FzR (fz:Frz) (rb o:Nat) (vs:List Value):Prop:=
 ∃ cs el fr,fz rb=some (.cells cs el fr)∧∀ (k:Nat) v,vs[k]? = some v→cs[o + k]? = some v
def Fz (fz:Frz) (e rb ro:Nat) (vss:List (List Value)):Prop:=
 ∃ cs el fr,fz rb=some (.cells cs el fr)∧∀ (i:Nat) vs,vss[i]? = some vs→vs.length=e∧∀ (k:Nat) v,vs[k]? = some v→cs[ro + i * e + k]? = some v
mutual
inductive FR (fz:Frz):D→Value→Prop
 | int (k n):FR fz (.int k n) (.int k n)
 | bool (b):FR fz (.bool b) (.bool b)
 | str (l:List UInt8):FR fz (.str l) (.string ⟨l.toArray⟩)
 | list {rows vss a len cap} (hl:rows.length=len) (h1:len≤cap) (h:FRRs fz rows vss) (hm:rows=[]∨∃ e rb ro,a=some ⟨rb,ro,none⟩∧Fz fz e rb ro vss):FR fz (.list rows) (.slice a len cap)
inductive FRs (fz:Frz):List D→List Value→Prop
 | nil:FRs fz [] []
 | cons {d v ds vs} (h:FR fz d v) (hs:FRs fz ds vs):FRs fz (d :: ds) (v :: vs)
inductive FRRs (fz:Frz):List (List D)→List (List Value)→Prop
 | nil:FRRs fz [] []
 | cons {r rs vs vss} (h:FRs fz r vs) (hs:FRRs fz rs vss):FRRs fz (r :: rs) (vs :: vss)
end
def Pl.at (p:Pl) (i f:Nat):Addr:=⟨p.rb,p.ro + i * p.e + f,none⟩
mutual
inductive VR (j:Inj):D→Value→Prop
 | int (k n):VR j (.int k n) (.int k n)
 | bool (b):VR j (.bool b) (.bool b)
 | str (l:List UInt8):VR j (.str l) (.string ⟨l.toArray⟩)
 | agg {cs vs} (hc:cs.all D.isCell=true) (h:VRs j cs vs):VR j (.agg cs) (.agg vs.toArray)
 | tup {ds:List D} {vs:List Value} (hl:ds.length=vs.length) (h:∀ (i:Nat) (d:D) (v:Value),ds[i]? = some d→vs[i]? = some v→d ≠ .undef→VR j d v):VR j (.tup ds) (.tuple vs.toArray)
 | sl0 (a):VR j .sl0 (.slice a 0 0)
 | sl {b off len a cap} (h1:len≤cap) (h2:cap=0∨∃ p,j b=some p∧off + cap≤p.C∧a=some (p.at off 0)):VR j (.sl b off len) (.slice a len cap)
 | ptr {b i f p} (h:j b=some p):VR j (.ptr b i f) (.pointer (some (p.at i f)))
 | fn {g cap vs} (h:VRs j cap vs):VR j (.fn g cap) (.func (.func g) #[] vs.toArray)
 | list {rows vss a len cap} (hl:rows.length=len) (h1:len≤cap) (h:FRRs j.fz rows vss) (hm:rows=[]∨∃ e rb ro,a=some ⟨rb,ro,none⟩∧Fz j.fz e rb ro vss):VR j (.list rows) (.slice a len cap)
 | el {row vs rb o f} (h:FRs j.fz row vs) (hm:FzR j.fz rb o vs):VR j (.el row f) (.pointer (some ⟨rb,o + f,none⟩))
 | ub (b):VR j .ub (.bool b)
inductive VRs (j:Inj):List D→List Value→Prop
 | nil:VRs j [] []
 | cons {d v ds vs} (h:VR j d v) (hs:VRs j ds vs):VRs j (d :: ds) (v :: vs)
end
inductive RRs (j:Inj):List (List D)→List (List Value)→Prop
 | nil:RRs j [] []
 | cons {r rs vs vss} (h:VRs j r vs) (hs:RRs j rs vss):RRs j (r :: rs) (vs :: vss)
structure Ext (j j':Inj):Prop where
 pl:∀ b p,j b=some p→j' b=some p
 fz:∀ b o,j.fz b=some o→j'.fz b=some o
theorem Ext.refl (j:Inj):Ext j j:=⟨fun _ _ h=>h,fun _ _ h=>h⟩
theorem Ext.trans {j k l:Inj} (h:Ext j k) (h':Ext k l):Ext j l:=⟨fun b p e=>h'.pl b p (h.pl b p e),fun b p e=>h'.fz b p (h.fz b p e)⟩
theorem FzR.mono {fz fz':Frz} (he:∀ b o,fz b=some o→fz' b=some o) {rb o:Nat} {vs:List Value}:FzR fz rb o vs→FzR fz' rb o vs
 | ⟨cs,el,fr,h,k⟩=>⟨cs,el,fr,he _ _ h,k⟩
theorem Fz.mono {fz fz':Frz} (he:∀ b o,fz b=some o→fz' b=some o) {e rb ro:Nat} {vss:List (List Value)}:Fz fz e rb ro vss→Fz fz' e rb ro vss
 | ⟨cs,el,fr,h,k⟩=>⟨cs,el,fr,he _ _ h,k⟩
mutual
theorem FR.mono {fz fz':Frz} (he:∀ b o,fz b=some o→fz' b=some o):∀ {d v},FR fz d v→FR fz' d v
 | _,_,.int k n=>.int k n
 | _,_,.bool b=>.bool b
 | _,_,.str l=>.str l
 | _,_,.list hl h1 h hm=>.list hl h1 (FRRs.mono he h) (hm.imp id fun ⟨e,rb,ro,ha,hf⟩=>⟨e,rb,ro,ha,hf.mono he⟩)
theorem FRs.mono {fz fz':Frz} (he:∀ b o,fz b=some o→fz' b=some o):∀ {ds vs},FRs fz ds vs→FRs fz' ds vs
 | _,_,.nil=>.nil
 | _,_,.cons h hs=>.cons (FR.mono he h) (FRs.mono he hs)
theorem FRRs.mono {fz fz':Frz} (he:∀ b o,fz b=some o→fz' b=some o):∀ {ds vs},FRRs fz ds vs→FRRs fz' ds vs
 | _,_,.nil=>.nil
 | _,_,.cons h hs=>.cons (FRs.mono he h) (FRRs.mono he hs)
end
theorem FR.vr {j:Inj} {d:D} {v:Value}:FR j.fz d v→VR j d v
 | .int k n=>.int k n
 | .bool b=>.bool b
 | .str l=>.str l
 | .list hl h1 h hm=>.list hl h1 h hm
theorem FRs.vrs {j:Inj}:∀ {ds vs},FRs j.fz ds vs→VRs j ds vs
 | _,_,.nil=>.nil
 | _,_,.cons h hs=>.cons h.vr hs.vrs
theorem FRRs.rr {j:Inj}:∀ {ds vs},FRRs j.fz ds vs→RRs j ds vs
 | _,_,.nil=>.nil
 | _,_,.cons h hs=>.cons h.vrs hs.rr
theorem FR.cell {fz:Frz} {d:D} {v:Value} (h:FR fz d v):d.isCell=true:=by cases h <;> rfl
theorem FRs.cells {fz:Frz}:∀ {ds vs},FRs fz ds vs→ds.all D.isCell=true
 | _,_,.nil=>rfl
 | _,_,.cons h hs=>by rw [List.all_cons,h.cell,hs.cells]; rfl
theorem FRRs.cells {fz:Frz}:∀ {ds vs},FRRs fz ds vs→∀ r ∈ ds,r.all D.isCell=true
 | _,_,.nil,r,hr=>by cases hr
 | _,_,.cons h hs,r,hr=>by
  rcases List.mem_cons.mp hr with rfl | hr
  ·exact h.cells
  ·exact hs.cells r hr
theorem FRRs.get {fz:Frz}:∀ {rs vss},FRRs fz rs vss→∀ {i:Nat} {r:List D},rs[i]? = some r→∃ vs,vss[i]? = some vs∧FRs fz r vs
 | _,_,.cons (vs:=vs) h hs,0,r,hr=>by simp at hr; subst hr; exact ⟨vs,rfl,h⟩
 | _,_,.cons h hs,i + 1,r,hr=>by obtain ⟨vs,h1,h2⟩:=hs.get (i:=i) (by simpa using hr); exact ⟨vs,by simpa using h1,h2⟩
theorem FRRs.take {fz:Frz}:∀ {rs vss},FRRs fz rs vss→∀ n,FRRs fz (rs.take n) (vss.take n)
 | _,_,_,0=>by simp; exact .nil
 | _,_,.nil,n + 1=>by simp; exact .nil
 | _,_,.cons h hs,n + 1=>by simp; exact .cons h (hs.take n)
theorem FRRs.drop {fz:Frz}:∀ {rs vss},FRRs fz rs vss→∀ n,FRRs fz (rs.drop n) (vss.drop n)
 | _,_,h,0=>by simpa using h
 | _,_,.nil,n + 1=>by simp; exact .nil
 | _,_,.cons h hs,n + 1=>by simpa using hs.drop n
mutual
theorem VR.mono {j j':Inj} (he:Ext j j'):∀ {d v},VR j d v→VR j' d v
 | _,_,.int k n=>.int k n
 | _,_,.bool b=>.bool b
 | _,_,.str l=>.str l
 | _,_,.agg hc h=>.agg hc (VRs.mono he h)
 | _,_,.tup hl h=>.tup hl fun i d v h1 h2 h3=>VR.mono he (h i d v h1 h2 h3)
 | _,_,.sl0 a=>.sl0 a
 | _,_,.sl h1 h2=>.sl h1 (h2.imp id fun ⟨p,h,r⟩=>⟨p,he.pl _ _ h,r⟩)
 | _,_,.ptr h=>.ptr (he.pl _ _ h)
 | _,_,.fn h=>.fn (VRs.mono he h)
 | _,_,.list hl h1 h hm=>.list hl h1 (h.mono he.fz) (hm.imp id fun ⟨e,rb,ro,ha,hf⟩=>⟨e,rb,ro,ha,hf.mono he.fz⟩)
 | _,_,.el h hm=>.el (h.mono he.fz) (hm.mono he.fz)
 | _,_,.ub b=>.ub b
theorem VRs.mono {j j':Inj} (he:Ext j j'):∀ {ds vs},VRs j ds vs→VRs j' ds vs
 | _,_,.nil=>.nil
 | _,_,.cons h hs=>.cons (VR.mono he h) (VRs.mono he hs)
end
theorem RRs.mono {j j':Inj} (he:Ext j j'):∀ {rs vss},RRs j rs vss→RRs j' rs vss
 | _,_,.nil=>.nil
 | _,_,.cons h hs=>.cons (VRs.mono he h) (RRs.mono he hs)
theorem RRs.get {j:Inj}:∀ {rs vss},RRs j rs vss→∀ {i:Nat} {r:List D},rs[i]? = some r→∃ vs,vss[i]? = some vs∧VRs j r vs
 | _,_,.cons (vs:=vs) h hs,0,r,hr=>by simp at hr; subst hr; exact ⟨vs,rfl,h⟩
 | _,_,.cons h hs,i + 1,r,hr=>by obtain ⟨vs,h1,h2⟩:=hs.get (i:=i) (by simpa using hr); exact ⟨vs,by simpa using h1,h2⟩
theorem RRs.length {j:Inj}:∀ {rs vss},RRs j rs vss→rs.length=vss.length
 | _,_,.nil=>rfl
 | _,_,.cons _ hs=>by simp [hs.length]
theorem VRs.length {j:Inj}:∀ {ds vs},VRs j ds vs→ds.length=vs.length
 | _,_,.nil=>rfl
 | _,_,.cons _ hs=>by simp [hs.length]
theorem VRs.get {j:Inj}:∀ {ds vs},VRs j ds vs→∀ {i:Nat} {d:D},ds[i]? = some d→∃ v,vs[i]? = some v∧VR j d v
 | _,_,.cons (v:=v) h hs,0,d,hd=>by simp at hd; subst hd; exact ⟨v,rfl,h⟩
 | _,_,.cons h hs,i + 1,d,hd=>by simp at hd; obtain ⟨v,h1,h2⟩:=hs.get hd; exact ⟨v,by simpa using h1,h2⟩
theorem VRs.of_get {j:Inj}:∀ {ds:List D} {vs:List Value},ds.length=vs.length→(∀ (i:Nat) d v,ds[i]? = some d→vs[i]? = some v→VR j d v)→VRs j ds vs
 | [],[],_,_=>.nil
 | d :: ds,v :: vs,hl,h=>.cons (h 0 d v rfl rfl) (VRs.of_get (by simpa using hl) fun i d v h1 h2=>h (i + 1) d v (by simpa using h1) (by simpa using h2))
theorem VRs.append {j:Inj}:∀ {ds vs es us},VRs j ds vs→VRs j es us→VRs j (ds++es) (vs++us)
 | _,_,_,_,.nil,h=>h
 | _,_,_,_,.cons h hs,h'=>.cons h (hs.append h')
theorem VRs.take {j:Inj}:∀ {ds vs},VRs j ds vs→∀ n,VRs j (ds.take n) (vs.take n)
 | _,_,_,0=>by simp; exact .nil
 | _,_,.nil,n + 1=>by simp; exact .nil
 | _,_,.cons h hs,n + 1=>by simp; exact .cons h (hs.take n)
theorem VRs.drop {j:Inj}:∀ {ds vs},VRs j ds vs→∀ n,VRs j (ds.drop n) (vs.drop n)
 | _,_,h,0=>by simpa using h
 | _,_,.nil,n + 1=>by simp; exact .nil
 | _,_,.cons h hs,n + 1=>by simpa using hs.drop n
theorem VR.one {j:Inj} {d:D} {v:Value} (h:VR j d v) (hc:d.isCell=true):v.oneCell'=true:=by
 cases h <;> first | rfl | simp [D.isCell] at hc
theorem VR.cells {j:Inj} {d:D} {v:Value} (h:VR j d v):d.cells.length=v.cells.size∧(VRs j d.cells v.cells.toList):=by
 cases h with
 | agg hc h=>exact ⟨by simp [D.cells,Value.cells,h.length],by simpa [D.cells,Value.cells] using h⟩
 | _=>exact ⟨rfl,.cons (by constructor <;> assumption) .nil⟩
structure BR (j:Inj) (base:Nat) (w:World) (rws:Rows) (p:Pl):Prop where
 rows:∀ i row,rws[i]? = some row→row.length=p.e∧∀ f d,row[f]? = some d→d.isCell=true∧∃ v,w.cell? (p.at i f)=some v∧VR j d v
 lt:p.rb < w.heap.size
 own:base≤p.rb∧∃ cs el fr,w.heap[p.rb]? = some (.cells cs el fr)∧(∀ k,k < cs.size→¬ (fr.1≤k∧k < fr.2))∧p.ro + p.C * p.e≤cs.size
 nz:j.fz p.rb=none
structure HR (j:Inj) (base:Nat) (H:Heap) (w:World):Prop where
 blk:∀ b rws p,getBlk H b=some rws→j b=some p→BR j base w rws p
 sep:∀ b b' rws rws' p p',getBlk H b=some rws→getBlk H b'=some rws'→j b=some p→j b'=some p'→b ≠ b'→p.rb ≠ p'.rb
 fz:∀ rb o,j.fz rb=some o→w.heap[rb]? = some o
def OR (j:Inj) (s:Slots) (ρ:Operand→Value):Prop:=∀ x,opnd s x ≠ .undef→VR j (opnd s x) (ρ x)
def SR (j:Inj) (n:Nat) (s:Slots) (tmps:Array Value):Prop:=n≤tmps.size∧∀ t,slot s t ≠ .undef→VR j (slot s t) (tmps.getD t undef)
theorem VR.lit {j:Inj} (v:Value) (h:lit v ≠ .undef):VR j (lit v) v:=by
 unfold Ev.lit at *
 split at h <;> first | exact absurd rfl h | constructor
theorem SR.or {j:Inj} {n:Nat} {s:Slots} {a:Act} (h:SR j n s a.tmps):OR j s a.eval:=by
 intro x hx
 cases x with
 | tmp t=>exact h.2 t hx
 | const v=>exact VR.lit v hx
 | global g=>exact absurd rfl hx
 | func f=>exact .fn (vs:=[]) .nil
theorem SR.mono {j j':Inj} {n:Nat} {s:Slots} {tmps:Array Value} (he:Ext j j') (h:SR j n s tmps):SR j' n s tmps:=⟨h.1,fun t ht=>(h.2 t ht).mono he⟩
theorem slot_putS (s:Slots) (d t:Nat) (v:D):slot (putS s (some d) v) t=if d=t then v else slot s t:=by
 show (bif Nat.beq d t then v else slot s t)=_
 by_cases h:d=t
 ·subst h; simp
 ·have:Nat.beq d t=false:=by
   cases e:Nat.beq d t with
   | true=>exact absurd (Nat.eq_of_beq_eq_true e) h
   | false=>rfl
  rw [this,if_neg h]; rfl
theorem SR.put {j:Inj} {n:Nat} {s:Slots} {a:Act} (h:SR j n s a.tmps) {dst:Option Tmp} (hd:∀ d,dst=some d→d < n) {x:D} {v:Value} (hx:x ≠ .undef→VR j x v) :
  SR j n (putS s dst x) (a.put dst v).tmps:=by
 cases dst with
 | none=>exact h
 | some d=>
  have hlt:=hd d rfl
  refine ⟨by simpa [Act.put] using h.1,fun t ht=>?_⟩
  have hlt:d < a.tmps.size:=Nat.lt_of_lt_of_le hlt h.1
  rw [slot_putS] at ht ⊢
  split at ht
  ·rename_i e; subst e
   rw [if_pos rfl]
   have:(a.put (some d) v).tmps.getD d undef=v:=by
    simp [Act.put,hlt]
   rw [this]; exact hx ht
  ·rename_i e
   rw [if_neg e]
   have:(a.put (some d) v).tmps.getD t undef=a.tmps.getD t undef:=by
    simp [Act.put,Array.getElem?_setIfInBounds_ne e]
   rw [this]; exact h.2 t ht
theorem SR.congr {j:Inj} {n:Nat} {s s':Slots} {tmps:Array Value} (h:SR j n s tmps) (hs:∀ t,slot s' t ≠ .undef→slot s' t=slot s t):SR j n s' tmps:=
 ⟨h.1,fun t ht=>by rw [hs t ht]; exact h.2 t (by rw [← hs t ht]; exact ht)⟩
end Go.Ev
namespace Go.Ev
open Go.RowKit
set_option linter.unusedVariables false
set_option linter.unusedSimpArgs false
def zeroD (i:TypeInfo):List D:=
 match i.zero with
 | some z=>z.cells.toList.map lit
 | none=>[.undef]
def aggD:TypeDesc→Bool
 | .struct _ | .array _ _=>true
 | _=>false
def aggT (P:Program) (t:TypeId):Bool:=match P.underlying t with | some d=>aggD d | none=>false
def plainD:TypeDesc→Bool
 | .int _ | .bool | .string=>true
 | _=>false
def plainT (P:Program) (t:TypeId):Bool:=match P.underlying t with | some d=>plainD d | none=>false
def fieldOk (P:Program) (f:Field):Bool:=match P.info? f.type,P.underlying f.type with | some i,some _=>!Nat.beq i.size 0 | _,_=>false
def fieldD (P:Program) (f:Field):Nat×Nat×Bool:=(f.offset,P.cellsOf f.type,aggT P f.type)
def inOrder:Nat→List Field→Bool
 | _,[]=>true
 | k,f :: fs=>Nat.beq f.offset k && inOrder (k + 1) fs
def kindT (P:Program) (t:TypeId):Kd:=
 match P.underlying t with
 | some (.int k)=>.int k
 | some .bool=>.bool
 | some .string=>.str
 | _=>.other
def eqStruct (P:Program) (t:TypeId) (n:Nat) (fs:List Field):Bool:=
 fs.all (fun f => plainT P f.type && !(f.name == "_")) && !P.stoodInHeld t && !P.eqGuardType P.depth t && inOrder 0 fs && Nat.beq n fs.length
def tyD (P:Program) (t:TypeId) (i:TypeInfo):TypeDesc→Option Ty
 | .int k=>some { kd:=.int k,size:=i.size,zero:=zeroD i }
 | .bool=>some { kd:=.bool,size:=i.size,zero:=zeroD i }
 | .string=>some { kd:=.str,size:=i.size,zero:=zeroD i }
 | .pointer _=>some { size:=i.size,zero:=zeroD i }
 | .func _ _ _=>some { size:=i.size,zero:=zeroD i }
 | .struct fs=>bif fs.toList.all (fieldOk P) then some { agg:=true,size:=i.size,zero:=zeroD i,fields:=fs.toList.map (fieldD P),eq:=bif eqStruct P t i.size fs.toList then fs.toList.map (fun f=>kindT P f.type) else [] } else none
 | .slice e=>match P.info? e with
  | some ie=>bif Nat.beq (zeroD ie).length ie.size && ie.zero.isSome then some { kd:=match P.underlying e with | some (.int .u8)=>.bytes | _=>.other,size:=i.size,zero:=zeroD i,esz:=ie.size,ebytes:=ie.bytes,ezero:=zeroD ie,isSl:=true } else none
  | none=>none
 | _=>none
def tyOf (P:Program) (t:TypeId):Option Ty:=
 match P.info? t,P.underlying t with
 | some i,some d=>tyD P t i d
 | _,_=>none
structure EnvOk (E:Env) (P:Program):Prop where
 ty:∀ t y,E.ty t=some y→tyOf P t=some y
 code : ∀ f fn, E.code f = some fn → P.funcs[f]? = some fn ∧ fn.ntmps = E.nt f ∧ (fn.name == "runtime.NumGoroutine") = false ∧ fn.params.size + fn.nfree ≤ fn.ntmps
 mixed:P.follows .mixedOrders=true
theorem tyOf_parts {P:Program} {t:TypeId} {y:Ty} (h:tyOf P t=some y):∃ i d,P.info? t=some i∧P.underlying t=some d∧tyD P t i d=some y:=by
 unfold tyOf at h
 split at h
 ·exact ⟨_,_,by assumption,by assumption,h⟩
 ·cases h
theorem tyD_size {P:Program} {t:TypeId} {i:TypeInfo} {d:TypeDesc} {y:Ty} (h:tyD P t i d=some y):y.size=i.size∧y.agg=aggD d∧y.zero=zeroD i:=by
 cases d <;> simp only [tyD] at h <;> first | cases h | skip
 all_goals first | exact ⟨rfl,rfl,rfl⟩ | skip
 ·split at h
  ·rename_i ie hi
   cases hz:(Nat.beq (zeroD ie).length ie.size && ie.zero.isSome) <;> rw [hz] at h <;> cases h
   exact ⟨rfl,rfl,rfl⟩
  ·cases h
 ·rename_i fs
  cases hf:fs.toList.all (fieldOk P) with
  | false=>rw [hf] at h; cases h
  | true=>rw [hf] at h; cases h; exact ⟨rfl,rfl,rfl⟩
theorem tyD_slice {P:Program} {t:TypeId} {i:TypeInfo} {d:TypeDesc} {y:Ty} (h:tyD P t i d=some y) (hs:y.isSl=true) :
  ∃ e ie,d = .slice e∧P.info? e=some ie∧y.esz=ie.size∧y.ebytes=ie.bytes∧y.ezero=zeroD ie∧(y.kd = .bytes→P.underlying e=some (.int .u8))∧(zeroD ie).length=ie.size:=by
 cases d <;> simp only [tyD] at h <;> first | cases h | skip
 all_goals first | (simp at hs; done) | skip
 ·rename_i e
  split at h
  ·rename_i ie hi
   cases hz:(Nat.beq (zeroD ie).length ie.size && ie.zero.isSome) <;> rw [hz] at h <;> cases h
   refine ⟨e,ie,rfl,hi,rfl,rfl,rfl,fun hk=>?_,Nat.eq_of_beq_eq_true (Bool.and_eq_true_iff.mp hz).1⟩
   dsimp only at hk
   split at hk
   ·assumption
   ·cases hk
  ·cases h
 ·rename_i fs
  cases hf:fs.toList.all (fieldOk P) with
  | false=>rw [hf] at h; cases h
  | true=>rw [hf] at h; cases h; simp at hs
theorem tyD_zero {P:Program} {t e:TypeId} {i ie:TypeInfo} {y:Ty} (h:tyD P t i (.slice e)=some y) (hi:P.info? e=some ie):∃ z,ie.zero=some z∧z.cells.size=ie.size:=by
 simp only [tyD,hi] at h
 cases hz:(Nat.beq (zeroD ie).length ie.size && ie.zero.isSome) <;> rw [hz] at h <;> cases h
 obtain ⟨h1,h2⟩:=Bool.and_eq_true_iff.mp hz
 obtain ⟨z,hz⟩:=Option.isSome_iff_exists.mp h2
 have h1:=Nat.eq_of_beq_eq_true h1
 unfold zeroD at h1
 rw [hz] at h1
 exact ⟨z,hz,by simpa using h1⟩
theorem tyD_kd {P:Program} {t:TypeId} {i:TypeInfo} {d:TypeDesc} {y:Ty} (h:tyD P t i d=some y) :
  (∀ k,y.kd = .int k→d = .int k)∧(y.kd = .bool→d = .bool)∧(y.kd = .str→d = .string)∧(y.kd = .bytes→∃ e,d = .slice e∧P.underlying e=some (.int .u8)):=by
 cases d <;> simp only [tyD] at h <;> first | cases h | skip
 all_goals first | (refine ⟨fun k hk=>?_,fun hk=>?_,fun hk=>?_,fun hk=>?_⟩ <;> first | (cases hk; rfl) | cases hk | rfl) | skip
 ·rename_i e
  split at h
  ·rename_i ie hi
   cases hz:(Nat.beq (zeroD ie).length ie.size && ie.zero.isSome) <;> rw [hz] at h <;> cases h
   refine ⟨fun k hk=>?_,fun hk=>?_,fun hk=>?_,fun hk=>?_⟩
   all_goals dsimp only at hk; split at hk <;> first | exact ⟨e,rfl,by assumption⟩ | cases hk
  ·cases h
 ·rename_i fs
  cases hf:fs.toList.all (fieldOk P) with
  | false=>rw [hf] at h; cases h
  | true=>rw [hf] at h; cases h; refine ⟨fun k hk=>?_,fun hk=>?_,fun hk=>?_,fun hk=>?_⟩ <;> cases hk
theorem tyD_fields {P:Program} {t:TypeId} {i:TypeInfo} {d:TypeDesc} {y:Ty} (h:tyD P t i d=some y) {n:Nat} {q:Nat×Nat×Bool} (hq:y.fields[n]? = some q) :
  ∃ fs f fi,d = .struct fs∧fs[n]? = some f∧P.info? f.type=some fi∧fi.size ≠ 0∧q=(f.offset,fi.size,aggT P f.type)∧(P.underlying f.type).isSome=true:=by
 cases d <;> simp only [tyD] at h <;> first | cases h | skip
 all_goals first | (simp at hq; done) | skip
 ·split at h
  ·rename_i ie hi
   cases hz:(Nat.beq (zeroD ie).length ie.size && ie.zero.isSome) <;> rw [hz] at h <;> cases h
   simp at hq
  ·cases h
 ·rename_i fs
  cases hf:fs.toList.all (fieldOk P) with
  | false=>rw [hf] at h; cases h
  | true=>
   rw [hf] at h; cases h
   simp only [List.getElem?_map] at hq
   cases hfn:fs.toList[n]? with
   | none=>rw [hfn] at hq; cases hq
   | some f=>
    rw [hfn] at hq
    simp only [Option.map_some,Option.some.injEq] at hq
    have hok:=(List.all_eq_true.mp hf) f (List.mem_of_getElem? hfn)
    unfold fieldOk at hok
    split at hok
    ·rename_i fi fd hi hu
     refine ⟨fs,f,fi,rfl,by simpa using hfn,hi,?_,?_,by rw [hu]; rfl⟩
     ·intro h0; rw [h0] at hok; simp at hok
     ·rw [← hq]; simp [fieldD,Program.cellsOf,hi]
    ·cases hok
theorem run_v {P:Program} {s:Sem Value} {v:Value} {w w':World} (h:s.run P w = .ok v w'):((do pure (.value (← s))):Sem Next).run P w = .ok (.value v) w':=by
 simp [h]
end Go.Ev
namespace Go.Ev
open Go.RowKit
set_option linter.unusedVariables false
set_option linter.unusedSimpArgs false
variable {E:Env} {P:Program} {j:Inj} {base:Nat} {H:Heap} {w:World}
theorem Pl.at_add (p:Pl) (i f k:Nat):(p.at i f).add k=p.at i (f + k):=by
 unfold Addr.add Pl.at
 split
 ·rename_i h; subst h; rfl
 ·simp [Nat.add_assoc]
theorem Pl.at_row (p:Pl) (o i:Nat):(p.at o 0).add (i * p.e)=p.at (o + i) 0:=by
 rw [Pl.at_add]
 unfold Pl.at
 simp [Nat.add_mul,Nat.add_assoc]
theorem getRow_blk {b i:Nat} {row:List D} (h:getRow H b i=some row):∃ blk,getBlk H b=some blk∧blk[i]? = some row:=Option.bind_eq_some_iff.mp h
theorem cells_of (p:Pl) (i:Nat):∀ (l:List D) (o:Nat),(∀ (k:Nat) d,l[k]? = some d→d.isCell=true∧∃ v,w.cell? (p.at i (o + k))=some v∧VR j d v) →
  ∃ cs,VRs j l cs∧(∀ (k:Nat) v,cs[k]? = some v→w.cell? (p.at i (o + k))=some v)∧l.all D.isCell=true
 | [],o,_=>⟨[],.nil,fun k v h=>by simp at h,rfl⟩
 | d :: l,o,h=>by
  obtain ⟨hc,v,hv,hr⟩:=h 0 d rfl
  obtain ⟨cs,h1,h2,h3⟩:=cells_of p i l (o + 1) fun k d hk=>by
   have:=h (k + 1) d (by simpa using hk)
   rw [show o + (k + 1)=o + 1 + k from by omega] at this
   exact this
  refine ⟨v :: cs,.cons hr h1,fun k u hk=>?_,by simp [hc]; simpa using h3⟩
  cases k with
  | zero=>simp at hk; subst hk; exact hv
  | succ k=>
   rw [show o + (k + 1)=o + 1 + k from by omega]
   exact h2 k u (by simpa using hk)
theorem BR.row {blk:Rows} {p:Pl} (h:BR j base w blk p) {i:Nat} {row:List D} (hr:blk[i]? = some row) (f n:Nat) :
  ∃ cs,VRs j ((row.drop f).take n) cs∧(∀ (k:Nat) v,cs[k]? = some v→w.cell? (p.at i (f + k))=some v)∧((row.drop f).take n).all D.isCell=true:=by
 refine cells_of p i _ f fun k d hk=>?_
 have:row[f + k]? = some d:=by
  rw [List.getElem?_take] at hk
  split at hk
  ·simpa using hk
  ·cases hk
 exact (h.rows i row hr).2 (f + k) d this
theorem sim_part {t:TypeId} {i:TypeInfo} {d:TypeDesc} (hi:P.info? t=some i) (hd:P.underlying t=some d) {cs:List D} {vs:List Value} (h:VRs j cs vs) {off:Nat} {x:D} (hp:part cs (off,i.size,aggD d)=some x)
  (hall:cs.all D.isCell=true):∃ v,VR j x v∧(Go.part t vs.toArray off).run P w = .ok v w:=by
 unfold part at hp
 dsimp only at hp
 have hag:(isAgg t).run P w = .ok (aggD d) w:=by
  simp only [isAgg,Sem.run_bind,run_underlying hd,Result.andThen_ok]
  cases d <;> rfl
 cases ha:aggD d with
 | true=>
  rw [ha] at hp hag
  rw [if_pos rfl] at hp
  split at hp
  ·rename_i hle
   cases hp
   refine ⟨.agg ((vs.drop off).take i.size).toArray,.agg ?_ ((h.drop off).take i.size),?_⟩
   ·rw [List.all_eq_true] at hall ⊢
    exact fun x hx=>hall x (List.mem_of_mem_drop (List.mem_of_mem_take hx))
   ·simp only [Go.part,Sem.run_bind,hag,Result.andThen_ok,if_true,sizeOf,typeInfo,run_program,hi,Sem.run_pure]
    congr 2
    apply Array.ext'
    simp [List.drop_take]
  ·cases hp
 | false=>
  rw [ha] at hp hag
  rw [if_neg (by decide)] at hp
  obtain ⟨v,hv,hr⟩:=h.get hp
  refine ⟨v,hr,?_⟩
  simp only [Go.part,Sem.run_bind,hag,Result.andThen_ok]
  simp [hv]
theorem cell_of {rb k:Nat} {cs:Array Value} {el:TypeId} {fr:Nat×Nat} {v:Value} (h:w.heap[rb]? = some (.cells cs el fr)) (hk:cs[k]? = some v):w.cell? ⟨rb,k,none⟩=some v:=by
 simp [World.cell?,h,hk]
theorem Fz.row {e rb ro:Nat} {vss:List (List Value)} (h:Fz j.fz e rb ro vss) {i:Nat} {vs:List Value} (hi:vss[i]? = some vs):FzR j.fz rb (ro + i * e) vs:=by
 obtain ⟨cs,el,fr,h1,h2⟩:=h
 exact ⟨cs,el,fr,h1,(h2 i vs hi).2⟩
theorem Fz.len {e rb ro:Nat} {vss:List (List Value)} (h:Fz j.fz e rb ro vss) {i:Nat} {vs:List Value} (hi:vss[i]? = some vs):vs.length=e:=by
 obtain ⟨cs,el,fr,h1,h2⟩:=h
 exact (h2 i vs hi).1
theorem add_plain (rb o k:Nat):(⟨rb,o,none⟩:Addr).add k=⟨rb,o + k,none⟩:=by
 unfold Addr.add
 split
 ·rename_i h; subst h; rfl
 ·simp
theorem sim_load (hE:EnvOk E P) (hH:HR j base H w) {t:TypeId} {x d:D} (h:load E H t x=some d) {v:Value} (hx:VR j x v) :
  ∃ u,VR j d u∧(Instr.loadAt t v).run P w = .ok u w:=by
 replace h:=Option.bind_eq_some_iff.mp h
 obtain ⟨y,hy,h⟩:=h
 unfold ld at h
 split at h
 ·rename_i b i f
  replace h:=Option.bind_eq_some_iff.mp h
  obtain ⟨row,hrow,h⟩:=h
  obtain ⟨blk,hb,hr⟩:=getRow_blk hrow
  cases hx with
  | @ptr _ _ _ p hp=>
   have hBR:=hH.blk b blk p hb hp
   obtain ⟨ti,td,hi,hd,hty⟩:=tyOf_parts (hE.ty t y hy)
   obtain ⟨hs,hag,-⟩:=tyD_size hty
   have haggr:(isAgg t).run P w = .ok (aggD td) w:=by
    simp only [isAgg,Sem.run_bind,run_underlying hd,Result.andThen_ok]
    cases td <;> rfl
   unfold part at h
   dsimp only at h
   rw [hag,hs] at h
   cases ha:aggD td with
   | true=>
    rw [ha] at h haggr
    rw [if_pos rfl] at h
    split at h
    ·rename_i hle
     cases h
     obtain ⟨cs,h1,h2,h3⟩:=hBR.row hr f ti.size
     refine ⟨.agg cs.toArray,.agg h3 h1,?_⟩
     have hlen:cs.length=ti.size:=by
      rw [← h1.length]; simp; omega
     have:=run_loadCells_list (P:=P) w (p.at i f) cs fun k v hk=>by rw [Pl.at_add]; exact h2 k v hk
     rw [hlen] at this
     simp only [Instr.loadAt,Instr.sureAddr,Sem.run_bind,Sem.run_pure,Result.andThen_ok,loadVar,haggr,if_true,sizeOf,typeInfo,run_program,hi,this]
    ·cases h
   | false=>
    rw [ha] at h haggr
    rw [if_neg (by decide)] at h
    obtain ⟨hc,v,hv,hVR⟩:=(hBR.rows i row hr).2 f d h
    refine ⟨v,hVR,?_⟩
    simp only [Instr.loadAt,Instr.sureAddr,Sem.run_bind,Sem.run_pure,Result.andThen_ok,loadVar,haggr]
    simp [hv]
 ·rename_i row f
  cases hx with
  | @el _ vs rb o _ hvs0 hm=>
   have hvs:=hvs0.vrs
   have hall:=hvs0.cells
   obtain ⟨cs0,el,fr,hz,hcell⟩:=hm
   have hheap:=hH.fz rb _ hz
   obtain ⟨ti,td,hi,hd,hty⟩:=tyOf_parts (hE.ty t y hy)
   obtain ⟨hs,hag,-⟩:=tyD_size hty
   have haggr:(isAgg t).run P w = .ok (aggD td) w:=by
    simp only [isAgg,Sem.run_bind,run_underlying hd,Result.andThen_ok]
    cases td <;> rfl
   unfold part at h
   dsimp only at h
   rw [hag,hs] at h
   cases ha:aggD td with
   | true=>
    rw [ha] at h haggr
    rw [if_pos rfl] at h
    split at h
    ·rename_i hle
     cases h
     refine ⟨.agg ((vs.drop f).take ti.size).toArray,.agg ?_ ((hvs.drop f).take ti.size),?_⟩
     ·rw [List.all_eq_true] at hall ⊢
      exact fun x hx=>hall x (List.mem_of_mem_drop (List.mem_of_mem_take hx))
     have hlen:((vs.drop f).take ti.size).length=ti.size:=by
      rw [← ((hvs.drop f).take ti.size).length]; simp; omega
     have:=run_loadCells_list (P:=P) w ⟨rb,o + f,none⟩ ((vs.drop f).take ti.size) fun k v hk=>by
      rw [add_plain]
      refine cell_of hheap ?_
      rw [List.getElem?_take] at hk
      split at hk
      ·rw [Nat.add_assoc]; exact hcell (f + k) v (by simpa using hk)
      ·cases hk
     rw [hlen] at this
     simp only [Instr.loadAt,Instr.sureAddr,Sem.run_bind,Sem.run_pure,Result.andThen_ok,loadVar,haggr,if_true,sizeOf,typeInfo,run_program,hi,this]
    ·cases h
   | false=>
    rw [ha] at h haggr
    rw [if_neg (by decide)] at h
    obtain ⟨v,hv,hVR⟩:=hvs.get h
    have hv:=cell_of hheap (hcell f v hv)
    refine ⟨v,hVR,?_⟩
    simp only [Instr.loadAt,Instr.sureAddr,Sem.run_bind,Sem.run_pure,Result.andThen_ok,loadVar,haggr]
    simp [hv]
 ·cases h
theorem sim_nilCheck {x d:D} (h:nilCheck x=some d) {o:Oper} {a:Operand} (ho:o.op = .nilCheck a) {ρ:Operand→Value} (hx:VR j x (ρ a)) :
  ∃ u,VR j d u∧(execOp ρ o).run P w = .ok (.value u) w:=by
 unfold nilCheck at h
 split at h
 ·cases h
  generalize hv:ρ a=v at hx
  cases hx with
  | ptr hp=>exact ⟨_,.ptr hp,by simp only [execOp,ho,hv]; rfl⟩
 ·cases h
  generalize hv:ρ a=v at hx
  cases hx with
  | el h1 h3=>exact ⟨_,.el h1 h3,by simp only [execOp,ho,hv]; rfl⟩
 ·cases h
  generalize hv:ρ a=v at hx
  cases hx with
  | fn hp=>exact ⟨_,.fn hp,by simp only [execOp,ho,hv]; rfl⟩
 ·cases h
theorem sim_fieldAddr (hE:EnvOk E P) {t:TypeId} {x d:D} {f:Nat} (h:fieldAddr E t x f=some d) {v:Value} (hx:VR j x v) :
  ∃ u,VR j d u∧(Instr.fieldAt t v f).run P w = .ok u w:=by
 replace h:=Option.bind_eq_some_iff.mp h
 obtain ⟨y,hy,h⟩:=h
 replace h:=Option.bind_eq_some_iff.mp h
 obtain ⟨q,hq,h⟩:=h
 unfold fa at h
 split at h
 ·cases h
  obtain ⟨ti,td,hi,hd,hty⟩:=tyOf_parts (hE.ty t y hy)
  obtain ⟨fs,fl,fi,rfl,hf,hfi,h0,rfl,-⟩:=tyD_fields hty hq
  cases hx with
  | @ptr b i o p hp=>
   refine ⟨_,.ptr hp,?_⟩
   simp [Instr.fieldAt,run_underlying hd,hf,Instr.sureAddr,fieldPlace,sizeOf,typeInfo,hfi,h0]
   exact Pl.at_add _ _ _ _
 ·cases h
  obtain ⟨ti,td,hi,hd,hty⟩:=tyOf_parts (hE.ty t y hy)
  obtain ⟨fs,fl,fi,rfl,hf,hfi,h0,rfl,-⟩:=tyD_fields hty hq
  cases hx with
  | @el row vs rb o f hvs hm=>
   refine ⟨_,.el hvs hm,?_⟩
   simp [Instr.fieldAt,run_underlying hd,hf,Instr.sureAddr,fieldPlace,sizeOf,typeInfo,hfi,h0]
   rw [add_plain,Nat.add_assoc]
 ·cases h
theorem sim_field (hE:EnvOk E P) {t:TypeId} {x d:D} {f:Nat} (h:field E t x f=some d) {v:Value} (hx:VR j x v) :
  ∃ u,VR j d u∧(Instr.field t v f).run P w = .ok u w:=by
 replace h:=Option.bind_eq_some_iff.mp h
 obtain ⟨y,hy,h⟩:=h
 replace h:=Option.bind_eq_some_iff.mp h
 obtain ⟨q,hq,h⟩:=h
 unfold fd at h
 split at h
 ·obtain ⟨ti,td,hi,hd,hty⟩:=tyOf_parts (hE.ty t y hy)
  obtain ⟨fs,fl,fi,rfl,hf,hfi,h0,rfl,hu⟩:=tyD_fields hty hq
  obtain ⟨fd,hfd⟩:=Option.isSome_iff_exists.mp hu
  cases hx with
  | agg hc hcs=>
   have ha:aggT P fl.type=aggD fd:=by simp [aggT,hfd]
   rw [ha] at h
   obtain ⟨u,h1,h2⟩:=sim_part (w:=w) hfi hfd hcs h hc
   refine ⟨u,h1,?_⟩
   simp [Instr.field,run_underlying hd,hf,asAgg,h2]
 ·cases h
theorem rowLen_row {b i n:Nat} (h:rowLen H b i=some n):∃ row,getRow H b i=some row∧row.length=n:=Option.map_eq_some_iff.mp h
theorem BR.esz {blk:Rows} {p:Pl} (h:BR j base w blk p) {b i n:Nat} (hb:getBlk H b=some blk) (hl:rowLen H b i=some n):p.e=n:=by
 obtain ⟨row,hr,rfl⟩:=rowLen_row hl
 obtain ⟨blk',hb',hr'⟩:=getRow_blk hr
 rw [hb] at hb'; cases hb'
 exact ((h.rows i row hr').1).symm
theorem sim_indexAddr (hE:EnvOk E P) (hH:HR j base H w) {t:TypeId} {x i d:D} (h:indexAddr E H t x i=some d) {v u:Value} (hx:VR j x v) (hi:VR j i u) :
  ∃ r,VR j d r∧(Instr.indexAt t v u).run P w = .ok r w:=by
 replace h:=Option.bind_eq_some_iff.mp h
 obtain ⟨y,hy,h⟩:=h
 have hsl:y.isSl=true:=by
  cases hs:y.isSl with
  | true=>rfl
  | false=>rw [hs] at h; cases h
 rw [hsl] at h
 simp only [cond_true] at h
 unfold ia at h
 split at h
 ·rename_i b off len k n
  split at h
  ·rename_i hc
   obtain ⟨h0,h1,hrl⟩:=hc
   cases h
   obtain ⟨ti,td,hti,hd,hty⟩:=tyOf_parts (hE.ty t y hy)
   obtain ⟨e,ie,rfl,hie,hes,-⟩:=tyD_slice hty hsl
   obtain ⟨row,hr,-⟩:=rowLen_row hrl
   obtain ⟨blk,hb,-⟩:=getRow_blk hr
   cases hi
   cases hx with
   | @sl _ _ _ a cap hlc hpl=>
    have hcap:cap ≠ 0:=by omega
    obtain ⟨p,hp,hC,rfl⟩:=hpl.resolve_left hcap
    have he:p.e=ie.size:=by rw [← hes]; exact (hH.blk b blk p hb hp).esz hb hrl
    refine ⟨_,.ptr (i:=off + n.toNat) (f:=0) hp,?_⟩
    have hadd:=Pl.at_row p off n.toNat
    rw [he] at hadd
    simp [Instr.indexAt,run_underlying hd,asIntOf,h0,h1,sizeOf,typeInfo,hie,hadd]
  ·cases h
 ·rename_i rows k n
  split at h
  ·rename_i h0
   obtain ⟨row,hrow,h⟩:=Option.bind_eq_some_iff.mp h
   split at h
   ·rename_i hlen
    cases h
    obtain ⟨ti,td,hti,hd,hty⟩:=tyOf_parts (hE.ty t y hy)
    obtain ⟨e,ie,rfl,hie,hes,-⟩:=tyD_slice hty hsl
    have hlt:n.toNat < rows.length:=by
     rcases Nat.lt_or_ge n.toNat rows.length with h' | h'
     ·exact h'
     ·rw [List.getElem?_eq_none h'] at hrow; cases hrow
    cases hi
    cases hx with
    | @list _ vss a len cap hl h1 hr hm=>
     rcases hm with rfl | ⟨e',rb,ro,rfl,hfz⟩
     ·simp at hlt
     ·obtain ⟨vs,hvs,hVR⟩:=hr.get hrow
      have he':e'=ie.size:=by rw [← hfz.len hvs,← hVR.vrs.length,hlen,hes]
      subst he'
      have:=hfz.row hvs
      refine ⟨_,.el (f:=0) hVR this,?_⟩
      have h1:n < len:=by omega
      simp [Instr.indexAt,run_underlying hd,asIntOf,h0,h1,sizeOf,typeInfo,hie,add_plain]
   ·cases h
  ·cases h
 ·cases h
theorem str_get (s:List UInt8) (n:Nat) {c:UInt8} (h:s[n]? = some c):((⟨s.toArray⟩:ByteArray)[n]? : Option UInt8)=some c:=by
 obtain ⟨hlt,rfl⟩:=List.getElem?_eq_some_iff.mp h
 have hs:n < (⟨s.toArray⟩:ByteArray).size:=by simpa [ByteArray.size] using hlt
 rw [getElem?_pos (⟨s.toArray⟩:ByteArray) n hs]
 simp [ByteArray.getElem_eq_getElem_data]
theorem ty_kd (hE:EnvOk E P) {t:TypeId} {y:Ty} (hy:E.ty t=some y):∃ ti td,P.info? t=some ti∧P.underlying t=some td∧tyD P t ti td=some y:=by
 obtain ⟨ti,td,hti,hd,hty⟩:=tyOf_parts (hE.ty t y hy)
 exact ⟨ti,td,hti,hd,hty⟩
theorem ty_str (hE:EnvOk E P) {t:TypeId} {y:Ty} (hy:E.ty t=some y) (h:y.kd = .str):P.underlying t=some .string:=by
 obtain ⟨ti,td,hti,hd,hty⟩:=ty_kd hE hy
 rw [hd,(tyD_kd hty).2.2.1 h]
theorem ty_bool (hE:EnvOk E P) {t:TypeId} {y:Ty} (hy:E.ty t=some y) (h:y.kd = .bool):P.underlying t=some .bool:=by
 obtain ⟨ti,td,hti,hd,hty⟩:=ty_kd hE hy
 rw [hd,(tyD_kd hty).2.1 h]
theorem sim_index (hE:EnvOk E P) {t:TypeId} {x i d:D} (h:index E t x i=some d) {v u:Value} (hx:VR j x v) (hi:VR j i u) :
  ∃ r,VR j d r∧(Instr.index t v u).run P w = .ok r w:=by
 replace h:=Option.bind_eq_some_iff.mp h
 obtain ⟨y,hy,h⟩:=h
 split at h
 ·rename_i hk
  have hu:=ty_str hE hy hk
  unfold ix at h
  split at h
  ·split at h
   ·rename_i s k n h0
    obtain ⟨c,hc,rfl⟩:=Option.map_eq_some_iff.mp h
    cases hx; cases hi
    refine ⟨_,.int _ _,?_⟩
    have:=str_get s n.toNat hc
    simp only [Instr.index,asIntOf,Sem.run_bind,Sem.run_pure,Result.andThen_ok,run_underlying hu]
    rw [if_pos h0,this]; rfl
   ·cases h
  ·cases h
 ·cases h
theorem ba_size (l:List UInt8):(⟨l.toArray⟩:ByteArray).size=l.length:=by simp [ByteArray.size]
theorem ba_extract (s:List UInt8) (l h:Nat):(⟨s.toArray⟩:ByteArray).extract l h=⟨((s.take h).drop l).toArray⟩:=by
 apply ByteArray.ext
 apply Array.ext'
 simp [ByteArray.data_extract,List.drop_take]
theorem bound_sem {d:Nat} {x:Option D} {n:Int} (h:bound d x=some n) {v:Option Value} (hv:∀ q,x=some q→∃ u,v=some u∧VR j q u) (hn:x=none→v=none) :
  (x=none∧v=none∧n=d)∨∃ k,v=some (.int k n)∧x.isSome=true:=by
 cases x with
 | none=>simp [bound] at h; exact .inl ⟨rfl,hn rfl,h.symm⟩
 | some q=>
  cases q <;> simp [bound] at h
  subst h
  obtain ⟨u,hu,hr⟩:=hv _ rfl
  cases hr
  exact .inr ⟨_,hu,rfl⟩
theorem run_bounds2 {isSlice:Bool} {len cap:Nat} {lo hi:Option D} {l h:Int} (hl:bound 0 lo=some l) (hh:bound len hi=some h) (h0:0≤l) (h1:l≤h) (h2:h≤len) (hlc:len≤cap)
  {vl vh:Option Value} (el:∀ q,lo=some q→∃ u,vl=some u∧VR j q u) (nl:lo=none→vl=none) (eh:∀ q,hi=some q→∃ u,vh=some u∧VR j q u) (nh:hi=none→vh=none) :
  (Instr.sliceBounds isSlice len cap vl vh none).run P w = .ok (l.toNat,h.toNat,cap) w:=by
 have hhc:h≤(cap:Int):=by omega
 rcases bound_sem hl el nl with ⟨-,rfl,hl'⟩ | ⟨k,rfl,-⟩ <;> rcases bound_sem hh eh nh with ⟨-,rfl,hh'⟩ | ⟨k',rfl,-⟩
 ·subst hl' hh'; simp [Instr.sliceBounds]
 ·subst hl'; simp [Instr.sliceBounds,run_sliceBound_if,hhc,show 0≤h by omega]
 ·subst hh'; simp [Instr.sliceBounds,run_sliceBound_if,h0,h1]
 ·simp only [Instr.sliceBounds,Sem.run_bind,Sem.run_pure,Result.andThen_ok]
  rw [run_sliceBound (h0:=by omega) (h1:=hhc)]
  simp only [Result.andThen_ok]
  rw [run_sliceBound (h0:=h0) (h1:=by omega)]
  rfl
theorem run_bounds0 {isSlice:Bool} {len cap:Nat} {lo hi mx:Option D} (hl:bound 0 lo=some 0) (hh:bound len hi=some 0) (hm:cut0 hi mx=true) (hmx:mx.isSome=true)
  {vl vh vm:Option Value} (el:∀ q,lo=some q→∃ u,vl=some u∧VR j q u) (nl:lo=none→vl=none) (eh:∀ q,hi=some q→∃ u,vh=some u∧VR j q u) (nh:hi=none→vh=none)
  (em:∀ q,mx=some q→∃ u,vm=some u∧VR j q u) :
  (Instr.sliceBounds isSlice len cap vl vh vm).run P w = .ok (0,0,0) w:=by
 cases mx with
 | none=>cases hmx
 | some q=>
  cases q <;> simp [cut0] at hm
  obtain ⟨rfl,hhi⟩:=hm
  obtain ⟨u,rfl,hu⟩:=em _ rfl
  cases hu
  rcases bound_sem hh eh nh with ⟨h1,-,-⟩ | ⟨k',rfl,-⟩
  ·rw [h1] at hhi; cases hhi
  ·rcases bound_sem hl el nl with ⟨-,rfl,-⟩ | ⟨k,rfl,-⟩ <;> simp [Instr.sliceBounds,run_sliceBound_if]
theorem sim_slice (hE:EnvOk E P) (hH:HR j base H w) {t:TypeId} {x d:D} {lo hi mx:Option D} (h:slice E H t x lo hi mx=some d) {v:Value} (hx:VR j x v)
  {vl vh vm:Option Value} (el:∀ q,lo=some q→∃ u,vl=some u∧VR j q u) (nl:lo=none→vl=none) (eh:∀ q,hi=some q→∃ u,vh=some u∧VR j q u) (nh:hi=none→vh=none)
  (em:∀ q,mx=some q→∃ u,vm=some u∧VR j q u) (nm:mx=none→vm=none) :
  ∃ r,VR j d r∧(Instr.sliceAt t v vl vh vm).run P w = .ok r w:=by
 replace h:=Option.bind_eq_some_iff.mp h
 obtain ⟨y,hy,h⟩:=h
 cases hsl:y.isSl with
 | false=>
  rw [hsl] at h
  simp only [cond_false] at h
  split at h
  ·rename_i hk
   have hu:=ty_str hE hy hk
   unfold slS at h
   split at h
   ·rename_i s
    split at h
    ·rename_i hm
     replace h:=Option.bind_eq_some_iff.mp h
     obtain ⟨l,hl,h⟩:=h
     replace h:=Option.bind_eq_some_iff.mp h
     obtain ⟨h',hh,h⟩:=h
     unfold sliceStr at h
     split at h
     ·rename_i hb
      obtain ⟨h0,h1,h2⟩:=hb
      cases h
      cases hx
      have hm':vm=none:=nm (by simpa using hm)
      subst hm'
      have hbd:=run_bounds2 (P:=P) (w:=w) (isSlice:=false) (cap:=s.length) hl hh h0 h1 h2 (Nat.le_refl _) el nl eh nh
      refine ⟨.string ((⟨s.toArray⟩:ByteArray).extract l.toNat h'.toNat),?_,?_⟩
      ·rw [ba_extract]; exact .str _
      ·rw [run_sliceAt_string (h:=hu)]
       simp only [Instr.slice,Sem.run_bind,run_underlying hu,Result.andThen_ok,ba_size]
       simp [hbd]
     ·cases h
    ·cases h
   ·cases h
  ·cases h
 | true=>
 rw [hsl] at h
 simp only [cond_true] at h
 obtain ⟨ti,td,hti,hd,hty⟩:=ty_kd hE hy
 obtain ⟨e,ie,rfl,hie,hes,-⟩:=tyD_slice hty hsl
 unfold slL at h
 split at h
 ·replace h:=Option.bind_eq_some_iff.mp h
  obtain ⟨l,hl,h⟩:=h
  obtain ⟨h',hh,hfin⟩:=Option.bind_eq_some_iff.mp h
  split at hfin
  ·rename_i hc
   obtain ⟨hl0,hh0,hm⟩:=hc
   have hd0:=Option.some.inj hfin
   clear hfin h
   subst hd0 hl0 hh0
   cases hx with
   | sl0 a=>
    refine ⟨.slice a 0 0,.sl0 a,?_⟩
    have hr:(Instr.sliceBounds true 0 0 vl vh vm).run P w = .ok (0,0,0) w:=by
     cases hmx:mx with
     | none=>
      have:=nm hmx
      subst this
      exact run_bounds2 (len:=0) (cap:=0) hl hh (Int.le_refl 0) (Int.le_refl 0) (Int.le_refl 0) (Nat.le_refl 0) el nl eh nh
     | some q=>exact run_bounds0 hl hh hm (by rw [hmx]; rfl) el nl eh nh em
    simp [Instr.sliceAt,Instr.slice,run_underlying hd,hr,sizeOf,typeInfo,hie]
  ·cases hfin
 ·rename_i b off len
  replace h:=Option.bind_eq_some_iff.mp h
  obtain ⟨l,hl,h⟩:=h
  replace h:=Option.bind_eq_some_iff.mp h
  obtain ⟨h',hh,h⟩:=h
  split at h
  ·rename_i hc
   obtain ⟨h0,h1,h2⟩:=hc
   cases hx with
   | @sl _ _ _ a cap hlc hpl=>
    split at h
    ·rename_i q
     split at h
     ·rename_i hz
      obtain ⟨rfl,rfl,hm⟩:=hz
      cases h
      refine ⟨.slice a 0 0,.sl0 a,?_⟩
      have hr:(Instr.sliceBounds true len cap vl vh vm).run P w = .ok (0,0,0) w:=run_bounds0 hl hh hm rfl el nl eh nh em
      simp [Instr.sliceAt,Instr.slice,run_underlying hd,hr,sizeOf,typeInfo,hie]
     ·cases h
    ·split at h
     ·rename_i hrow
      cases h
      have:=nm rfl
      subst this
      have hr:=run_bounds2 (P:=P) (w:=w) (isSlice:=true) (cap:=cap) hl hh h0 h1 h2 hlc el nl eh nh
      refine ⟨.slice (if cap=l.toNat then a else a.map (·.add (l.toNat * ie.size))) (h'.toNat - l.toNat) (cap - l.toNat),.sl (by omega) ?_,?_⟩
      ·by_cases hcl:cap=l.toNat
       ·exact .inl (by omega)
       ·refine .inr ?_
        have hcap:cap ≠ 0:=by omega
        obtain ⟨p,hp,hC,rfl⟩:=hpl.resolve_left hcap
        refine ⟨p,hp,by omega,?_⟩
        rw [if_neg hcl]
        by_cases hl0:l=0
        ·subst hl0; simp [Addr.add]
        ·obtain ⟨row,hr,-⟩:=rowLen_row (hrow.resolve_left hl0)
         obtain ⟨blk,hb,-⟩:=getRow_blk hr
         have he:p.e=ie.size:=by rw [← hes]; exact (hH.blk b blk p hb hp).esz hb (hrow.resolve_left hl0)
         rw [← he]
         exact congrArg some (Pl.at_row p off l.toNat)
      ·simp [Instr.sliceAt,Instr.slice,run_underlying hd,hr,sizeOf,typeInfo,hie]
     ·cases h
  ·cases h
 ·rename_i rows
  replace h:=Option.bind_eq_some_iff.mp h
  obtain ⟨l,hl,h⟩:=h
  replace h:=Option.bind_eq_some_iff.mp h
  obtain ⟨h',hh,h⟩:=h
  split at h
  ·rename_i hc
   obtain ⟨h0,h1,h2⟩:=hc
   cases hx with
   | @list _ vss a len cap hlen hlc hr hpl=>
    subst hlen
    split at h
    ·rename_i q
     split at h
     ·rename_i hz
      obtain ⟨rfl,rfl,hm⟩:=hz
      cases h
      refine ⟨.slice a 0 0,.sl0 a,?_⟩
      have hr:(Instr.sliceBounds true rows.length cap vl vh vm).run P w = .ok (0,0,0) w:=run_bounds0 hl hh hm rfl el nl eh nh em
      simp [Instr.sliceAt,Instr.slice,run_underlying hd,hr,sizeOf,typeInfo,hie]
     ·cases h
    ·split at h
     ·rename_i hrow
      cases h
      have:=nm rfl
      subst this
      have hrb:=run_bounds2 (P:=P) (w:=w) (isSlice:=true) (cap:=cap) hl hh h0 h1 h2 hlc el nl eh nh
      refine ⟨.slice (if cap=l.toNat then a else a.map (·.add (l.toNat * ie.size))) (h'.toNat - l.toNat) (cap - l.toNat),.list (vss:=(vss.take h'.toNat).drop l.toNat) ?_ (by omega) ((hr.take _).drop _) ?_,?_⟩
      ·simp; omega
      ·by_cases hemp:(rows.take h'.toNat).drop l.toNat=[]
       ·exact .inl hemp
       ·have hlt:l.toNat < h'.toNat:=by
         rcases Nat.lt_or_ge l.toNat h'.toNat with g | g
         ·exact g
         ·exact absurd (List.drop_eq_nil_of_le (by simp; omega)) hemp
        rcases hpl with rfl | ⟨e',rb,ro,rfl,cs,elt,fr,hz,hcs⟩
        ·simp at hemp
        ·refine .inr ⟨e',rb,ro + l.toNat * e',?_,cs,elt,fr,hz,fun i vs hi=>?_⟩
         ·rw [if_neg (by omega)]
          by_cases hl0:l=0
          ·subst hl0; simp [Addr.add]
          ·have hfit:=hrow.resolve_left hl0
           have he:e'=ie.size:=by
            cases rows with
            | nil=>simp at hemp
            | cons r0 rest=>
             obtain ⟨vs0,g1,g2⟩:=hr.get (i:=0) rfl
             have:=(hcs 0 vs0 g1).1
             rw [← this,← g2.vrs.length,← hes]
             simpa [rowsFit] using hfit
           rw [he]
           simp [add_plain]
         ·have hi':vss[l.toNat + i]? = some vs:=by
           rw [List.getElem?_drop,List.getElem?_take] at hi
           split at hi
           ·exact hi
           ·cases hi
          obtain ⟨g1,g2⟩:=hcs _ vs hi'
          refine ⟨g1,fun k v hk=>?_⟩
          have:=g2 k v hk
          rw [show ro + l.toNat * e' + i * e' + k=ro + (l.toNat + i) * e' + k by rw [Nat.add_mul]; omega]
          exact this
      ·simp [Instr.sliceAt,Instr.slice,run_underlying hd,hrb,sizeOf,typeInfo,hie]
     ·cases h
  ·cases h
 ·cases h
end Go.Ev
namespace Go.Ev
open Go.RowKit
set_option linter.unusedVariables false
set_option linter.unusedSimpArgs false
variable {E:Env} {P:Program} {j:Inj} {base:Nat} {H:Heap} {w:World}
theorem sim_binInt {op:BinOp} {k:IntKind} {a b:Int} {d:D} (h:binInt op k a b=some d) (hop:op ≠ .shr) {t:TypeId} :
  ∃ u,VR j d u∧(Go.binOp op t (.int k a) (.int k b)).run P w = .ok u w:=by
 cases op <;> simp only [binInt] at h <;> first | cases h | skip
 all_goals first
  | (exact ⟨_,.int _ _,by simp only [Go.binOp]; rw [if_neg (by simp)]; rfl⟩)
  | exact ⟨_,by constructor,by simp [Go.binOp,Op.intArith,Op.intCmp]⟩
  | exact absurd rfl hop
  | skip
 ·split at h
  ·cases h
  ·cases h; rename_i hb; exact ⟨_,.int _ _,by simp [Go.binOp,Op.intDiv,hb]⟩
 ·split at h
  ·cases h
  ·cases h; rename_i hb; exact ⟨_,.int _ _,by simp [Go.binOp,Op.intDiv,hb]⟩
theorem sim_shr {k k':IntKind} {a b:Int} {d:D} (h:binInt .shr k a b=some d) {t:TypeId} :
  ∃ u,VR j d u∧(Go.binOp .shr t (.int k a) (.int k' b)).run P w = .ok u w:=by
 simp only [binInt] at h
 split at h
 ·rename_i hb
  cases h
  have:¬ b < 0:=by omega
  exact ⟨_,.int _ _,by simp [Go.binOp,Op.shift,this]⟩
 ·cases h
theorem ba_toList (l:List UInt8):(⟨l.toArray⟩:ByteArray).toList=l:=ByteArray.toList_mk l
theorem ba_append (a b:List UInt8):(⟨a.toArray⟩:ByteArray)++⟨b.toArray⟩=⟨(a++b).toArray⟩:=by
 apply ByteArray.ext
 apply Array.ext'
 simp [ByteArray.data_append]
theorem sim_binStr {op:BinOp} {a b:List UInt8} {d:D} (h:binStr op a b=some d) {t:TypeId} :
  ∃ u,VR j d u∧(Go.binOp op t (.string ⟨a.toArray⟩) (.string ⟨b.toArray⟩)).run P w = .ok u w:=by
 cases op <;> simp only [binStr] at h <;> first | cases h | skip
 all_goals first
  | exact ⟨_,by constructor,by simp [Go.binOp,Op.stringOp,ba_toList]⟩
  | skip
 split at h
 ·rename_i hl
  cases h
  refine ⟨_,.str _,?_⟩
  unfold maxStr at hl
  have:¬ (((a.length + b.length:Nat):Int) > IntKind.i64.max):=by
   have e:IntKind.i64.max=9223372036854775807:=rfl
   rw [e]; omega
  simp only [Go.binOp,Op.stringOp,ba_size,if_neg this,ba_append]
  rfl
 ·cases h
theorem sim_toInt (hE:EnvOk E P) {src dst:TypeId} {x d:D} (h:toInt E dst x=some d) (hs:(P.underlying src).isSome=true) {v:Value} (hx:VR j x v) :
  ∃ u,VR j d u∧(Go.convert src dst v).run P w = .ok u w:=by
 replace h:=Option.bind_eq_some_iff.mp h
 obtain ⟨y,hy,h⟩:=h
 split at h
 ·rename_i k' hk
  unfold cI at h
  split at h
  ·cases h
   cases hx
   obtain ⟨ti,td,hti,hd,hty⟩:=ty_kd hE hy
   have:=(tyD_kd hty).1 k' hk
   subst this
   obtain ⟨sd,hsd⟩:=Option.isSome_iff_exists.mp hs
   refine ⟨_,.int _ _,?_⟩
   simp [Go.convert,run_underlying hsd,run_underlying hd,Conv.intToInt]
  ·cases h
 ·cases h
theorem sim_unOp {op:UnOp} {x d:D} (h:unOp op x=some d) {v:Value} (hx:VR j x v):∃ u,VR j d u∧(Op.unary op v).run P w = .ok u w:=by
 unfold unOp at h
 split at h
 ·cases h; cases hx; exact ⟨_,.int _ _,by simp [Op.unary,Op.intArith]⟩
 ·cases h; cases hx; exact ⟨_,.bool _,by simp [Op.unary]⟩
 ·cases h
theorem sim_extract {x d:D} {i:Nat} (h:extract x i=some d) {v:Value} (hx:VR j x v):∃ u,(d ≠ .undef→VR j d u)∧(Instr.extract v i).run P w = .ok u w:=by
 unfold extract at h
 split at h
 ·cases hx with
  | tup hl hs=>
   rename_i ds vs
   have hi:i < vs.length:=by
    rcases Nat.lt_or_ge i ds.length with h' | h'
    ·omega
    ·rw [List.getElem?_eq_none h'] at h; cases h
   have hu:=List.getElem?_eq_getElem hi
   exact ⟨vs[i],hs i d _ h hu,by simp [Instr.extract,hu]⟩
 ·cases h
theorem sim_lenOf (hE:EnvOk E P) {x d:D} {t ty:TypeId} (h:lenOf E t x=some d) {v:Value} (hx:VR j x v) :
  ∃ u,VR j d u∧(Builtin.len_ #[t] ty #[v]).run P w = .ok u w:=by
 replace h:=Option.bind_eq_some_iff.mp h
 obtain ⟨y,hy,h⟩:=h
 cases hsl:y.isSl with
 | false=>
  rw [hsl] at h
  simp only [cond_false] at h
  split at h
  ·rename_i hk
   have hu:=ty_str hE hy hk
   unfold lnS at h
   split at h
   ·cases h; cases hx
    exact ⟨_,.int _ _,by simp [Builtin.len_,run_underlying hu,ba_size,goInt]⟩
   ·cases h
  ·cases h
 | true=>
  rw [hsl] at h
  simp only [cond_true] at h
  obtain ⟨ti,td,hti,hd,hty⟩:=ty_kd hE hy
  obtain ⟨e,ie,rfl,hie,hes,-⟩:=tyD_slice hty hsl
  unfold lnL at h
  split at h
  ·cases h; cases hx
   exact ⟨_,.int _ _,by simp [Builtin.len_,run_underlying hd,goInt]⟩
  ·cases h; cases hx
   exact ⟨_,.int _ _,by simp [Builtin.len_,run_underlying hd,goInt]⟩
  ·cases h
   cases hx with
   | list hl h1 hr hm=>
    subst hl
    exact ⟨_,.int _ _,by simp [Builtin.len_,run_underlying hd,goInt]⟩
  ·cases h
theorem tyD_eq {t:TypeId} {i:TypeInfo} {d:TypeDesc} {y:Ty} (h:tyD P t i d=some y) {k:Kd} {ks:List Kd} (he:y.eq=k :: ks) :
  ∃ fs,d = .struct fs∧eqStruct P t y.size fs.toList=true∧y.eq=fs.toList.map (fun f=>kindT P f.type):=by
 cases d <;> simp only [tyD] at h <;> first | cases h | skip
 all_goals first | (simp at he; done) | skip
 ·split at h
  ·rename_i ie hi
   cases hz:(Nat.beq (zeroD ie).length ie.size && ie.zero.isSome) <;> rw [hz] at h <;> cases h
   simp at he
  ·cases h
 ·rename_i fs
  cases hf:fs.toList.all (fieldOk P) with
  | false=>rw [hf] at h; cases h
  | true=>
   rw [hf] at h; cases h
   refine ⟨fs,rfl,?_⟩
   dsimp only at he ⊢
   cases hq:eqStruct P t i.size fs.toList with
   | false=>rw [hq] at he; cases he
   | true=>exact ⟨rfl,rfl⟩
theorem plain_part {t:TypeId} (hp:plainT P t=true) (xs:Array Value) (o:Nat) {v:Value} (hv:xs[o]? = some v):(Go.part t xs o).run P w = .ok v w:=by
 unfold plainT at hp
 split at hp
 ·rename_i d hd
  have hag:(isAgg t).run P w = .ok false w:=by
   simp only [isAgg,Sem.run_bind,run_underlying hd,Result.andThen_ok]
   cases d <;> first | rfl | (simp [plainD] at hp; done)
  simp only [Go.part,Sem.run_bind,hag,Result.andThen_ok]
  simp [hv]
 ·cases hp
theorem plain_eq {t:TypeId} {a b:D} {r:Bool} (h:scEq (kindT P t) a b=some r) {v u:Value} (ha:VR j a v) (hb:VR j b u) (n:Nat) :
  (Op.equalIn (n + 1) t v u).run P w = .ok r w:=by
 unfold kindT at h
 split at h
 ·rename_i k hd
  unfold scEq at h
  split at h
  ·rename_i k0 k1 x k2 y hk
   cases hk
   split at h
   ·rename_i hc
    obtain ⟨rfl,rfl⟩:=hc
    cases h; cases ha; cases hb
    exact run_equalIn_int w n t _ _ _ _ hd
   ·cases h
  ·rename_i hk; cases hk
  ·rename_i hk; cases hk
  ·cases h
 ·rename_i hd
  unfold scEq at h
  split at h
  ·rename_i hk; cases hk
  ·cases h; cases ha; cases hb
   exact run_equalIn_bool w n t _ _ hd
  ·rename_i hk; cases hk
  ·cases h
 ·rename_i hd
  unfold scEq at h
  split at h
  ·rename_i hk; cases hk
  ·rename_i hk; cases hk
  ·cases h; cases ha; cases hb
   rw [run_equalIn_string w n t _ _ hd,ba_toList,ba_toList]
  ·cases h
 ·cases a <;> cases b <;> simp [scEq] at h
theorem eqFields_run (n : Nat) {xs ys : List Value} : ∀ (fs : List Field) (k : Nat) (as bs : List D) (r : Bool), (∀ f ∈ fs, plainT P f.type = true ∧ (f.name == "_") = false) → inOrder k fs = true →
  VRs j as (xs.drop k)→VRs j bs (ys.drop k)→scEqs (fs.map fun f=>kindT P f.type) as bs=some r→(Op.eqFields (n + 1) xs.toArray ys.toArray fs).run P w = .ok r w
 | [],k,as,bs,r,_,_,_,_,h=>by
  cases as <;> cases bs <;> simp [scEqs] at h
  subst h
  rfl
 | f :: fs,k,as,bs,r,hf,ho,ha,hb,h=>by
  cases as with
  | nil=>simp [scEqs] at h
  | cons a as=>
   cases bs with
   | nil=>simp [scEqs] at h
   | cons b bs=>
    simp only [List.map_cons,scEqs] at h
    replace h:=Option.bind_eq_some_iff.mp h
    obtain ⟨x,hx,h⟩:=h
    replace h:=Option.bind_eq_some_iff.mp h
    obtain ⟨y,hy,h⟩:=h
    cases h
    simp only [inOrder,Bool.and_eq_true] at ho
    obtain ⟨ho1,ho2⟩:=ho
    have hoff:=Nat.eq_of_beq_eq_true ho1
    obtain ⟨hp,hn⟩:=hf f (by simp)
    have hne : f.name ≠ "_" := by simpa using hn
    obtain ⟨v,hv,ha0⟩:=ha.get (i:=0) rfl
    obtain ⟨u,hu,hb0⟩:=hb.get (i:=0) rfl
    have hv':xs.toArray[f.offset]? = some v:=by rw [hoff]; simpa using hv
    have hu':ys.toArray[f.offset]? = some u:=by rw [hoff]; simpa using hu
    have ih:=eqFields_run n fs (k + 1) as bs y (fun f hf'=>hf f (by simp [hf'])) ho2
     (by have:=ha.drop 1; simpa [List.drop_drop,Nat.add_comm] using this) (by have:=hb.drop 1; simpa [List.drop_drop,Nat.add_comm] using this) hy
    simp only [Op.eqFields,if_pos hne,Sem.run_bind,plain_part (w:=w) hp _ _ hv',plain_part (w:=w) hp _ _ hu',Result.andThen_ok,plain_eq (w:=w) hx ha0 hb0 n]
    cases x
    ·simp
    ·simpa using ih
theorem sim_bA (hE:EnvOk E P) {op:BinOp} {t:TypeId} {y:Ty} (hy:E.ty t=some y) {k:Kd} {ks:List Kd} (he:y.eq=k :: ks) {a b d:D} (h:bA (k :: ks) op a b=some d) {v u:Value} (ha:VR j a v) (hb:VR j b u)
  (x z:Operand):∃ r,VR j d r∧(do eqGuard op t x z v u; Go.binOp op t v u:Sem Value).run P w = .ok r w:=by
 obtain ⟨ti,td,hti,hd,hty⟩:=ty_kd hE hy
 obtain ⟨fs,rfl,hes,hek⟩:=tyD_eq hty he
 simp only [eqStruct,Bool.and_eq_true,Bool.not_eq_true'] at hes
 obtain ⟨⟨⟨⟨h1,h2⟩,h3⟩,h4⟩,h5⟩:=hes
 have hfs:P.fieldsOf t=fs:=by simp [Program.fieldsOf,hd]
 have hall : ∀ f ∈ fs.toList, plainT P f.type = true ∧ (f.name == "_") = false := by
  intro f hf
  have:=(List.all_eq_true.mp h1) f hf
  simpa using this
 unfold bA at h
 split at h
 ·rename_i as bs
  cases ha with
  | @agg _ xs hc hxs=>
   cases hb with
   | @agg _ ys hc' hys=>
    have run:∀ r,scEqs (k :: ks) as bs=some r→(Op.equalIn 10000 t (.agg xs.toArray) (.agg ys.toArray)).run P w = .ok r w:=by
     intro r hr
     rw [← he,hek] at hr
     rw [run_equalIn_agg w 9999 t _ _ (by rw [hfs]; exact hd) h2,hfs]
     exact eqFields_run 9998 fs.toList 0 as bs r hall h4 (by simpa using hxs) (by simpa using hys) hr
    have hg:=run_eqGuard_agg (P:=P) w op t x z xs.toArray ys.toArray h3
    split at h
    ·obtain ⟨r,hr,rfl⟩:=Option.map_eq_some_iff.mp h
     exact ⟨_,.bool _,by rw [Sem.run_bind,hg,Result.andThen_ok,run_eql_struct,run r hr]; rfl⟩
    ·obtain ⟨r,hr,rfl⟩:=Option.map_eq_some_iff.mp h
     exact ⟨_,.bool _,by rw [Sem.run_bind,hg,Result.andThen_ok,run_neq_struct,run r hr]; rfl⟩
    ·cases h
 ·cases h
theorem sim_binOp (hE:EnvOk E P) {op:BinOp} {t:TypeId} {a b d:D} (h:binOp E op t a b=some d) {v u:Value} (ha:VR j a v) (hb:VR j b u) (x z:Operand) :
  ∃ r,VR j d r∧(do eqGuard op t x z v u; Go.binOp op t v u:Sem Value).run P w = .ok r w:=by
 replace h:=Option.bind_eq_some_iff.mp h
 obtain ⟨y,hy,h⟩:=h
 split at h
 ·unfold bI at h
  split at h
  ·cases ha; cases hb
   split at h
   ·obtain ⟨r,h1,h2⟩:=sim_shr (w:=w) (j:=j) h
    exact ⟨r,h1,by rw [eqGuard_at_int]; simpa using h2⟩
   ·rename_i hns
    split at h
    ·rename_i hk
     subst hk
     obtain ⟨r,h1,h2⟩:=sim_binInt (w:=w) (j:=j) h (by intro e; exact hns e)
     exact ⟨r,h1,by rw [eqGuard_at_int]; simpa using h2⟩
    ·cases h
  ·cases h
 ·unfold bS at h
  split at h
  ·cases ha; cases hb
   obtain ⟨r,h1,h2⟩:=sim_binStr (w:=w) (j:=j) h
   exact ⟨r,h1,by rw [eqGuard_at_string]; simpa using h2⟩
  ·cases h
 ·rename_i hk
  have hu:=ty_bool hE hy hk
  unfold bB at h
  split at h
  ·cases ha; cases hb
   split at h
   ·cases h; exact ⟨_,.bool _,by rw [eqGuard_at_bool]; simp [run_eql_bool w t _ _ hu]⟩
   ·cases h; exact ⟨_,.bool _,by rw [eqGuard_at_bool]; simp [run_neq_bool w t _ _ hu]⟩
   ·cases h
  ·cases h
 ·split at h
  ·cases h
  ·rename_i ks he
   cases hks:y.eq with
   | nil=>exact absurd hks he
   | cons k ks=>
    rw [hks] at h
    exact sim_bA hE hy hks h ha hb x z
theorem sim_nilCmp (hE:EnvOk E P) {op:BinOp} {t:TypeId} {a d:D} (h:nilCmp E op t a=some d) {v:Value} (ha:VR j a v) (x z:Operand) :
  ∃ r,VR j d r∧(do eqGuard op t x z v (.slice none 0 0); Go.binOp op t v (.slice none 0 0):Sem Value).run P w = .ok r w:=by
 replace h:=Option.bind_eq_some_iff.mp h
 obtain ⟨y,hy,h⟩:=h
 cases hsl:y.isSl with
 | false=>rw [hsl] at h; cases h
 | true=>
  rw [hsl] at h
  simp only [cond_true] at h
  obtain ⟨ti,td,hti,hd,hty⟩:=ty_kd hE hy
  obtain ⟨e,ie,rfl,hie,hes,heb,hez,-,hzl⟩:=tyD_slice hty hsl
  unfold nilOp at h
  split at h
  ·have key:∀ (o:Option Addr) (l c:Nat),∃ b:Bool,(o ≠ none→b=false)∧(do eqGuard .eql t x z (.slice o l c) (.slice none 0 0); Go.binOp .eql t (.slice o l c) (.slice none 0 0):Sem Value).run P w = .ok (.bool b) w:=by
    intro o l c
    refine ⟨o.isNone,fun h=>by cases o with | none=>exact absurd rfl h | some a=>rfl,?_⟩
    rw [eqGuard_at_slice]
    simpa using Go.Lib.run_eql_slice_nil w t e o l c 0 0 hd
   unfold nilOf at h
   split at h
   ·cases h
    cases ha with
    | sl0 a=>
     obtain ⟨b,-,hr⟩:=key a 0 0
     exact ⟨_,.ub b,hr⟩
   ·rename_i b off len
    cases ha with
    | sl h1 h2=>
     rename_i a cap
     obtain ⟨b,hb,hr⟩:=key a len cap
     split at h
     ·cases h; exact ⟨_,.ub b,hr⟩
     ·cases h
      rcases h2 with h2 | ⟨p,_,_,rfl⟩
      ·omega
      ·have:=hb (by simp)
       subst this
       exact ⟨_,.bool _,hr⟩
   ·rename_i rows
    cases ha with
    | list hl h1 h2 hm=>
     rename_i a len cap
     rename_i vss
     split at h
     ·cases h
      obtain ⟨b,-,hr⟩:=key _ _ _
      exact ⟨_,.ub b,hr⟩
     ·cases h
      rcases hm with hm | ⟨e,rb,ro,rfl,_⟩
      ·subst hm; simp at *
      ·obtain ⟨b,hb,hr⟩:=key (some ⟨rb,ro,none⟩) _ _
       have:=hb (by simp)
       subst this
       exact ⟨_,.bool _,hr⟩
   ·cases h
  ·cases h
end Go.Ev
namespace Go.Ev
open Go.RowKit
set_option linter.unusedVariables false
set_option linter.unusedSimpArgs false
variable {E:Env} {P:Program} {j:Inj} {base:Nat} {H:Heap} {w:World}
theorem setAll (vs:List Value):∀ (k off:Nat) (cells:Array Value),off + k + vs.length≤cells.size →
  ((vs.zipIdx k).foldl (fun cs (p:Value×Nat)=>cs.setIfInBounds (off + p.2) p.1) cells).toList=cells.toList.take (off + k)++vs++cells.toList.drop (off + k + vs.length):=by
 induction vs with
 | nil=>intro k off cells h; simp
 | cons v vs ih=>
  intro k off cells h
  simp only [List.zipIdx_cons,List.foldl_cons,List.length_cons] at h ⊢
  rw [ih (k + 1) off _ (by simp; omega)]
  have hk:off + k < cells.toList.length:=by simp; omega
  simp only [Array.toList_setIfInBounds]
  rw [show off + (k + 1)=off + k + 1 from by omega]
  rw [List.take_succ_eq_append_getElem (by simpa using hk)]
  rw [List.take_set_of_le (Nat.le_refl _),List.getElem_set_self]
  rw [List.drop_set_of_lt (by omega)]
  simp only [List.append_assoc,List.singleton_append]
  rw [show off + k + 1 + vs.length=off + k + (vs.length + 1) from by omega]
theorem fill_cells (vs cells:Array Value) (off:Nat) (h:off + vs.size≤cells.size) :
  (vs.zipIdx.foldl (fun cs (c,j)=>cs.setIfInBounds (off + j) c) cells).toList=cells.toList.take off++vs.toList++cells.toList.drop (off + vs.size):=by
 have:=setAll vs.toList 0 off cells (by simpa using h)
 rw [← Array.foldl_toList]
 simpa [Array.toList_zipIdx] using this
inductive PRs (j:Inj):List (Nat×D)→List (Nat×Value)→Prop
 | nil:PRs j [] []
 | cons {i d v ds vs} (h:d ≠ .undef→VR j d v) (hs:PRs j ds vs):PRs j ((i,d) :: ds) ((i,v) :: vs)
theorem isCell_ne {d:D} (h:d.cells.all D.isCell=true):d ≠ .undef:=by
 intro e; subst e; simp [D.cells,D.isCell] at h
theorem sim_fill (place:Nat→Option (Nat×Nat)):∀ {ds:List (Nat×D)} {vs:List (Nat×Value)},PRs j ds vs→∀ {cells out:List D} {vcells:Array Value},VRs j cells vcells.toList→cells.all D.isCell=true →
  fillC place cells ds=some out→∃ vout,Instr.fill place vcells vs=some vout∧VRs j out vout.toList∧out.all D.isCell=true
 | _,_,.nil,cells,out,vcells,h,hc,hf=>by
  simp only [fillC,Option.some.injEq] at hf
  subst hf
  exact ⟨vcells,rfl,h,hc⟩
 | _,_,@PRs.cons _ i d v ds vs hd hs,cells,out,vcells,h,hc,hf=>by
  simp only [fillC] at hf
  replace hf:=Option.bind_eq_some_iff.mp hf
  obtain ⟨p,hp,hf⟩:=hf
  split at hf
  ·rename_i hcond
   obtain ⟨h1,h2,h3⟩:=hcond
   have hVR:=hd (isCell_ne h3)
   obtain ⟨hl,hcs⟩:=hVR.cells
   have hlen:cells.length=vcells.size:=by simpa using h.length
   obtain ⟨po,ps⟩:=p
   dsimp only at h1 h2 hf
   have hsz:v.cells.size=ps:=by omega
   have hfit:¬ (po + v.cells.size > vcells.size):=by omega
   have hset:=fill_cells v.cells vcells po (by omega)
   have hnew:VRs j (cells.take po++d.cells++cells.drop (po + ps)) (v.cells.zipIdx.foldl (fun cs (c,j)=>cs.setIfInBounds (po + j) c) vcells).toList:=by
    rw [hset,hsz]
    exact ((h.take po).append hcs).append (h.drop _)
   have hall:(cells.take po++d.cells++cells.drop (po + ps)).all D.isCell=true:=by
    rw [List.all_append,List.all_append,h3]
    rw [List.all_eq_true] at hc
    simp only [Bool.and_true,Bool.and_eq_true,List.all_eq_true]
    exact ⟨fun x hx=>hc x (List.mem_of_mem_take hx),fun x hx=>hc x (List.mem_of_mem_drop hx)⟩
   obtain ⟨vout,e1,e2,e3⟩:=sim_fill place hs hnew hall hf
   refine ⟨vout,?_,e2,e3⟩
   simp only [Instr.fill,hp]
   have hb:(v.cells.size ≠ ps || po + v.cells.size > vcells.size)=false:=by simp [hsz]; omega
   simp only [hb]
   exact e1
  ·cases hf
theorem zero_VRs:∀ (cs:List Value),(cs.map lit).all D.isCell=true→VRs j (cs.map lit) cs
 | [],_=>.nil
 | c :: cs,h=>by
  simp only [List.map_cons,List.all_cons,Bool.and_eq_true] at h
  exact .cons (VR.lit c (by intro e; rw [e] at h; simp [D.isCell] at h)) (zero_VRs cs h.2)
theorem zeroD_some {i:TypeInfo} (h:(zeroD i).all D.isCell=true):∃ z,i.zero=some z∧zeroD i=z.cells.toList.map lit∧VRs j (zeroD i) z.cells.toList:=by
 unfold zeroD at h ⊢
 cases hz:i.zero with
 | none=>rw [hz] at h; simp [D.isCell] at h
 | some z=>rw [hz] at h; exact ⟨z,rfl,rfl,zero_VRs _ h⟩
theorem PRs.of {s:Slots} {ρ:Operand→Value} (hO:OR j s ρ):∀ l:List (Nat×Operand),PRs j (l.map fun p=>(p.1,opnd s p.2)) (l.map fun p=>(p.1,ρ p.2))
 | []=>.nil
 | (i,x) :: l=>.cons (hO x) (PRs.of hO l)
theorem mapM_pure {α β:Type} (f:α→Sem β) (g:α→β):∀ l:List α,(∀ a ∈ l,∀ w,(f a).run P w = .ok (g a) w)→∀ w,(l.mapM f).run P w = .ok (l.map g) w
 | [],_,w=>by simp
 | a :: l,h,w=>by
  rw [List.mapM_cons]
  simp only [Sem.run_bind,h a (by simp),Result.andThen_ok,mapM_pure f g l (fun b hb=>h b (by simp [hb])) w,Sem.run_pure,List.map_cons]
theorem sim_build (hE:EnvOk E P) {s:Slots} {ρ:Operand→Value} (hO:OR j s ρ) {t:TypeId} {ps:Array (Nat×Operand)} {d:D} (h:build E t (parts s ps)=some d) :
  ∃ r,VR j d r∧(Instr.build t (ps.map fun (i,x)=>(i,ρ x))).run P w = .ok r w:=by
 replace h:=Option.bind_eq_some_iff.mp h
 obtain ⟨y,hy,h⟩:=h
 cases ha:y.agg with
 | false=>rw [ha] at h; cases h
 | true=>
  rw [ha] at h
  simp only [cond_true] at h
  unfold bld at h
  split at h
  ·rename_i hz
   obtain ⟨cs,hcs,rfl⟩:=Option.map_eq_some_iff.mp h
   obtain ⟨ti,td,hti,hd,hty⟩:=ty_kd hE hy
   obtain ⟨-,hag,hzz⟩:=tyD_size hty
   rw [hzz] at hz hcs
   obtain ⟨z,hz0,hzl,hzv⟩:=zeroD_some (j:=j) hz
   rw [hag] at ha
   cases td <;> simp [aggD] at ha
   ·simp [tyD] at hty
   ·rename_i fs
    have hfields:∀ n:Nat,((y.fields[n]?).map fun (q:Nat×Nat×Bool)=>(q.1,q.2.1))=(fs.toList.map fun f=>(f.offset,P.cellsOf f.type))[n]?:=by
     intro n
     simp only [tyD] at hty
     cases hf:fs.toList.all (fieldOk P) with
     | false=>rw [hf] at hty; cases hty
     | true=>
      rw [hf] at hty; cases hty
      simp only [List.getElem?_map,Option.map_map]
      congr 1
    have hplaces:(fs.mapM fun f=>do pure (f.offset,← sizeOf f.type):Sem (Array (Nat×Nat))).run P w = .ok (fs.toList.map fun f=>(f.offset,P.cellsOf f.type)).toArray w:=by
     rw [← Array.toArray_toList (xs:=fs)]
     simp only [List.mapM_toArray,Sem.run_map,List.toList_toArray]
     rw [mapM_pure (P:=P) _ (fun f=>(f.offset,P.cellsOf f.type)) fs.toList ?_ w]
     ·rfl
     ·intro f hf w
      have hok:fieldOk P f=true:=by
       simp only [tyD] at hty
       cases hf':fs.toList.all (fieldOk P) with
       | false=>rw [hf'] at hty; cases hty
       | true=>exact (List.all_eq_true.mp hf') f hf
      unfold fieldOk at hok
      split at hok
      ·rename_i fi fd hfi hfd
       simp [sizeOf,typeInfo,hfi,Program.cellsOf]
      ·cases hok
    obtain ⟨vout,e1,e2,e3⟩:=sim_fill (j:=j) (fun i:Nat=>(y.fields[i]?).map fun (q:Nat×Nat×Bool)=>(q.1,q.2.1)) (PRs.of hO ps.toList) hzv hz hcs
    refine ⟨.agg vout,by have:=VR.agg (j:=j) e3 e2; simpa using this,?_⟩
    have hplace:(fun i:Nat=>(y.fields[i]?).map fun (q:Nat×Nat×Bool)=>(q.1,q.2.1))=((fs.toList.map fun f=>(f.offset,P.cellsOf f.type)).toArray[·]?):=by
     funext i; rw [hfields i]; simp
    rw [hplace] at e1
    have hpl:(ps.map fun (i,x)=>(i,ρ x)).toList=ps.toList.map fun p=>(p.1,ρ p.2):=by simp
    simp only [Instr.build,zeroValue,typeInfo,Sem.run_bind,run_program,Result.andThen_ok,hti,Sem.run_pure,hz0,run_underlying hd,hplaces,hpl,e1]
  ·cases h
end Go.Ev
namespace Go.Ev
open Go.RowKit
set_option linter.unusedVariables false
set_option linter.unusedSimpArgs false
variable {E:Env} {P:Program} {j:Inj} {base:Nat} {H:Heap} {w:World}
theorem or_some {s:Slots} {ρ:Operand→Value} (hO:OR j s ρ) {x:Option Operand}:∀ q,x.map (opnd s)=some q→q ≠ .undef→∃ u,x.map ρ=some u∧VR j q u:=by
 intro q hq hu
 obtain ⟨y,hy,rfl⟩:=Option.map_eq_some_iff.mp hq
 exact ⟨ρ y,by rw [hy]; rfl,hO y hu⟩
theorem slice_ne {t:TypeId} {x d:D} {lo hi mx:Option D} (h:slice E H t x lo hi mx=some d):x ≠ .undef∧lo ≠ some .undef∧hi ≠ some .undef∧mx ≠ some .undef:=by
 replace h:=Option.bind_eq_some_iff.mp h
 obtain ⟨y,hy,h⟩:=h
 cases hsl:y.isSl with
 | false=>
  rw [hsl] at h
  simp only [cond_false] at h
  split at h
  ·unfold slS at h
   split at h
   ·split at h
    ·rename_i hm
     replace h:=Option.bind_eq_some_iff.mp h
     obtain ⟨l,hl,h⟩:=h
     replace h:=Option.bind_eq_some_iff.mp h
     obtain ⟨h',hh,h⟩:=h
     refine ⟨by simp,?_,?_,?_⟩ <;> intro e <;> subst e
     ·simp [bound] at hl
     ·simp [bound] at hh
     ·simp at hm
    ·cases h
   ·cases h
  ·cases h
 | true=>
  rw [hsl] at h
  simp only [cond_true] at h
  unfold slL at h
  split at h
  ·replace h:=Option.bind_eq_some_iff.mp h
   obtain ⟨l,hl,h⟩:=h
   replace h:=Option.bind_eq_some_iff.mp h
   obtain ⟨h',hh,h⟩:=h
   split at h
   ·rename_i hc
    refine ⟨by simp,?_,?_,?_⟩ <;> intro e <;> subst e
    ·simp [bound] at hl
    ·simp [bound] at hh
    ·simp [cut0] at hc
   ·cases h
  ·replace h:=Option.bind_eq_some_iff.mp h
   obtain ⟨l,hl,h⟩:=h
   replace h:=Option.bind_eq_some_iff.mp h
   obtain ⟨h',hh,h⟩:=h
   split at h
   ·refine ⟨by simp,?_,?_,?_⟩ <;> intro e <;> subst e
    ·simp [bound] at hl
    ·simp [bound] at hh
    ·simp [cut0] at h
   ·cases h
  ·replace h:=Option.bind_eq_some_iff.mp h
   obtain ⟨l,hl,h⟩:=h
   replace h:=Option.bind_eq_some_iff.mp h
   obtain ⟨h',hh,h⟩:=h
   split at h
   ·refine ⟨by simp,?_,?_,?_⟩ <;> intro e <;> subst e
    ·simp [bound] at hl
    ·simp [bound] at hh
    ·simp [cut0] at h
   ·cases h
  ·cases h
theorem sim_pop (hE:EnvOk E P) {s:Slots} {ρ:Operand→Value} (hO:OR j s ρ) (hK:∀ v,ρ (.const v)=v) (hH:HR j base H w) {o:Oper} {d:D} (h:popOp E s H o.op=some d) (hp:isPop E o.op=true) :
    ∃ v,(d ≠ .undef→VR j d v)∧(execOp ρ o).run P w = .ok (.value v) w:=by
  obtain ⟨dst,op,type,pos,after,guard⟩:=o
  dsimp only at h hp
  cases op <;> simp only [isPop] at hp <;> (try (simp only [Bool.false_eq_true] at hp; done)) <;> simp only [popOp] at h
  case build t ps=>
    obtain ⟨v,h1,h2⟩:=sim_build (w:=w) hE hO h
    exact ⟨v,fun _=>h1,run_v h2⟩
  case load t a=>
    have hx:=hO a (by intro e; rw [e] at h; simp [load,ld] at h)
    obtain ⟨v,h1,h2⟩:=sim_load hE hH h hx
    exact ⟨v,fun _=>h1,run_v h2⟩
  case nilCheck x=>
    have hx:=hO x (by intro e; rw [e] at h; simp [nilCheck] at h)
    obtain ⟨v,h1,h2⟩:=sim_nilCheck (w:=w) (o:=⟨dst,.nilCheck x,type,pos,after,guard⟩) h rfl hx
    exact ⟨v,fun _=>h1,h2⟩
  case binOp op t x y yt=>
   cases hn:isNilC y with
   | true=>
    rw [hn] at h
    simp only [cond_true] at h
    have hy:y = .const (.slice none 0 0):=by
      unfold isNilC at hn
      split at hn
      · rfl
      · cases hn
    subst hy
    have hx:=hO x (by
      intro e; rw [e] at h
      replace h:=Option.bind_eq_some_iff.mp h
      obtain ⟨z,hz,h⟩:=h
      cases hs:z.isSl <;> rw [hs] at h
      · cases h
      · cases op <;> cases h)
    obtain ⟨v,h1,h2⟩:=sim_nilCmp (w:=w) hE h hx x (.const (.slice none 0 0))
    have hρ:ρ (.const (.slice none 0 0)) = .slice none 0 0:=hK _
    refine ⟨v,fun _=>h1,run_v ?_⟩
    rw [hρ]; exact h2
   | false=>
    rw [hn] at h
    simp only [cond_false] at h
    have hx:=hO x (by
      intro e; rw [e] at h
      replace h:=Option.bind_eq_some_iff.mp h
      obtain ⟨z,hz,h⟩:=h
      split at h <;> first | (simp [bI] at h; done) | (simp [bS] at h; done) | (simp [bB] at h; done) | (split at h <;> first | (simp [bA] at h; done) | cases h))
    have hy:=hO y (by
      intro e; rw [e] at h
      replace h:=Option.bind_eq_some_iff.mp h
      obtain ⟨z,hz,h⟩:=h
      split at h <;> first | (simp [bI] at h; done) | (simp [bS] at h; done) | (simp [bB] at h; done) | (split at h <;> first | (simp [bA] at h; done) | cases h))
    obtain ⟨v,h1,h2⟩:=sim_binOp (w:=w) hE h hx hy x y
    exact ⟨v,fun _=>h1,run_v h2⟩
  case unOp op t x=>
    have hx:=hO x (by intro e; rw [e] at h; cases op <;> simp [unOp] at h)
    obtain ⟨v,h1,h2⟩:=sim_unOp (P:=P) (w:=w) h hx
    exact ⟨v,fun _=>h1,run_v h2⟩
  case convert a t x=>
    have hx:=hO x (by
      intro e; rw [e] at h
      replace h:=Option.bind_eq_some_iff.mp h
      obtain ⟨z,hz,h⟩:=h
      split at h <;> first | (simp [cI] at h; done) | cases h)
    rw [Bool.and_eq_true] at hp
    have hs:(P.underlying a).isSome=true:=by
      obtain ⟨y,hy⟩:=Option.isSome_iff_exists.mp hp.1
      obtain ⟨ti,td,hti,hd,hty⟩:=ty_kd hE hy
      rw [hd]; rfl
    obtain ⟨v,h1,h2⟩:=sim_toInt (w:=w) hE h hs hx
    exact ⟨v,fun _=>h1,run_v h2⟩
  case slice t x lo hi mx=>
    obtain ⟨n1,n2,n3,n4⟩:=slice_ne h
    obtain ⟨v,h1,h2⟩:=sim_slice hE hH h (hO x n1)
      (vl:=lo.map ρ) (vh:=hi.map ρ) (vm:=mx.map ρ)
      (fun q hq=>or_some hO q hq (by intro e; subst e; exact n2 hq)) (by intro e; simpa using e)
      (fun q hq=>or_some hO q hq (by intro e; subst e; exact n3 hq)) (by intro e; simpa using e)
      (fun q hq=>or_some hO q hq (by intro e; subst e; exact n4 hq)) (by intro e; simpa using e)
    exact ⟨v,fun _=>h1,run_v h2⟩
  case fieldAddr t x f=>
    have hx:=hO x (by intro e; rw [e] at h; simp [fieldAddr,fa] at h)
    obtain ⟨v,h1,h2⟩:=sim_fieldAddr (w:=w) hE h hx
    exact ⟨v,fun _=>h1,run_v h2⟩
  case field t x f=>
    have hx:=hO x (by intro e; rw [e] at h; simp [field,fd] at h)
    obtain ⟨v,h1,h2⟩:=sim_field (w:=w) hE h hx
    exact ⟨v,fun _=>h1,run_v h2⟩
  case indexAddr t x i=>
    have hx:=hO x (by
      intro e; rw [e] at h
      replace h:=Option.bind_eq_some_iff.mp h
      obtain ⟨z,hz,h⟩:=h
      cases hs:z.isSl <;> rw [hs] at h <;> simp [ia] at h)
    have hi:=hO i (by
      intro e; rw [e] at h
      replace h:=Option.bind_eq_some_iff.mp h
      obtain ⟨z,hz,h⟩:=h
      cases hs:z.isSl <;> rw [hs] at h <;> simp [ia] at h)
    obtain ⟨v,h1,h2⟩:=sim_indexAddr hE hH h hx hi
    exact ⟨v,fun _=>h1,run_v h2⟩
  case index t x i=>
    have hx:=hO x (by
      intro e; rw [e] at h
      replace h:=Option.bind_eq_some_iff.mp h
      obtain ⟨z,hz,h⟩:=h
      split at h <;> simp [ix] at h)
    have hi:=hO i (by
      intro e; rw [e] at h
      replace h:=Option.bind_eq_some_iff.mp h
      obtain ⟨z,hz,h⟩:=h
      split at h <;> simp [ix] at h)
    obtain ⟨v,h1,h2⟩:=sim_index (w:=w) hE h hx hi
    exact ⟨v,fun _=>h1,run_v h2⟩
  case extract t i=>
    have hx:=hO t (by intro e; rw [e] at h; simp [extract] at h)
    obtain ⟨v,h1,h2⟩:=sim_extract (P:=P) (w:=w) h hx
    exact ⟨v,h1,run_v h2⟩
  case call c=>
    obtain ⟨callee,args,argTypes⟩:=c
    dsimp only at h
    have hc:callee = .builtin .len:=by
      cases callee with
      | value f=>simp at hp
      | invoke f m=>simp at hp
      | builtin b=>cases b <;> first | rfl | (simp at hp; done)
    subst hc
    split at h
    · rename_i x t ha ht
      have hx:=hO x (by
        intro e; rw [e] at h
        replace h:=Option.bind_eq_some_iff.mp h
        obtain ⟨z,hz,h⟩:=h
        cases hs:z.isSl <;> rw [hs] at h
        · simp only [cond_false] at h
          split at h <;> simp [lnS] at h
        · simp [lnL] at h)
      have ha':args = #[x]:=by apply Array.ext'; simpa using ha
      have ht':argTypes = #[t]:=by apply Array.ext'; simpa using ht
      subst ha' ht'
      obtain ⟨v,h1,h2⟩:=sim_lenOf (w:=w) (ty:=type) hE h hx
      refine ⟨v,fun _=>h1,?_⟩
      simp only [execOp,resolve,Sem.run_bind,Sem.run_pure,Result.andThen_ok,invoke,builtin]
      simp [h2]
    · cases h
end Go.Ev
namespace Go.Ev
open Go.RowKit
set_option linter.unusedVariables false
set_option linter.unusedSimpArgs false
variable {E:Env} {P:Program} {j:Inj} {base:Nat} {H:Heap} {w:World}
structure Grows (j j':Inj) (n m:Nat):Prop where
 ext:Ext j j'
 same:∀ b,b < n∨m≤b→j' b=j b
theorem Grows.refl (j:Inj) (n m:Nat):Grows j j n m:=⟨Ext.refl j,fun _ _=>rfl⟩
def upd (j:Inj) (n:Nat) (p:Pl):Inj:={ j with pl:=fun b=>if b=n then some p else j b }
theorem upd_self (j:Inj) (n:Nat) (p:Pl):upd j n p n=some p:=if_pos rfl
theorem upd_ne (j:Inj) {n b:Nat} (p:Pl) (h:b ≠ n):upd j n p b=j b:=if_neg h
theorem upd_ext {n:Nat} (p:Pl) (h:j n=none):Ext j (upd j n p):=by
 refine ⟨fun b q hb=>?_,fun _ _ h=>h⟩
 by_cases e:b=n
 ·subst e; rw [h] at hb; cases hb
 ·exact (upd_ne j p e).trans hb
theorem upd_grows {n m:Nat} (p:Pl) (h:j n=none) (hm:n < m):Grows j (upd j n p) n m:=
 ⟨upd_ext p h,fun b hb=>upd_ne j p (by omega)⟩
theorem getBlk_append_lt {H K:Heap} {b:Nat} (h:b < H.length):getBlk (H++K) b=getBlk H b:=by
 unfold getBlk; rw [List.getElem?_append_left h]
theorem getBlk_append_new (H:Heap) (blk:Rows):getBlk (H++[some blk]) H.length=some blk:=by
 unfold getBlk; simp
theorem getBlk_lt {H:Heap} {b:Nat} {blk:Rows} (h:getBlk H b=some blk):b < H.length:=by
 unfold getBlk at h
 rcases Nat.lt_or_ge b H.length with h' | h'
 ·exact h'
 ·rw [List.getElem?_eq_none h'] at h; cases h
theorem getBlk_snoc {H:Heap} {b:Nat} {blk blk':Rows} (h:getBlk (H++[some blk]) b=some blk'):(b=H.length∧blk'=blk)∨(b < H.length∧getBlk H b=some blk'):=by
 have hl:=getBlk_lt h
 simp at hl
 rcases Nat.lt_or_ge b H.length with h' | h'
 ·rw [getBlk_append_lt h'] at h; exact .inr ⟨h',h⟩
 ·have:b=H.length:=by omega
  subst this
  rw [getBlk_append_new] at h; cases h; exact .inl ⟨rfl,rfl⟩
theorem getBlk_set {H:Heap} {b n:Nat} {x:Option Rows} {blk:Rows} (h:getBlk (H.set n x) b=some blk):(b=n∧x=some blk)∨(b ≠ n∧getBlk H b=some blk):=by
 unfold getBlk at h ⊢
 rw [List.getElem?_set] at h
 split at h
 ·rename_i e; subst e
  split at h
  ·exact .inl ⟨rfl,by simpa using h⟩
  ·cases h
 ·rename_i e; exact .inr ⟨fun x=>e x.symm,h⟩
theorem HR.fz_none (h:HR j base H w) {rb:Nat} (hr:w.heap.size≤rb):j.fz rb=none:=by
 cases hz:j.fz rb with
 | none=>rfl
 | some o=>
  have:=h.fz rb o hz
  rw [Array.getElem?_eq_none hr] at this; cases this
theorem BR.grow {blk:Rows} {p:Pl} {w':World} {j':Inj} (h:BR j base w blk p) (hj:Ext j j') (hz:j'.fz p.rb=none) (hb:Below w.heap.size w w'):BR j' base w' blk p where
 rows i row hr:=⟨(h.rows i row hr).1,fun f d hd=>by
  obtain ⟨hc,v,hv,hVR⟩:=(h.rows i row hr).2 f d hd
  exact ⟨hc,v,by rw [hb.cell (p:=p.at i f) h.lt]; exact hv,hVR.mono hj⟩⟩
 lt:=Nat.lt_of_lt_of_le h.lt hb.size
 own:=by
  obtain ⟨h1,cs,el,fr,h2,h3⟩:=h.own
  exact ⟨h1,cs,el,fr,by rw [hb.block p.rb h.lt]; exact h2,h3⟩
 nz:=hz
theorem HR.fz_below {w':World} (h:HR j base H w) (hb:Below w.heap.size w w'):∀ rb o,j.fz rb=some o→w'.heap[rb]? = some o:=fun rb o hz=>by
 have:=h.fz rb o hz
 rw [hb.block rb (Array.getElem?_eq_some_iff.1 this).1]; exact this
theorem HR.grow {w':World} (h:HR j base H w) (hb:Below w.heap.size w w'):HR j base H w':=
 ⟨fun b blk p h1 h2=>(h.blk b blk p h1 h2).grow (Ext.refl j) (h.blk b blk p h1 h2).nz hb,h.sep,h.fz_below hb⟩
theorem HR.add {w':World} {blk:Rows} {p:Pl} (h:HR j base H w) (hb:Below w.heap.size w w') (hj:j H.length=none) (hB:BR (upd j H.length p) base w' blk p) (hp:w.heap.size≤p.rb) :
  HR (upd j H.length p) base (H++[some blk]) w' where
 blk b blk' q h1 h2:=by
  rcases getBlk_snoc h1 with ⟨rfl,rfl⟩ | ⟨hlt,h1⟩
  ·rw [upd_self] at h2; cases h2; exact hB
  ·rw [upd_ne j p (by omega)] at h2
   exact (h.blk b blk' q h1 h2).grow (upd_ext p hj) (h.blk b blk' q h1 h2).nz hb
 sep b b' blk1 blk2 p1 p2 h1 h2 e1 e2 hne hrb:=by
  rcases getBlk_snoc h1 with ⟨eb,ek⟩ | ⟨hlt,g1⟩ <;> rcases getBlk_snoc h2 with ⟨eb',ek'⟩ | ⟨hlt',g2⟩
  ·exact absurd (eb.trans eb'.symm) hne
  ·rw [eb,upd_self] at e1
   rw [upd_ne j p (by omega)] at e2
   have:=(h.blk b' blk2 p2 g2 e2).lt
   have:=Option.some.inj e1
   rw [this] at hp
   omega
  ·rw [eb',upd_self] at e2
   rw [upd_ne j p (by omega)] at e1
   have:=(h.blk b blk1 p1 g1 e1).lt
   have:=Option.some.inj e2
   rw [this] at hp
   omega
  ·rw [upd_ne j p (by omega)] at e1 e2
   exact h.sep b b' blk1 blk2 p1 p2 g1 g2 e1 e2 hne hrb
 fz:=h.fz_below hb
theorem flat_get {e:Nat}:∀ {rows:List (List D)},(∀ r ∈ rows,r.length=e)→∀ {i f:Nat} {row:List D} {d:D},rows[i]? = some row→row[f]? = some d→rows.flatten[i * e + f]? = some d
 | r :: rows,hl,0,f,row,d,hr,hd=>by
  simp at hr; subst hr
  have hf:f < r.length:=by
   rcases Nat.lt_or_ge f r.length with h | h
   ·exact h
   ·rw [List.getElem?_eq_none h] at hd; cases hd
  simp [List.getElem?_append_left hf,hd]
 | r :: rows,hl,i + 1,f,row,d,hr,hd=>by
  have hre:=hl r (by simp)
  have ih:=flat_get (rows:=rows) (fun r' hr'=>hl r' (List.mem_cons_of_mem _ hr')) (by simpa using hr) hd
  rw [List.flatten_cons,List.getElem?_append_right (by rw [hre,Nat.add_mul]; omega)]
  rw [hre,show (i + 1) * e + f - e=i * e + f from by rw [Nat.add_mul]; omega]
  exact ih
theorem flat_length {e:Nat}:∀ {rows:List (List D)},(∀ r ∈ rows,r.length=e)→rows.flatten.length=rows.length * e
 | [],_=>by simp
 | r :: rows,hl=>by
  rw [List.flatten_cons,List.length_append,flat_length (fun r hr=>hl r (by simp [hr])),hl r (by simp),List.length_cons,Nat.add_mul]
  omega
theorem BR.new {rows:List (List D)} {e C rb:Nat} {cs:Array Value} {el:TypeId} {fr:Nat×Nat} {vs:List Value} (hl:∀ r ∈ rows,r.length=e) (hc:∀ r ∈ rows,∀ d ∈ r,d.isCell=true)
  (hv:VRs j rows.flatten vs) (hpre:∀ (k:Nat) v,vs[k]? = some v→cs[k]? = some v) (hw:w.heap[rb]? = some (.cells cs el fr)) (hfr:∀ k,k < cs.size→¬ (fr.1≤k∧k < fr.2)) (hC:C * e≤cs.size) (hb:base≤rb) (hz:j.fz rb=none) :
  BR j base w rows ⟨rb,0,e,C⟩ where
 rows i row hr:=by
  have hm:=List.mem_of_getElem? hr
  refine ⟨hl row hm,fun f d hd=>⟨hc row hm d (List.mem_of_getElem? hd),?_⟩⟩
  obtain ⟨v,h1,h2⟩:=hv.get (flat_get hl hr hd)
  refine ⟨v,?_,h2⟩
  simp only [World.cell?,Pl.at,hw]
  have:=hpre _ _ h1
  simpa using this
 lt:=by
  rcases Nat.lt_or_ge rb w.heap.size with h | h
  ·exact h
  ·rw [Array.getElem?_eq_none h] at hw; cases hw
 own:=⟨hb,cs,el,fr,hw,hfr,by simpa using hC⟩
 nz:=hz
theorem below_alloc0 (w:World) (o:Obj):Below w.heap.size w (w.alloc o):=(Below.refl _ _).alloc (Nat.le_refl _) o
theorem below_drew_alloc (w:World) (o:Obj):Below w.heap.size w (w.drew.alloc o):=((Below.refl _ _).drew).alloc (Nat.le_refl _) o
theorem heap_alloc_new (w:World) (o:Obj):(w.alloc o).heap[w.heap.size]? = some o:=by
 show (w.heap.push o)[w.heap.size]? = _
 simp
def NewZ (B:Nat) (j j':Inj):Prop:=∀ b o,j.fz b=none→j'.fz b=some o→B≤b
structure New (B:Nat) (j j':Inj):Prop where
 pl:∀ b p,j b=none→j' b=some p→B≤p.rb
 fz:NewZ B j j'
theorem NewZ.refl (B:Nat) (j:Inj):NewZ B j j:=fun b p h1 h2=>by rw [h1] at h2; cases h2
theorem NewZ.mono {B B':Nat} {j j':Inj} (h:NewZ B j j') (hb:B'≤B):NewZ B' j j':=fun b p h1 h2=>Nat.le_trans hb (h b p h1 h2)
theorem New.refl (B:Nat) (j:Inj):New B j j:=⟨(fun b p h1 h2=>by rw [h1] at h2; cases h2),NewZ.refl B j⟩
theorem New.mono {B B':Nat} {j j':Inj} (h:New B j j') (hb:B'≤B):New B' j j':=⟨fun b p h1 h2=>Nat.le_trans hb (h.pl b p h1 h2),h.fz.mono hb⟩
theorem upd_new {B n:Nat} {p:Pl} (h:B≤p.rb):New B j (upd j n p):=⟨(fun b q h1 h2=>by
 by_cases e:b=n
 ·subst e; rw [upd_self] at h2; cases h2; exact h
 ·rw [upd_ne j p e,h1] at h2; cases h2),NewZ.refl B j⟩
structure Step0 (B:Nat) (j:Inj) (base:Nat) (H:Heap) (w:World) (d:D) (H':Heap) (v:Value) (w':World):Prop where
 ex:∃ j',Grows j j' H.length H'.length∧(d ≠ .undef→VR j' d v)∧HR j' base H' w'∧NewZ B j j'
 below:Below B w w'
structure Step (B:Nat) (j:Inj) (base:Nat) (H:Heap) (w:World) (d:D) (H':Heap) (v:Value) (w':World):Prop where
 ex:∃ j',Grows j j' H.length H'.length∧(d ≠ .undef→VR j' d v)∧HR j' base H' w'∧New B j j'
 below:Below B w w'
theorem Step.weak {B:Nat} {d:D} {H':Heap} {v:Value} {w':World} (h:Step B j base H w d H' v w'):Step0 B j base H w d H' v w':=
 ⟨let ⟨j',a,b,c,n⟩:=h.ex; ⟨j',a,b,c,n.fz⟩,h.below⟩
theorem Step.mono {B B':Nat} {d:D} {H':Heap} {v:Value} {w':World} (h:Step B j base H w d H' v w') (hb:B'≤B):Step B' j base H w d H' v w':=
 ⟨let ⟨j',a,b,c,d⟩:=h.ex; ⟨j',a,b,c,d.mono hb⟩,h.below.mono hb⟩
theorem sim_new (hH:HR j base H w) (hb:base≤w.heap.size) (hj:j H.length=none) {cells:List D} {cs:Array Value} (hc:cells.all D.isCell=true) (hv:VRs j cells cs.toList) (el:TypeId) :
  Step w.heap.size j base H w (.ptr H.length 0 0) (H++[some [cells]]) (.pointer (some ⟨w.heap.size,0,none⟩)) (w.alloc (.cells cs el)):=by
 have hlen:cells.length=cs.size:=by simpa using hv.length
 refine ⟨⟨upd j H.length ⟨w.heap.size,0,cells.length,1⟩,upd_grows _ hj (by simp),fun _=>?_,?_,upd_new (Nat.le_refl _)⟩,below_alloc0 _ _⟩
 ·have:=VR.ptr (j:=upd j H.length ⟨w.heap.size,0,cells.length,1⟩) (i:=0) (f:=0) (upd_self _ _ _)
  simpa [Pl.at] using this
 ·refine hH.add (below_alloc0 _ _) hj ?_ (Nat.le_refl _)
  refine BR.new (vs:=cs.toList) (cs:=cs) (el:=el) (fr:=(0,0)) (by simp) ?_ ?_ ?_ (heap_alloc_new _ _) (fun k _ h=>Nat.not_lt_zero _ h.2) (by simp [hlen]) hb (hH.fz_none (Nat.le_refl _))
  ·simpa using hc
  ·simpa using hv.mono (upd_ext _ hj)
  ·intro k v h; simpa using h
end Go.Ev
namespace Go.Ev
open Go.RowKit
set_option linter.unusedVariables false
set_option linter.unusedSimpArgs false
variable {E:Env} {P:Program} {j:Inj} {base:Nat} {H:Heap} {w:World}
theorem flat_set {e:Nat} (v:List D) (hv:v.length=e):∀ {rows:List (List D)},(∀ r ∈ rows,r.length=e)→∀ {i:Nat},i < rows.length→(rows.set i v).flatten=rows.flatten.take (i * e)++v++rows.flatten.drop (i * e + e)
 | r :: rows,hl,0,_=>by
  have hr:=hl r (by simp)
  simp [List.drop_append,hr]
 | r :: rows,hl,i + 1,h=>by
  have hr:=hl r (by simp)
  have ih:=flat_set v hv (rows:=rows) (fun r' hr'=>hl r' (List.mem_cons_of_mem _ hr')) (i:=i) (by simpa using h)
  simp only [List.set_cons_succ,List.flatten_cons,ih]
  have t1:List.take ((i + 1) * e) r=r:=List.take_of_length_le (by rw [hr,Nat.add_mul]; omega)
  have t2:List.drop ((i + 1) * e + e) r=[]:=List.drop_of_length_le (by rw [hr,Nat.add_mul]; omega)
  rw [List.take_append,List.drop_append,t1,t2]
  rw [hr,show (i + 1) * e - e=i * e from by rw [Nat.add_mul]; omega,show (i + 1) * e + e - e=i * e + e from by rw [Nat.add_mul]; omega]
  simp
theorem fillR_flat {e:Nat}:∀ (ps:List (Nat×D)) {rows rows':List (List D)},(∀ r ∈ rows,r.length=e)→(∀ r ∈ rows,∀ d ∈ r,d.isCell=true)→fillR e rows ps=some rows' →
  fillC (fun i=>some (i * e,e)) rows.flatten ps=some rows'.flatten∧rows'.length=rows.length∧(∀ r ∈ rows',r.length=e)∧(∀ r ∈ rows',∀ d ∈ r,d.isCell=true)
 | [],rows,rows',hl,hc,h=>by
  simp only [fillR,Option.some.injEq] at h
  subst h
  exact ⟨rfl,rfl,hl,hc⟩
 | (i,v) :: ps,rows,rows',hl,hc,h=>by
  simp only [fillR] at h
  split at h
  ·rename_i hcond
   obtain ⟨h1,h2,h3⟩:=hcond
   have hl':∀ r ∈ rows.set i v.cells,r.length=e:=fun r hr=>by
    rcases List.mem_or_eq_of_mem_set hr with hr | rfl
    ·exact hl r hr
    ·exact h1
   have hc':∀ r ∈ rows.set i v.cells,∀ d ∈ r,d.isCell=true:=fun r hr d hd=>by
    rcases List.mem_or_eq_of_mem_set hr with hr | rfl
    ·exact hc r hr d hd
    ·exact (List.all_eq_true.mp h3) d hd
   obtain ⟨g1,g2,g3,g4⟩:=fillR_flat ps hl' hc' h
   refine ⟨?_,by rw [g2]; simp,g3,g4⟩
   simp only [fillC,Option.bind_some]
   have hfit:i * e + e≤rows.flatten.length:=by
    rw [flat_length hl]
    have:i + 1≤rows.length:=h2
    have:=Nat.mul_le_mul_right e this
    rw [Nat.add_mul] at this
    omega
   rw [if_pos ⟨h1,hfit,h3⟩,← flat_set v.cells h1 hl h2]
   exact g1
  ·cases h
theorem made_get (z:Array Value) {n k:Nat} (h:k < n):(madeCells z n).toList[k]? = some (z[k % z.size]!):=by
 simp [madeCells,List.getElem?_range h]
theorem made_VRs {zs:List D} {z:Array Value} (hv:VRs j zs z.toList) (n:Nat):VRs j (List.replicate n zs).flatten (madeCells z (n * zs.length)).toList:=by
 have hlen:zs.length=z.size:=by simpa using hv.length
 have hl:∀ r ∈ List.replicate n zs,r.length=zs.length:=fun r hr=>by rw [List.eq_of_mem_replicate hr]
 refine VRs.of_get ?_ fun k d v hd hk=>?_
 ·rw [flat_length hl]; simp [madeCells]
 ·have hkn:k < n * zs.length:=by
   have:=flat_length hl
   rw [List.length_replicate] at this
   rw [← this]
   exact (List.getElem?_eq_some_iff.mp hd).1
  have hpos:0 < zs.length:=by
   rcases Nat.eq_zero_or_pos zs.length with h | h
   ·rw [h] at hkn; omega
   ·exact h
  have hf:k % zs.length < zs.length:=Nat.mod_lt _ hpos
  have hi:k / zs.length < n:=Nat.div_lt_of_lt_mul (by rw [Nat.mul_comm]; exact hkn)
  have hrow:(List.replicate n zs)[k / zs.length]? = some zs:=by simp [hi]
  have hd':=flat_get hl hrow (List.getElem?_eq_getElem hf)
  have hke:k / zs.length * zs.length + k % zs.length=k:=by rw [Nat.mul_comm]; exact Nat.div_add_mod k _
  rw [hke] at hd'
  rw [hd'] at hd
  cases hd
  obtain ⟨u,hu,hr⟩:=hv.get (List.getElem?_eq_getElem hf)
  have:v=u:=by
   have hz:k % z.size < z.size:=by rw [← hlen]; exact hf
   rw [hlen] at hu hkn hk
   rw [made_get z hkn,getElem!_pos z _ hz] at hk
   rw [Array.getElem?_toList,Array.getElem?_eq_getElem hz] at hu
   exact (Option.some.inj hk).symm.trans (Option.some.inj hu)
  rw [this]; exact hr
theorem sim_buildSlice (hE:EnvOk E P) (hH:HR j base H w) (hb:base≤w.heap.size) {r:D×Heap} (hj:H.length < r.2.length→j H.length=none) {s:Slots} {ρ:Operand→Value} (hO:OR j s ρ) {t:TypeId} {n:Nat} {ps:Array (Nat×Operand)}
  (h:buildSlice E H t n (parts s ps)=some r):∃ v w',(Instr.buildSlice t n (ps.map fun (i,x)=>(i,ρ x))).run P w = .ok v w'∧Step w.heap.size j base H w r.1 r.2 v w':=by
 replace h:=Option.bind_eq_some_iff.mp h
 obtain ⟨y,hy,h⟩:=h
 cases hsl:y.isSl with
 | false=>rw [hsl] at h; cases h
 | true=>
  rw [hsl] at h
  simp only [cond_true] at h
  obtain ⟨ti,td,hti,hd,hty⟩:=ty_kd hE hy
  obtain ⟨e,ie,rfl,hie,hes,heb,hez,-,hzl⟩:=tyD_slice hty hsl
  unfold bsl at h
  split at h
  ·rename_i hc
   obtain ⟨hsz,hz⟩:=hc
   obtain ⟨rows,hrows,rfl⟩:=Option.map_eq_some_iff.mp h
   rw [hez] at hz hrows
   rw [hes] at hsz hrows
   obtain ⟨z,hz0,hzd,hzv⟩:=zeroD_some (j:=j) hz
   have hl0:∀ r ∈ List.replicate n (zeroD ie),r.length=ie.size:=fun r hr=>by rw [List.eq_of_mem_replicate hr]; exact hzl
   have hc0:∀ r ∈ List.replicate n (zeroD ie),∀ d ∈ r,d.isCell=true:=fun r hr d hd=>by
    rw [List.eq_of_mem_replicate hr] at hd
    exact (List.all_eq_true.mp hz) d hd
   obtain ⟨g1,g2,g3,g4⟩:=fillR_flat _ hl0 hc0 hrows
   rw [List.length_replicate] at g2
   have hmade:VRs j (List.replicate n (zeroD ie)).flatten (madeCells z.cells (n * ie.size)).toList:=by
    have:=made_VRs hzv n
    rwa [hzl] at this
   have hall:(List.replicate n (zeroD ie)).flatten.all D.isCell=true:=by
    rw [List.all_eq_true]
    intro d hd
    obtain ⟨r,hr,hd⟩:=List.mem_flatten.mp hd
    exact hc0 r hr d hd
   obtain ⟨vout,e1,e2,e3⟩:=sim_fill (j:=j) (fun i=>some (i * ie.size,ie.size)) (PRs.of hO ps.toList) hmade hall g1
   have hpl:(ps.map fun (i,x)=>(i,ρ x)).toList=ps.toList.map fun p=>(p.1,ρ p.2):=by simp
   have hns:¬ n * ie.size > 2 ^ 24:=by omega
   have hrun:(Instr.buildSlice t n (ps.map fun (i,x)=>(i,ρ x))).run P w = .ok (.slice (some ⟨w.heap.size,0,none⟩) n n) (w.alloc (.cells vout e)):=by
    by_cases hn0:n * ie.size=0
    ·have hm:madeCells z.cells (n * ie.size) = #[]:=by rw [hn0]; simp [madeCells,Array.range_zero']
     rw [hm] at e1
     simp only [Instr.buildSlice,Sem.run_bind,run_underlying hd,Result.andThen_ok,sizeOf,typeInfo,run_program,hie,Sem.run_pure,hns,if_false,hn0,if_true,hpl]
     simp [Array.range_zero',e1,newRow]
    ·unfold madeCells at e1
     simp only [Instr.buildSlice,Sem.run_bind,run_underlying hd,Result.andThen_ok,sizeOf,typeInfo,run_program,hie,Sem.run_pure,hns,if_false,hn0,hpl,zeroValue,hz0]
     simp [e1,newRow]
   refine ⟨_,_,hrun,?_⟩
   by_cases hn:n=0
   ·subst hn
    rw [if_pos rfl]
    exact ⟨⟨j,Grows.refl _ _ _,fun _=>.sl0 _,hH.grow (below_alloc0 _ _),New.refl _ _⟩,below_alloc0 _ _⟩
   ·have hj:=hj (by rw [if_neg hn]; simp)
    rw [if_neg hn]
    refine ⟨⟨upd j H.length ⟨w.heap.size,0,ie.size,n⟩,upd_grows _ hj (by simp),fun _=>?_,?_,upd_new (Nat.le_refl _)⟩,below_alloc0 _ _⟩
    ·refine .sl (Nat.le_refl _) (.inr ⟨_,upd_self _ _ _,by simp,?_⟩)
     simp [Pl.at]
    ·refine hH.add (below_alloc0 _ _) hj ?_ (Nat.le_refl _)
     refine BR.new (vs:=vout.toList) (cs:=vout) (el:=e) (fr:=(0,0)) g3 g4 (e2.mono (upd_ext _ hj)) (fun k v h=>by simpa using h) (heap_alloc_new _ _) (fun k _ h=>Nat.not_lt_zero _ h.2) ?_ hb (hH.fz_none (Nat.le_refl _))
     have:=e2.length
     rw [flat_length g3,g2] at this
     simp at this
     omega
  ·cases h
theorem sim_makeSlice (hE:EnvOk E P) (hH:HR j base H w) (hb:base≤w.heap.size) {r:D×Heap} (hj:H.length < r.2.length→j H.length=none) {t:TypeId} {l c:D} {vl vc:Value} (hl:l ≠ .undef→VR j l vl) (hc:c ≠ .undef→VR j c vc)
  (h:makeSlice E H t l c=some r):∃ v w',(Instr.makeSlice t vl vc).run P w = .ok v w'∧Step w.heap.size j base H w r.1 r.2 v w':=by
 replace h:=Option.bind_eq_some_iff.mp h
 obtain ⟨y,hy,h⟩:=h
 cases hsl:y.isSl with
 | false=>rw [hsl] at h; cases h
 | true=>
  rw [hsl] at h
  simp only [cond_true] at h
  obtain ⟨ti,td,hti,hd,hty⟩:=ty_kd hE hy
  obtain ⟨e,ie,rfl,hie,hes,heb,hez,-,hzl⟩:=tyD_slice hty hsl
  unfold mks at h
  split at h
  ·rename_i kl ln kc cn
   split at h
   ·rename_i hcond
    obtain ⟨h0,h1,h2,h3,hz⟩:=hcond
    cases h
    rw [hez] at hz
    obtain ⟨z,hz0,hzd,hzv⟩:=zeroD_some (j:=j) hz
    have hlv:=hl (by simp)
    have hcv:=hc (by simp)
    cases hlv; cases hcv
    rw [heb] at h2
    unfold maxLen at h2 h3
    have hrun:=run_make (P:=P) w t e ie z hd hie hz0 kl kc ln cn h0 h1 (by rw [Int.mul_comm]; omega) (by omega)
    have hzs:z.cells.size=ie.size:=by
     have:=hzv.length
     simp at this
     omega
    have hj:=hj (by simp)
    refine ⟨_,_,hrun,⟨upd j H.length ⟨w.heap.size,0,ie.size,cn.toNat⟩,upd_grows _ hj (by simp),fun _=>?_,?_,upd_new (Nat.le_refl _)⟩,below_alloc0 _ _⟩
    ·refine .sl (by omega) (.inr ⟨_,upd_self _ _ _,by simp,?_⟩)
     simp [Pl.at]
    ·refine hH.add (below_alloc0 _ _) hj ?_ (Nat.le_refl _)
     rw [hez]
     have hmade:VRs j (List.replicate ln.toNat (zeroD ie)).flatten (madeCells z.cells (ln.toNat * ie.size)).toList:=by
      have:=made_VRs hzv ln.toNat
      rwa [hzl] at this
     refine BR.new (vs:=(madeCells z.cells (ln.toNat * ie.size)).toList) (cs:=madeCells z.cells (cn.toNat * ie.size)) (el:=e) (fr:=(0,0)) ?_ ?_ (hmade.mono (upd_ext _ hj)) ?_ (heap_alloc_new _ _) (fun k _ h=>Nat.not_lt_zero _ h.2) ?_ hb (hH.fz_none (Nat.le_refl _))
     ·intro r hr; rw [List.eq_of_mem_replicate hr]; exact hzl
     ·intro r hr d hd; rw [List.eq_of_mem_replicate hr] at hd; exact (List.all_eq_true.mp hz) d hd
     ·intro k v hk
      have hle:ln.toNat * ie.size≤cn.toNat * ie.size:=Nat.mul_le_mul_right _ (by omega)
      have hklt:k < ln.toNat * ie.size:=by
       rcases Nat.lt_or_ge k (ln.toNat * ie.size) with h | h
       ·exact h
       ·simp [madeCells,Nat.not_lt.mpr h] at hk
      have hk2:k < cn.toNat * ie.size:=by omega
      rw [made_get _ hklt] at hk
      have:=made_get z.cells hk2
      rw [Array.getElem?_toList] at this
      rw [this]; exact hk
     ·rw [size_madeCells]; exact Nat.le_refl _
   ·cases h
  ·cases h
end Go.Ev
namespace Go.Ev
open Go.RowKit
set_option linter.unusedVariables false
set_option linter.unusedSimpArgs false
variable {E:Env} {P:Program} {j:Inj} {base:Nat} {H:Heap} {w:World}
theorem heap_setCell_same (w:World) (b o:Nat) (v:Value) {cs:Array Value} {el:TypeId} {fr:Nat×Nat} (h:w.heap[b]? = some (.cells cs el fr)) :
  ∃ cs',(w.setCell ⟨b,o,none⟩ v).heap[b]? = some (.cells cs' el fr)∧cs'.size=cs.size:=by
 refine ⟨cs.setIfInBounds o v,?_,by simp⟩
 simp only [World.setCell,Array.getElem?_modify,if_true,h]
 rfl
theorem heap_setCells_same (b:Nat):∀ (vs:List Value) (o:Nat) (w:World) {cs:Array Value} {el:TypeId} {fr:Nat×Nat},w.heap[b]? = some (.cells cs el fr) →
  ∃ cs',(w.setCells b o vs).heap[b]? = some (.cells cs' el fr)∧cs'.size=cs.size
 | [],o,w,cs,el,fr,h=>⟨cs,h,rfl⟩
 | v :: vs,o,w,cs,el,fr,h=>by
  obtain ⟨cs1,h1,h2⟩:=heap_setCell_same w b o v h
  obtain ⟨cs2,h3,h4⟩:=heap_setCells_same b vs (o + 1) _ h1
  exact ⟨cs2,h3,h4.trans h2⟩
theorem below_setCells {B b:Nat} (hb:B≤b):∀ (vs:List Value) (o:Nat) (w:World),Below B w (w.setCells b o vs)
 | [],o,w=>Below.refl _ _
 | v :: vs,o,w=>((Below.refl B w).setCell (p:=⟨b,o,none⟩) hb v).trans (below_setCells hb vs (o + 1) _)
theorem heap_setCells_far {b k:Nat} (hk:k ≠ b):∀ (vs:List Value) (o:Nat) (w:World),(w.setCells b o vs).heap[k]? = w.heap[k]?
 | [],o,w=>rfl
 | v :: vs,o,w=>(heap_setCells_far hk vs (o + 1) _).trans (Below.heap_setCell _ _ _ _ hk)
theorem size_setCells_ (b:Nat):∀ (vs:List Value) (o:Nat) (w:World),(w.setCells b o vs).heap.size=w.heap.size
 | [],o,w=>rfl
 | v :: vs,o,w=>(size_setCells_ b vs (o + 1) _).trans (by simp [World.setCell])
theorem BR.other {blk:Rows} {p:Pl} (h:BR j base w blk p) {rb o:Nat} (vs:List Value) (hne:p.rb ≠ rb):BR j base (w.setCells rb o vs) blk p where
 rows i row hr:=by
  refine ⟨(h.rows i row hr).1,fun f d hd=>?_⟩
  obtain ⟨hc,v,hv,hVR⟩:=(h.rows i row hr).2 f d hd
  refine ⟨hc,v,?_,hVR⟩
  rw [World.cell?_setCells_out]
  ·exact hv
  ·intro e1 e2
   exact absurd e1 hne
 lt:=by rw [size_setCells_]; exact h.lt
 own:=by
  obtain ⟨h1,cs,el,fr,h2,h3⟩:=h.own
  exact ⟨h1,cs,el,fr,by rw [heap_setCells_far hne]; exact h2,h3⟩
 nz:=h.nz
theorem HR.fz_set (h:HR j base H w) {rb o:Nat} (hz:j.fz rb=none) (vs:List Value):∀ b x,j.fz b=some x→(w.setCells rb o vs).heap[b]? = some x:=fun b x hb=>by
 rw [heap_setCells_far]
 ·exact h.fz b x hb
 ·rintro rfl; rw [hz] at hb; cases hb
theorem BR.seg0 {blk:Rows} {p:Pl} (h:BR j base w blk p):∀ (rs:List (List D)) (i:Nat),(∀ (k:Nat) row,rs[k]? = some row→blk[i + k]? = some row) →
  ∃ cs,VRs j rs.flatten cs∧(∀ (k:Nat) v,cs[k]? = some v→w.cell? ((p.at i 0).add k)=some v)∧rs.flatten.all D.isCell=true∧(∀ r ∈ rs,r.length=p.e)
 | [],i,_=>⟨[],.nil,fun k v h=>by simp at h,rfl,by simp⟩
 | r :: rs,i,hr=>by
  have h0:=hr 0 r rfl
  obtain ⟨cs1,a1,a2,a3⟩:=h.row h0 0 p.e
  have hl:=(h.rows i r h0).1
  rw [List.drop_zero,List.take_of_length_le (by omega)] at a1 a3
  obtain ⟨cs2,b1,b2,b3,b4⟩:=h.seg0 rs (i + 1) fun k row hk=>by
   have:=hr (k + 1) row (by simpa using hk)
   rwa [show i + (k + 1)=i + 1 + k by omega] at this
  have hl1:cs1.length=p.e:=by rw [← a1.length,hl]
  refine ⟨cs1++cs2,by rw [List.flatten_cons]; exact a1.append b1,fun k v hk=>?_,by rw [List.flatten_cons,List.all_append,a3,b3]; rfl,?_⟩
  ·rcases Nat.lt_or_ge k cs1.length with hlt | hge
   ·rw [List.getElem?_append_left hlt] at hk
    have:=a2 k v hk
    rw [Pl.at_add]; exact this
   ·rw [List.getElem?_append_right hge] at hk
    have:=b2 _ v hk
    rw [Pl.at_add] at this ⊢
    have e:p.at (i + 1) (0 + (k - cs1.length))=p.at i (0 + k):=by
     unfold Pl.at
     rw [Nat.add_mul]
     congr 1
     omega
    rwa [e] at this
  ·intro x hx
   rcases List.mem_cons.mp hx with rfl | hx
   ·exact hl
   ·exact b4 x hx
theorem BR.seg {blk:Rows} {p:Pl} (h:BR j base w blk p) (off len:Nat) :
  ∃ cs,VRs j ((blk.drop off).take len).flatten cs∧(∀ (k:Nat) v,cs[k]? = some v→w.cell? ((p.at off 0).add k)=some v)∧((blk.drop off).take len).flatten.all D.isCell=true∧(∀ r ∈ (blk.drop off).take len,r.length=p.e):=by
 refine h.seg0 _ off fun k row hk=>?_
 rw [List.getElem?_take] at hk
 split at hk
 ·simpa using hk
 ·cases hk
theorem RRs.flat {j:Inj}:∀ {rs vss},RRs j rs vss→VRs j rs.flatten vss.flatten
 | _,_,.nil=>.nil
 | _,_,.cons h hs=>by rw [List.flatten_cons,List.flatten_cons]; exact h.append hs.flat
theorem flat_at {α:Type} {e:Nat}:∀ {vss:List (List α)},(∀ vs ∈ vss,vs.length=e)→∀ {k:Nat} {u:α},vss.flatten[k]? = some u→∃ i f vs,vss[i]? = some vs∧vs[f]? = some u∧k=i * e + f
 | [],_,k,u,h=>by simp at h
 | vs :: vss,hl,k,u,h=>by
  have hv:=hl vs (by simp)
  rw [List.flatten_cons] at h
  rcases Nat.lt_or_ge k vs.length with hk | hk
  ·rw [List.getElem?_append_left hk] at h
   exact ⟨0,k,vs,rfl,h,by omega⟩
  ·rw [List.getElem?_append_right hk] at h
   obtain ⟨i,f,vs',g1,g2,g3⟩:=flat_at (vss:=vss) (fun v hv=>hl v (by simp [hv])) h
   exact ⟨i + 1,f,vs',by simpa using g1,g2,by rw [Nat.add_mul]; omega⟩
theorem sim_src (hH:HR j base H w) {x:D} {xs:List (List D)} (h:srcRows H x=some xs) {v:Value} (hx:VR j x v) {esz:Nat} (hf:rowsFit esz xs=true) :
  ∃ cs,VRs j xs.flatten cs∧xs.flatten.all D.isCell=true∧(∀ r ∈ xs,r.length=esz)∧cs.length=xs.length * esz ∧
   ∀ W:World,(∀ a,W.cell? a=w.cell? a)→(Builtin.lenOf v).run P W = .ok xs.length W∧(Builtin.firstCells esz xs.length v).run P W = .ok cs.toArray W:=by
 unfold srcRows at h
 split at h
 ·cases h
  cases hx with
  | sl0 a=>
   refine ⟨[],.nil,rfl,by simp,by simp,fun W _=>⟨by simp [Builtin.lenOf],?_⟩⟩
   cases a with
   | none=>simp [Builtin.firstCells]
   | some a=>simp [Builtin.firstCells,loadCells,loadCellsFrom]
 ·rename_i b off len
  replace h:=Option.bind_eq_some_iff.mp h
  obtain ⟨blk,hb,h⟩:=h
  split at h
  ·rename_i hle
   cases h
   cases hx with
   | sl h1 h2=>
    rename_i a cap
    have hlen:((blk.drop off).take len).length=len:=by simp; omega
    rcases h2 with rfl | ⟨p,hp,hC,rfl⟩
    ·have:len=0:=by omega
     subst this
     refine ⟨[],by simpa using VRs.nil,by simp,by simp,by simp,fun W _=>⟨by simp [Builtin.lenOf],?_⟩⟩
     cases a with
     | none=>simp [Builtin.firstCells]
     | some a=>simp [Builtin.firstCells,loadCells,loadCellsFrom]
    ·have hB:=hH.blk b blk p hb hp
     obtain ⟨cs,a1,a2,a3,a4⟩:=hB.seg off len
     have hcl:cs.length=len * p.e:=by rw [← a1.length,flat_length a4,hlen]
     by_cases h0:len=0
     ·subst h0
      have:cs=[]:=List.length_eq_zero_iff.mp (by rw [hcl]; simp)
      subst this
      exact ⟨[],by simpa using VRs.nil,by simp,by simp,by simp,fun W _=>⟨by simp [Builtin.lenOf],by simp [Builtin.firstCells,loadCells,loadCellsFrom]⟩⟩
     ·have he:p.e=esz:=by
       cases hq:(blk.drop off).take len with
       | nil=>rw [hq] at hlen; simp at hlen; omega
       | cons r rs=>
        rw [hq] at hf
        have:=a4 r (by rw [hq]; simp)
        simp only [rowsFit,beq_iff_eq] at hf
        omega
      rw [he] at a4 hcl
      refine ⟨cs,a1,a3,a4,by rw [hcl,hlen],fun W hW=>⟨by simp [Builtin.lenOf,hlen],?_⟩⟩
      rw [hlen]
      exact run_firstCells_some (P:=P) W esz len (p.at off 0) len cap cs hcl fun k u hk=>by rw [hW]; exact a2 k u hk
  ·cases h
 ·cases h
  cases hx with
  | @list _ vss a len cap hl h1 hr0 hm=>
   subst hl
   have hr:=hr0.rr
   have hc:=hr0.cells
   rcases hm with rfl | ⟨e,rb,ro,rfl,hfz⟩
   ·refine ⟨[],by simpa using VRs.nil,by simp,by simp,by simp,fun W _=>⟨by simp [Builtin.lenOf],?_⟩⟩
    cases a with
    | none=>simp [Builtin.firstCells]
    | some a=>simp [Builtin.firstCells,loadCells,loadCellsFrom]
   ·cases hrows:xs with
    | nil=>
     subst hrows
     exact ⟨[],by simpa using VRs.nil,by simp,by simp,by simp,fun W _=>⟨by simp [Builtin.lenOf],by simp [Builtin.firstCells,loadCells,loadCellsFrom]⟩⟩
    | cons r0 rest=>
     have hlr:∀ r ∈ xs,r.length=e:=fun r hrm=>by
      obtain ⟨i,hi⟩:=List.getElem?_of_mem hrm
      obtain ⟨vs,g1,g2⟩:=hr.get hi
      rw [g2.length]; exact hfz.len g1
     have he:e=esz:=by
      rw [hrows] at hf hlr
      have:=hlr r0 (by simp)
      simp only [rowsFit,beq_iff_eq] at hf
      omega
     subst he
     rw [← hrows]
     have hflat:=hr.flat
     have hcl:vss.flatten.length=xs.length * e:=by rw [← hflat.length,flat_length hlr]
     refine ⟨vss.flatten,hflat,?_,hlr,hcl,fun W hW=>⟨by simp [Builtin.lenOf],?_⟩⟩
     ·rw [List.all_eq_true]
      intro d hd
      obtain ⟨r,hrm,hd⟩:=List.mem_flatten.mp hd
      exact (List.all_eq_true.mp (hc r hrm)) d hd
     ·refine run_firstCells_some (P:=P) W e xs.length ⟨rb,ro,none⟩ xs.length cap vss.flatten hcl fun k u hk=>?_
      rw [hW,add_plain]
      obtain ⟨cs0,el,fr,hz,hcs⟩:=hfz
      refine cell_of (hH.fz rb _ hz) ?_
      obtain ⟨i,f,vs,g1,g2,g3⟩:=flat_at (fun vs hvs=>by
       obtain ⟨i,hi⟩:=List.getElem?_of_mem hvs
       exact (hcs i vs hi).1) hk
      subst g3
      have:=(hcs i vs g1).2 f u g2
      rwa [Nat.add_assoc] at this
 ·rename_i s
  cases h
  cases hx
  cases s with
  | nil=>
   refine ⟨[],by simpa using VRs.nil,by simp,by simp,by simp,fun W _=>⟨by simp [Builtin.lenOf,ByteArray.size],?_⟩⟩
   simp [Builtin.firstCells]
  | cons c s=>
   simp only [List.map_cons,rowsFit,List.length_singleton,beq_iff_eq] at hf
   subst hf
   have hfl:∀ l:List UInt8,(l.map fun c=>[D.int .u8 (c.toNat:Int)]).flatten=l.map fun c=>D.int .u8 (c.toNat:Int):=by
    intro l
    induction l with
    | nil=>rfl
    | cons a l ih=>simp [ih]
   have hv:∀ l:List UInt8,VRs j (l.map fun c=>D.int .u8 (c.toNat:Int)) (l.map fun c=>Value.int .u8 (c.toNat:Int)):=by
    intro l
    induction l with
    | nil=>exact .nil
    | cons a l ih=>exact .cons (.int _ _) ih
   have hn:((c :: s).map fun c=>[D.int .u8 (c.toNat:Int)]).length=(c :: s).length:=by simp
   refine ⟨(c :: s).map fun c=>Value.int .u8 (c.toNat:Int),?_,?_,?_,by simp,fun W _=>⟨?_,?_⟩⟩
   ·rw [hfl]; exact hv _
   ·rw [hfl]; simp [D.isCell]
   ·intro r hr
    obtain ⟨x,_,rfl⟩:=List.mem_map.mp hr
    rfl
   ·simp [Builtin.lenOf,ByteArray.size]
   ·rw [hn]
    simp only [Builtin.firstCells,Sem.run_pure]
    congr 1
    have:(⟨(c :: s).toArray⟩:ByteArray).extract 0 (c :: s).length=⟨(c :: s).toArray⟩:=by
     rw [ba_extract]; simp
    rw [this]
    simp
 ·cases h
end Go.Ev
namespace Go.Ev
open Go.RowKit
set_option linter.unusedVariables false
set_option linter.unusedSimpArgs false
variable {E:Env} {P:Program} {j:Inj} {base:Nat} {H:Heap} {w:World}
theorem own_cell {rb k:Nat} {cs:Array Value} {el:TypeId} {fr:Nat×Nat} (h:w.heap[rb]? = some (.cells cs el fr)) (hfr:∀ k,k < cs.size→¬ (fr.1≤k∧k < fr.2)) (hk:k < cs.size) :
  (w.cell? ⟨rb,k,none⟩).isSome=true∧w.frozen? ⟨rb,k,none⟩=false:=by
 obtain ⟨lo,hi⟩:=fr
 constructor
 ·simp [World.cell?,h,hk]
 ·have:=hfr k hk
  simp only [World.frozen?,h,Bool.and_eq_false_iff,decide_eq_false_iff_not]
  simp only at this
  omega
theorem cell_lt {rb k:Nat} {cs:Array Value} {el:TypeId} {fr:Nat×Nat} {v:Value} (h:w.heap[rb]? = some (.cells cs el fr)) (hc:w.cell? ⟨rb,k,none⟩=some v):k < cs.size:=by
 simp only [World.cell?,h] at hc
 rcases Nat.lt_or_ge k cs.size with h | h
 ·exact h
 ·simp [Array.getElem?_eq_none h] at hc
theorem VRs.ones {j:Inj}:∀ {ds:List D} {vs:List Value},VRs j ds vs→ds.all D.isCell=true→∀ v ∈ vs,v.oneCell'=true
 | _,_,.nil,_,v,hv=>by cases hv
 | _,_,.cons h hs,ha,v,hv=>by
  simp only [List.all_cons,Bool.and_eq_true] at ha
  rcases List.mem_cons.mp hv with rfl | hv
  ·exact h.one ha.1
  ·exact hs.ones ha.2 v hv
theorem get_lt {α:Type} {l:List α} {i:Nat} {a:α} (h:l[i]? = some a):i < l.length:=by
 rcases Nat.lt_or_ge i l.length with h' | h'
 ·exact h'
 ·rw [List.getElem?_eq_none h'] at h; cases h
theorem BR.stored {blk:Rows} {p:Pl} (h:BR j base w blk p) {i f:Nat} {row:List D} (hr:blk[i]? = some row) {ds:List D} {vs:List Value} (hv:VRs j ds vs) (hc:ds.all D.isCell=true) (hle:f + ds.length≤row.length) :
  BR j base (w.setCells p.rb (p.ro + i * p.e + f) vs) (blk.set i (row.take f++ds++row.drop (f + ds.length))) p where
 rows i' row' hr':=by
  have hl:=(h.rows i row hr).1
  have hvl:=hv.length
  rw [List.getElem?_set] at hr'
  split at hr'
  ·rename_i e; subst e
   split at hr'
   ·cases hr'
    refine ⟨by simp; omega,fun g d hd=>?_⟩
    rcases Nat.lt_or_ge g f with h1 | h1
    ·rw [List.append_assoc,List.getElem?_append_left (by simp; omega),List.getElem?_take,if_pos h1] at hd
     obtain ⟨a1,v,a2,a3⟩:=(h.rows i row hr).2 g d hd
     refine ⟨a1,v,?_,a3⟩
     rw [World.cell?_setCells_out]
     ·exact a2
     ·intro _ _; left; show p.ro + i * p.e + g < _; omega
    ·rcases Nat.lt_or_ge g (f + ds.length) with h2 | h2
     ·rw [List.append_assoc,List.getElem?_append_right (by simp; omega),List.getElem?_append_left (by simp; omega)] at hd
      rw [List.length_take,Nat.min_eq_left (by omega)] at hd
      obtain ⟨v,a1,a2⟩:=hv.get hd
      refine ⟨(List.all_eq_true.mp hc) d (List.mem_of_getElem? hd),v,?_,a2⟩
      have hgl:=get_lt a1
      have:=World.cell?_setCells_in p.rb vs (p.ro + i * p.e + f) w (fun k hk=>by
       have hk':f + k < row.length:=by omega
       obtain ⟨_,u,hu,_⟩:=(h.rows i row hr).2 (f + k) row[f + k] (List.getElem?_eq_getElem hk')
       have:p.at i (f + k)=⟨p.rb,p.ro + i * p.e + f + k,none⟩:=by unfold Pl.at; congr 1; omega
       rw [this] at hu; rw [hu]; rfl) (g - f) hgl
      have e:p.at i g=⟨p.rb,p.ro + i * p.e + f + (g - f),none⟩:=by unfold Pl.at; congr 1; omega
      rw [e,this]
      rw [List.getElem?_eq_getElem hgl] at a1
      exact a1
     ·rw [List.getElem?_append_right (by simp; omega)] at hd
      simp only [List.length_append,List.length_take,List.getElem?_drop] at hd
      rw [Nat.min_eq_left (by omega),show f + ds.length + (g - (f + ds.length))=g by omega] at hd
      obtain ⟨a1,v,a2,a3⟩:=(h.rows i row hr).2 g d hd
      refine ⟨a1,v,?_,a3⟩
      rw [World.cell?_setCells_out]
      ·exact a2
      ·intro _ _; right; show _≤p.ro + i * p.e + g; omega
   ·cases hr'
  ·rename_i hne
   refine ⟨(h.rows i' row' hr').1,fun g d hd=>?_⟩
   obtain ⟨a1,v,a2,a3⟩:=(h.rows i' row' hr').2 g d hd
   refine ⟨a1,v,?_,a3⟩
   have hg:=get_lt hd
   rw [(h.rows i' row' hr').1] at hg
   rw [World.cell?_setCells_out]
   ·exact a2
   ·intro _ _
    show p.ro + i' * p.e + g < _∨_≤p.ro + i' * p.e + g
    rcases Nat.lt_or_ge i' i with hlt | hge
    ·have:(i' + 1) * p.e≤i * p.e:=Nat.mul_le_mul_right _ hlt
     rw [Nat.add_mul] at this
     left; omega
    ·have:(i + 1) * p.e≤i' * p.e:=Nat.mul_le_mul_right _ (by omega)
     rw [Nat.add_mul] at this
     right; omega
 lt:=by rw [size_setCells_]; exact h.lt
 own:=by
  obtain ⟨h1,cs,el,fr,h2,h3,h4⟩:=h.own
  obtain ⟨cs',g1,g2⟩:=heap_setCells_same p.rb vs (p.ro + i * p.e + f) w h2
  exact ⟨h1,cs',el,fr,g1,by rw [g2]; exact h3,by rw [g2]; exact h4⟩
 nz:=h.nz
theorem sim_store (hE:EnvOk E P) (hH:HR j base H w) {t:TypeId} {x y:D} {H':Heap} (h:store E H t x y=some H') {vx vy:Value} (hx:VR j x vx) (hy:VR j y vy) :
  ∃ w',(Instr.storeAt t vx vy).run P w = .ok () w'∧HR j base H' w'∧Below base w w'∧H'.length=H.length:=by
 replace h:=Option.bind_eq_some_iff.mp h
 obtain ⟨q,hq,h⟩:=h
 obtain ⟨ti,td,hti,hd,hty⟩:=ty_kd hE hq
 have hsz:=(tyD_size hty).1
 unfold st at h
 split at h
 ·rename_i b i f
  replace h:=Option.bind_eq_some_iff.mp h
  obtain ⟨blk,hb,h⟩:=h
  split at h
  ·rename_i hc
   obtain ⟨hlen,hall⟩:=hc
   replace h:=Option.bind_eq_some_iff.mp h
   obtain ⟨row,hr,h⟩:=h
   replace h:=Option.map_eq_some_iff.mp h
   obtain ⟨r,hr2,rfl⟩:=h
   unfold storeRow at hr2
   split at hr2
   ·rename_i hle
    cases hr2
    cases hx with
    | ptr hp=>
     rename_i p
     have hB:=hH.blk b blk p hb hp
     obtain ⟨hcl,hcv⟩:=hy.cells
     obtain ⟨hbase,cs,el,fr,hheap,hfr,hC⟩:=hB.own
     have hall':=hcv.ones hall
     have there:∀ k,k < vy.cells.toList.length→∃ v,w.cell? ⟨p.rb,p.ro + i * p.e + f + k,none⟩=some v:=by
      intro k hk
      have hk':f + k < row.length:=by simp at hk; omega
      obtain ⟨_,u,hu,_⟩:=(hB.rows i row hr).2 (f + k) row[f + k] (List.getElem?_eq_getElem hk')
      have:p.at i (f + k)=⟨p.rb,p.ro + i * p.e + f + k,none⟩:=by unfold Pl.at; congr 1; omega
      rw [this] at hu; exact ⟨u,hu⟩
     have hrun:=run_storeCells_cells (P:=P) p.rb (p.ro + i * p.e + f) vy.cells.toList 0 w
      (fun k hk=>by obtain ⟨v,hv⟩:=there k hk; simp only [Nat.add_zero]; rw [hv]; rfl)
      (fun k hk=>by obtain ⟨v,hv⟩:=there k hk; simp only [Nat.add_zero]; exact (own_cell hheap hfr (cell_lt hheap hv)).2)
      hall'
     refine ⟨w.setCells p.rb (p.ro + i * p.e + f) vy.cells.toList,?_,⟨?_,?_,hH.fz_set hB.nz _⟩,below_setCells hbase _ _ _,by simp⟩
     ·have hne:¬ vy.cells.size ≠ ti.size:=by omega
      simp only [Nat.add_zero] at hrun
      simp only [Instr.storeAt,Instr.sureAddr,Sem.run_bind,Sem.run_pure,Result.andThen_ok,storeVar,sizeOf,typeInfo,run_program,hti,hne,if_false]
      exact hrun
     ·intro b' blk' p' h1 h2
      rcases getBlk_set h1 with ⟨eb,g1⟩ | ⟨hne,g1⟩
      ·cases g1
       rw [eb,hp] at h2; cases h2
       exact hB.stored hr hcv hall hle
      ·refine (hH.blk b' blk' p' g1 h2).other _ ?_
       exact fun e=>hH.sep b b' blk blk' p p' hb g1 hp h2 (fun e=>hne e.symm) e.symm
     ·intro b1 b2 k1 k2 p1 p2 h1 h2 e1 e2 hne hrb
      rcases getBlk_set h1 with ⟨eb1,g1⟩ | ⟨hne1,g1⟩ <;> rcases getBlk_set h2 with ⟨eb2,g2⟩ | ⟨hne2,g2⟩
      ·exact absurd (eb1.trans eb2.symm) hne
      ·cases g1
       exact hH.sep _ _ blk k2 p1 p2 hb g2 (eb1 ▸ e1) e2 (eb1 ▸ hne) hrb
      ·cases g2
       exact hH.sep _ _ k1 blk p1 p2 g1 hb e1 (eb2 ▸ e2) (eb2 ▸ hne) hrb
      ·exact hH.sep _ _ k1 k2 p1 p2 g1 g2 e1 e2 hne hrb
   ·cases hr2
  ·cases h
 ·cases h
theorem BR.cleared {blk:Rows} {p:Pl} (h:BR j base w blk p) (off:Nat) (vs:List Value):BR j base (w.setCells p.rb (p.ro + off * p.e) vs) (blk.take off) p where
 rows i row hr:=by
  rw [List.getElem?_take] at hr
  split at hr
  ·rename_i hi
   refine ⟨(h.rows i row hr).1,fun g d hd=>?_⟩
   obtain ⟨a1,v,a2,a3⟩:=(h.rows i row hr).2 g d hd
   refine ⟨a1,v,?_,a3⟩
   have hg:=get_lt hd
   rw [(h.rows i row hr).1] at hg
   rw [World.cell?_setCells_out]
   ·exact a2
   ·intro _ _
    left
    show p.ro + i * p.e + g < _
    have:(i + 1) * p.e≤off * p.e:=Nat.mul_le_mul_right _ hi
    rw [Nat.add_mul] at this
    omega
  ·cases hr
 lt:=by rw [size_setCells_]; exact h.lt
 own:=by
  obtain ⟨h1,cs,el,fr,h2,h3,h4⟩:=h.own
  obtain ⟨cs',g1,g2⟩:=heap_setCells_same p.rb vs (p.ro + off * p.e) w h2
  exact ⟨h1,cs',el,fr,g1,by rw [g2]; exact h3,by rw [g2]; exact h4⟩
 nz:=h.nz
theorem sim_clear (hE:EnvOk E P) (hH:HR j base H w) {t ty:TypeId} {x:D} {r:D×Heap} (h:clear_ E H t x=some r) {vx:Value} (hx:VR j x vx) :
  ∃ w',(Builtin.clear_ #[t] ty #[vx]).run P w = .ok (.tuple #[]) w'∧Step base j base H w r.1 r.2 (.tuple #[]) w':=by
 replace h:=Option.bind_eq_some_iff.mp h
 obtain ⟨y,hy,h⟩:=h
 have hT:VR j (.tup []) (.tuple #[]):=.tup (ds:=[]) (vs:=[]) rfl fun i d v h=>by simp at h
 have idle:Step base j base H w (.tup []) H (.tuple #[]) w:=⟨⟨j,Grows.refl _ _ _,fun _=>hT,hH,New.refl _ _⟩,Below.refl _ _⟩
 cases hsl:y.isSl with
 | false=>rw [hsl] at h; cases h
 | true=>
  rw [hsl] at h
  simp only [cond_true] at h
  obtain ⟨ti,td,hti,hd,hty⟩:=ty_kd hE hy
  obtain ⟨e,ie,rfl,hie,hes,heb,hez,-,hzl⟩:=tyD_slice hty hsl
  unfold clr at h
  split at h
  ·cases h
   cases hx with
   | sl0 a=>
    refine ⟨w,?_,idle⟩
    cases a <;> simp [Builtin.clear_,run_underlying hd]
  ·rename_i b off len
   cases hx with
   | sl h1 h2=>
    rename_i a cap
    split at h
    ·rename_i hl
     subst hl
     cases h
     refine ⟨w,?_,idle⟩
     cases a <;> simp [Builtin.clear_,run_underlying hd]
    ·rename_i hl
     obtain ⟨rows,hblk,h⟩:=Option.bind_eq_some_iff.mp h
     split at h
     ·rename_i hc
      obtain ⟨hlen,hfit,hz⟩:=hc
      cases h
      rcases h2 with h2 | ⟨p,hp,hC,rfl⟩
      ·omega
      ·have hB:=hH.blk b rows p hblk hp
       rw [hez] at hz
       obtain ⟨z,hz0,hzd,hzv⟩:=zeroD_some (j:=j) hz
       obtain ⟨hbase,cs,el,fr,hheap,hfr,hCC⟩:=hB.own
       have hoff:off < rows.length:=by omega
       have he:p.e=ie.size:=by
        rw [List.drop_eq_getElem_cons hoff] at hfit
        simp only [rowsFit,beq_iff_eq] at hfit
        rw [← hes,← hfit]
        exact ((hB.rows off _ (List.getElem?_eq_getElem hoff)).1).symm
       have hzs:z.cells.size=ie.size:=by
        have:=hzv.length
        simp at this
        omega
       have hzc:Builtin.zeroCells z.cells len=madeCells z.cells (len * ie.size):=by
        unfold Builtin.zeroCells madeCells; rw [hzs]
       have hmade:VRs j (List.replicate len (zeroD ie)).flatten (madeCells z.cells (len * ie.size)).toList:=by
        have:=made_VRs hzv len
        rwa [hzl] at this
       have hall:(List.replicate len (zeroD ie)).flatten.all D.isCell=true:=by
        rw [List.all_eq_true]
        intro d hd
        obtain ⟨r,hr,hd⟩:=List.mem_flatten.mp hd
        rw [List.eq_of_mem_replicate hr] at hd
        exact (List.all_eq_true.mp hz) d hd
       have hones:=hmade.ones hall
       have hlenc:(madeCells z.cells (len * ie.size)).toList.length=len * ie.size:=by simp [madeCells]
       have there:∀ k,k < (madeCells z.cells (len * ie.size)).toList.length→∃ v,w.cell? ⟨p.rb,p.ro + off * p.e + k,none⟩=some v:=by
        intro k hk
        rw [hlenc] at hk
        have hpos:0 < ie.size:=by
         rcases Nat.eq_zero_or_pos ie.size with h | h
         ·rw [h] at hk; omega
         ·exact h
        have hf:k % ie.size < ie.size:=Nat.mod_lt _ hpos
        have hi:k / ie.size < len:=Nat.div_lt_of_lt_mul (by rw [Nat.mul_comm]; exact hk)
        have hr:off + k / ie.size < rows.length:=by omega
        have hrow:=hB.rows (off + k / ie.size) _ (List.getElem?_eq_getElem hr)
        have hfr:k % ie.size < (rows[off + k / ie.size]).length:=by rw [hrow.1,he]; exact hf
        obtain ⟨_,u,hu,_⟩:=hrow.2 (k % ie.size) _ (List.getElem?_eq_getElem hfr)
        refine ⟨u,?_⟩
        have e2:p.at (off + k / ie.size) (k % ie.size)=⟨p.rb,p.ro + off * p.e + k,none⟩:=by
         unfold Pl.at
         congr 1
         rw [he,Nat.add_mul]
         have:=Nat.div_add_mod k ie.size
         rw [Nat.mul_comm] at this
         omega
        rw [e2] at hu; exact hu
       have hrun:=run_storeCells_cells (P:=P) p.rb (p.ro + off * p.e) (madeCells z.cells (len * ie.size)).toList 0 w
        (fun k hk=>by obtain ⟨v,hv⟩:=there k hk; simp only [Nat.add_zero]; rw [hv]; rfl)
        (fun k hk=>by obtain ⟨v,hv⟩:=there k hk; simp only [Nat.add_zero]; exact (own_cell hheap hfr (cell_lt hheap hv)).2)
        hones
       simp only [Nat.add_zero] at hrun
       refine ⟨w.setCells p.rb (p.ro + off * p.e) (madeCells z.cells (len * ie.size)).toList,?_,⟨⟨j,by rw [List.length_set]; exact Grows.refl _ _ _,fun _=>hT,⟨?_,?_,hH.fz_set hB.nz _⟩,New.refl _ _⟩,below_setCells hbase _ _ _⟩⟩
       ·obtain ⟨len,rfl⟩:∃ k,len=k + 1:=⟨len - 1,by omega⟩
        simp only [Builtin.clear_,Sem.run_bind,run_underlying hd,Result.andThen_ok,zeroValue,typeInfo,run_program,hie,Sem.run_pure,hz0,hzc,Pl.at,Nat.add_zero]
        simp [run_underlying hd,zeroValue,typeInfo,hie,hz0,hzc,hrun]
       ·intro b' blk' p' h1 h2
        rcases getBlk_set h1 with ⟨eb,g1⟩ | ⟨hne,g1⟩
        ·cases g1
         rw [eb,hp] at h2; cases h2
         exact hB.cleared off _
        ·refine (hH.blk b' blk' p' g1 h2).other _ ?_
         exact fun e=>hH.sep b b' rows blk' p p' hblk g1 hp h2 (fun e=>hne e.symm) e.symm
       ·intro b1 b2 k1 k2 p1 p2 h1 h2 e1 e2 hne hrb
        rcases getBlk_set h1 with ⟨eb1,g1⟩ | ⟨hne1,g1⟩ <;> rcases getBlk_set h2 with ⟨eb2,g2⟩ | ⟨hne2,g2⟩
        ·exact absurd (eb1.trans eb2.symm) hne
        ·cases g1
         exact hH.sep _ _ rows k2 p1 p2 hblk g2 (eb1 ▸ e1) e2 (eb1 ▸ hne) hrb
        ·cases g2
         exact hH.sep _ _ k1 rows p1 p2 g1 hblk e1 (eb2 ▸ e2) (eb2 ▸ hne) hrb
        ·exact hH.sep _ _ k1 k2 p1 p2 g1 g2 e1 e2 hne hrb
     ·cases h
  ·cases h
theorem HR.drop (hH:HR j base H w) (b:Nat):HR j base (H.set b none) w where
 blk b' blk' p' h1 h2:=by
  rcases getBlk_set h1 with ⟨eb,g1⟩ | ⟨hne,g1⟩
  ·cases g1
  ·exact hH.blk b' blk' p' g1 h2
 sep b1 b2 k1 k2 p1 p2 h1 h2 e1 e2 hne hrb:=by
  rcases getBlk_set h1 with ⟨eb1,g1⟩ | ⟨hne1,g1⟩
  ·cases g1
  ·rcases getBlk_set h2 with ⟨eb2,g2⟩ | ⟨hne2,g2⟩
   ·cases g2
   ·exact hH.sep _ _ k1 k2 p1 p2 g1 g2 e1 e2 hne hrb
 fz:=hH.fz
theorem HR.addAt (h:HR j base H w) {blk:Rows} {p:Pl} (hj:j H.length=none) (hB:BR (upd j H.length p) base w blk p)
  (hs:∀ b' blk' p',getBlk H b'=some blk'→j b'=some p'→p'.rb ≠ p.rb) :
  HR (upd j H.length p) base (H++[some blk]) w where
 blk b blk' q h1 h2:=by
  rcases getBlk_snoc h1 with ⟨rfl,rfl⟩ | ⟨hlt,h1⟩
  ·rw [upd_self] at h2; cases h2; exact hB
  ·rw [upd_ne j p (by omega)] at h2
   exact (h.blk b blk' q h1 h2).grow (upd_ext p hj) (h.blk b blk' q h1 h2).nz (Below.refl _ _)
 sep b b' blk1 blk2 p1 p2 h1 h2 e1 e2 hne hrb:=by
  rcases getBlk_snoc h1 with ⟨eb,ek⟩ | ⟨hlt,g1⟩ <;> rcases getBlk_snoc h2 with ⟨eb',ek'⟩ | ⟨hlt',g2⟩
  ·exact absurd (eb.trans eb'.symm) hne
  ·rw [eb,upd_self] at e1
   rw [upd_ne j p (by omega)] at e2
   cases e1
   exact hs b' blk2 p2 g2 e2 hrb.symm
  ·rw [eb',upd_self] at e2
   rw [upd_ne j p (by omega)] at e1
   cases e2
   exact hs b blk1 p1 g1 e1 hrb
  ·rw [upd_ne j p (by omega)] at e1 e2
   exact h.sep b b' blk1 blk2 p1 p2 g1 g2 e1 e2 hne hrb
 fz:=h.fz
end Go.Ev
namespace Go.Ev
open Go.RowKit
set_option linter.unusedVariables false
set_option linter.unusedSimpArgs false
variable {E:Env} {P:Program} {j:Inj} {base:Nat} {H:Heap} {w:World}
theorem not_int {d:TypeDesc} (h:∀ k,d ≠ .int k):(d matches .int _)=false:=by
 cases d <;> first | exact absurd rfl (h _) | rfl
theorem run_app_room (w:World) {t u ty e:TypeId} {i:TypeInfo} {d:TypeDesc} (ht:P.underlying t=some (.slice e)) (hu:P.underlying u=some d) (hd:∀ k,d ≠ .int k) (hi:P.info? e=some i)
  {a:Option Addr} {sLen sCap n:Nat} {v:Value} {cs:List Value} (hl:(Builtin.lenOf v).run P w = .ok n w) (hf:(Builtin.firstCells i.size n v).run P w = .ok cs.toArray w) (hr:sLen + n≤sCap) (w':World)
  (hs:∀ b,a=some b→(storeCells (b.add (sLen * i.size)) cs).run P w = .ok () w') (hs0:a=none→w'=w) :
  (Builtin.append_ #[t,u] ty #[.slice a sLen sCap,v]).run P w = .ok (.slice a (sLen + n) sCap) w':=by
 cases a with
 | none=>
  cases hs0 rfl
  simp [Builtin.append_,run_underlying ht,run_underlying hu,sizeOf,typeInfo,hi,hl,hr,hf,not_int hd]
 | some b=>
  have:=hs b rfl
  simp [Builtin.append_,run_underlying ht,run_underlying hu,sizeOf,typeInfo,hi,hl,hr,hf,this,not_int hd]
theorem run_app_grow (w:World) {t u ty e:TypeId} {i:TypeInfo} {z:Value} {d:TypeDesc} (ht:P.underlying t=some (.slice e)) (hu:P.underlying u=some d) (hd:∀ k,d ≠ .int k) (hi:P.info? e=some i) (hz:i.zero=some z)
  {a:Option Addr} {sLen sCap n:Nat} {v:Value} {cs os:List Value} (hl:(Builtin.lenOf v).run P w = .ok n w) (hf:(Builtin.firstCells i.size n v).run P w.drew = .ok cs.toArray w.drew)
  (ho:(Builtin.firstCells i.size sLen (.slice a sLen sCap)).run P w.drew = .ok os.toArray w.drew) (hr:¬ sLen + n≤sCap) (h63:((sLen + n:Nat):Int)≤9223372036854775807) (hfit:Builtin.nextslicecap (sLen + n) sCap * i.bytes≤281474976710656) :
  (Builtin.append_ #[t,u] ty #[.slice a sLen sCap,v]).run P w =
   .ok (.slice (some ⟨w.heap.size,0,none⟩) (sLen + n) (grownCap w (sLen + n) sCap e))
    (w.drew.alloc (.cells (os.toArray++cs.toArray++Builtin.zeroCells z.cells (grownCap w (sLen + n) sCap e - (sLen + n))) e)):=by
 have h63':¬ (9223372036854775807 < ((sLen:Int) + (n:Int))):=by omega
 have h48':¬ (281474976710656 < Builtin.nextslicecap (sLen + n) sCap * i.bytes):=by omega
 simp [Builtin.append_,run_underlying ht,run_underlying hu,sizeOf,typeInfo,zeroValue,hi,hz,hl,hr,h63',h48',Question.forced,hf,ho,newRow,grownCap,not_int hd]
 congr 2
 apply Array.ext'
 simp
theorem flatten_append_all {a b:List (List D)} {e:Nat} (h1:∀ r ∈ a,r.length=e) (h2:∀ r ∈ b,r.length=e):∀ r ∈ a++b,r.length=e:=fun r hr=>by
 rcases List.mem_append.mp hr with h | h
 ·exact h1 r h
 ·exact h2 r h
theorem all_rows {a:List (List D)} (h:a.flatten.all D.isCell=true):∀ r ∈ a,∀ d ∈ r,d.isCell=true:=fun r hr d hd=>
 (List.all_eq_true.mp h) d (List.mem_flatten.mpr ⟨r,hr,hd⟩)
theorem new_row (hH:HR j base H w) (hb:base≤w.heap.size) (hj:j H.length=none) {rows:List (List D)} {e need cap:Nat} {vs:List Value} {z:Array Value} {el:TypeId} (hl:∀ r ∈ rows,r.length=e) (hall:rows.flatten.all D.isCell=true)
  (hv:VRs j rows.flatten vs) (hneed:rows.length=need) (hcap:need≤cap) (hz:z.size=e) :
  Step base j base H w (.sl H.length 0 need) (H++[some rows]) (.slice (some ⟨w.heap.size,0,none⟩) need cap) (w.drew.alloc (.cells (vs.toArray++Builtin.zeroCells z (cap - need)) el)):=by
 refine ⟨⟨upd j H.length ⟨w.heap.size,0,e,cap⟩,upd_grows _ hj (by simp),fun _=>?_,?_,upd_new hb⟩,(below_drew_alloc _ _).mono hb⟩
 ·refine .sl hcap (.inr ⟨_,upd_self _ _ _,by simp,?_⟩)
  simp [Pl.at]
 ·refine hH.add (below_drew_alloc _ _) hj ?_ (Nat.le_refl _)
  have hsz:vs.length=need * e:=by rw [← hv.length,flat_length hl,hneed]
  refine BR.new (vs:=vs) (cs:=vs.toArray++Builtin.zeroCells z (cap - need)) (el:=el) (fr:=(0,0)) hl (all_rows hall) (hv.mono (upd_ext _ hj)) ?_ ?_ (fun k _ h=>Nat.not_lt_zero _ h.2) ?_ hb (hH.fz_none (Nat.le_refl _))
  ·intro k v hk
   rw [Array.getElem?_append_left (by simpa using get_lt hk)]
   simpa using hk
  ·exact heap_alloc_new w.drew _
  ·rw [Array.size_append,size_zeroCells,hz]
   simp only [List.size_toArray]
   rw [hsz,← Nat.add_mul]
   exact Nat.mul_le_mul_right _ (by omega)
theorem sim_append (hE:EnvOk E P) (hH:HR j base H w) (hb:base≤w.heap.size) (hj:j H.length=none) {t u ty:TypeId} {a x:D} {r:D×Heap} {va vx:Value} (ha:VR j a va) (hx:VR j x vx)
  {d:TypeDesc} (hu:P.underlying u=some d) (hd:∀ k,d ≠ .int k) (h:append E H t a x=some r) :
  ∃ v w',(Builtin.append_ #[t,u] ty #[va,vx]).run P w = .ok v w'∧Step base j base H w r.1 r.2 v w':=by
 replace h:=Option.bind_eq_some_iff.mp h
 obtain ⟨y,hy,h⟩:=h
 cases hsl:y.isSl with
 | false=>rw [hsl] at h; cases h
 | true=>
  rw [hsl] at h
  simp only [cond_true] at h
  obtain ⟨ti,td,hti,htd,hty⟩:=ty_kd hE hy
  obtain ⟨e,ie,rfl,hie,hes,heb,hez,-,hzl⟩:=tyD_slice hty hsl
  unfold app at h
  replace h:=Option.bind_eq_some_iff.mp h
  obtain ⟨xs,hxs,h⟩:=h
  rw [hes,heb] at h
  split at h
  ·rename_i hfit
   obtain ⟨cs,c1,c2,c3,c4,c5⟩:=sim_src (P:=P) hH hxs hx hfit
   obtain ⟨hlen,hfc⟩:=c5 w (fun _=>rfl)
   obtain ⟨_,hfd⟩:=c5 w.drew (fun _=>rfl)
   obtain ⟨z,hz,hzs⟩:=tyD_zero hty hie
   split at h
   ·cases ha with
    | sl0 a=>
     split at h
     ·rename_i hemp
      cases h
      have:xs=[]:=by simpa using hemp
      subst this
      have hc0:cs=[]:=List.length_eq_zero_iff.mp (by rw [c4]; simp)
      subst hc0
      have hrun:=run_app_room w (ty:=ty) htd hu hd hie (a:=a) (sLen:=0) (sCap:=0) hlen hfc (by simp) w (fun b _=>by simp [storeCells]) (fun _=>rfl)
      exact ⟨_,_,hrun,⟨j,Grows.refl _ _ _,fun _=>.sl0 _,hH,New.refl _ _⟩,Below.refl _ _⟩
     ·rename_i hemp
      split at h
      ·rename_i hmax
       cases h
       have hpos:0 < xs.length:=by
        cases xs with
        | nil=>simp at hemp
        | cons a l=>simp
       have hmax':xs.length≤maxLen∧xs.length * ie.bytes≤maxLen:=by
        rw [Nat.mul_add] at hmax; omega
       unfold maxLen at hmax'
       have hrun:=run_app_grow w (ty:=ty) htd hu hd hie hz (a:=a) (sLen:=0) (sCap:=0) (os:=[]) hlen hfd
        (by cases a <;> simp [Builtin.firstCells,loadCells,loadCellsFrom]) (by omega) (by omega) (growslice_fits (by omega) (by rw [Nat.zero_add]; omega))
       simp only [Nat.zero_add] at hrun
       refine ⟨_,_,hrun,?_⟩
       have:=new_row (el:=e) (cap:=grownCap w xs.length 0 e) hH hb hj c3 c2 c1 rfl (grownCap_ge _ _ _ _) hzs
       simpa using this
      ·cases h
   ·rename_i b off len
    replace h:=Option.bind_eq_some_iff.mp h
    obtain ⟨blk,hblk,h⟩:=h
    split at h
    ·rename_i hcond
     obtain ⟨h0,hle,hrf,hmax⟩:=hcond
     cases h
     cases ha with
     | sl h1 h2=>
      rename_i ad cap
      rcases h2 with rfl | ⟨p,hp,hC,rfl⟩
      ·omega
      ·have hB:=hH.blk b blk p hblk hp
       obtain ⟨os,o1,o2,o3,o4⟩:=hB.seg off len
       have hlen2:((blk.drop off).take len).length=len:=by simp; omega
       have he:p.e=ie.size:=by
        cases hq:(blk.drop off).take len with
        | nil=>rw [hq] at hlen2; simp at hlen2; omega
        | cons r rs=>
         rw [hq] at hrf
         have:=o4 r (by rw [hq]; simp)
         simp only [rowsFit,beq_iff_eq] at hrf
         omega
       obtain ⟨hbase,mem,el,fr,hheap,hfr,hCC⟩:=hB.own
       have hmax':len + xs.length≤maxLen∧(len + xs.length) * ie.bytes≤maxLen:=by
        rw [Nat.mul_add] at hmax; omega
       unfold maxLen at hmax'
       have hfz:HR j base (H.set b none) w:=hH.drop b
       have hrows:∀ r ∈ (blk.drop off).take len++xs,r.length=ie.size:=flatten_append_all (fun r hr=>he ▸ o4 r hr) c3
       have hall:((blk.drop off).take len++xs).flatten.all D.isCell=true:=by rw [List.flatten_append,List.all_append,o3,c2]; rfl
       have hvs:VRs j ((blk.drop off).take len++xs).flatten (os++cs):=by rw [List.flatten_append]; exact o1.append c1
       have hnl:((blk.drop off).take len++xs).length=len + xs.length:=by rw [List.length_append,hlen2]
       have hj':j (H.set b none).length=none:=by simpa using hj
       by_cases hroom:len + xs.length≤cap
       ·have hoff:p.ro + (off + len) * p.e + cs.length≤mem.size:=by
         rw [c4,← he,Nat.add_assoc,← Nat.add_mul]
         have:(off + len + xs.length) * p.e≤p.C * p.e:=Nat.mul_le_mul_right _ (by omega)
         omega
        have hst:=run_storeCells_cells (P:=P) p.rb (p.ro + (off + len) * p.e) cs 0 w
         (fun k hk=>by simp only [Nat.add_zero]; exact (own_cell hheap hfr (by omega)).1)
         (fun k hk=>by simp only [Nat.add_zero]; exact (own_cell hheap hfr (by omega)).2)
         (c1.ones c2)
        simp only [Nat.add_zero] at hst
        have hrun:=run_app_room w (ty:=ty) htd hu hd hie (a:=some (p.at off 0)) (sLen:=len) (sCap:=cap) hlen hfc hroom (w.setCells p.rb (p.ro + (off + len) * p.e) cs)
         (fun q hq=>by
          cases hq
          rw [← he,Pl.at_row]
          have:p.at (off + len) 0=⟨p.rb,p.ro + (off + len) * p.e,none⟩:=by unfold Pl.at; rfl
          rw [this]; exact hst) (fun q=>by cases q)
        refine ⟨_,_,hrun,?_⟩
        have hW:HR j base (H.set b none) (w.setCells p.rb (p.ro + (off + len) * p.e) cs):=by
         refine ⟨fun b' blk' p' g1 g2=>(hfz.blk b' blk' p' g1 g2).other _ ?_,hfz.sep,hH.fz_set hB.nz _⟩
         rcases getBlk_set g1 with ⟨eb,g1⟩ | ⟨hne,g1⟩
         ·cases g1
         ·exact fun e=>hH.sep b b' blk blk' p p' hblk g1 hp g2 (fun e=>hne e.symm) e.symm
        refine ⟨⟨upd j H.length ⟨p.rb,p.ro + off * p.e,p.e,p.C - off⟩,?_,fun _=>?_,?_,upd_new hbase⟩,below_setCells hbase _ _ _⟩
        ·exact upd_grows _ hj (by simp)
        ·refine .sl hroom (.inr ⟨_,upd_self _ _ _,by simp; omega,?_⟩)
         simp [Pl.at]
        ·have hln:(H.set b none).length=H.length:=by simp
         have:=hW.addAt (blk:=(blk.drop off).take len++xs) (p:=⟨p.rb,p.ro + off * p.e,p.e,p.C - off⟩) hj' ?_ ?_
         ·rw [hln] at this; exact this
         ·rw [hln]
          refine ⟨fun i row hr=>?_,by rw [size_setCells_]; exact hB.lt,?_,hB.nz⟩
          ·have hrl:=hrows row (List.mem_of_getElem? hr)
           refine ⟨hrl.trans he.symm,fun f dd hdd=>?_⟩
           have hcell:=all_rows hall row (List.mem_of_getElem? hr) dd (List.mem_of_getElem? hdd)
           refine ⟨hcell,?_⟩
           have hff:=get_lt hdd
           rw [hrl] at hff
           rcases Nat.lt_or_ge i len with hi | hi
           ·rw [List.getElem?_append_left (by omega),List.getElem?_take,if_pos hi,List.getElem?_drop] at hr
            obtain ⟨_,v,a2,a3⟩:=(hB.rows (off + i) row hr).2 f dd hdd
            refine ⟨v,?_,a3.mono (upd_ext _ hj)⟩
            have e1:(⟨p.rb,p.ro + off * p.e,p.e,p.C - off⟩:Pl).at i f=p.at (off + i) f:=by unfold Pl.at; simp only [Nat.add_mul]; congr 1; omega
            rw [e1,World.cell?_setCells_out]
            ·exact a2
            ·intro _ _; left
             show p.ro + (off + i) * p.e + f < _
             have:(off + i + 1) * p.e≤(off + len) * p.e:=Nat.mul_le_mul_right _ (by omega)
             rw [Nat.add_mul (off + i)] at this
             omega
           ·rw [List.getElem?_append_right (by omega),hlen2] at hr
            obtain ⟨v,a1,a2⟩:=c1.get (flat_get c3 hr hdd)
            refine ⟨v,?_,a2.mono (upd_ext _ hj)⟩
            have hk:=get_lt a1
            have:=World.cell?_setCells_in p.rb cs (p.ro + (off + len) * p.e) w (fun k hk=>(own_cell hheap hfr (by omega)).1) _ hk
            rw [List.getElem?_eq_getElem hk] at a1
            rw [← a1,← this]
            congr 1
            unfold Pl.at
            simp only [← he,Nat.sub_mul,Nat.add_mul]
            have:len * p.e≤i * p.e:=Nat.mul_le_mul_right _ hi
            congr 1
            omega
          ·obtain ⟨mem',g1,g2⟩:=heap_setCells_same p.rb cs (p.ro + (off + len) * p.e) w hheap
           refine ⟨hbase,mem',el,fr,g1,by rw [g2]; exact hfr,?_⟩
           rw [g2]
           show p.ro + off * p.e + (p.C - off) * p.e≤_
           rw [Nat.add_assoc,← Nat.add_mul,show off + (p.C - off)=p.C by omega]
           exact hCC
         ·intro b' blk' p' g1 g2 er
          rcases getBlk_set g1 with ⟨eb,g1⟩ | ⟨hne,g1⟩
          ·cases g1
          ·exact hH.sep b b' blk blk' p p' hblk g1 hp g2 (fun e=>hne e.symm) er.symm
       ·have hos:os.length=len * ie.size:=by rw [← o1.length,flat_length o4,hlen2,he]
        have hfo:=run_firstCells_some (P:=P) w.drew ie.size len (p.at off 0) len cap os hos o2
        have hrun:=run_app_grow w (ty:=ty) htd hu hd hie hz (a:=some (p.at off 0)) (sLen:=len) (sCap:=cap) hlen hfd hfo hroom (by omega) (growslice_fits (by omega) (by omega))
        have hcat:os.toArray++cs.toArray=(os++cs).toArray:=by simp
        rw [hcat] at hrun
        refine ⟨_,_,hrun,?_⟩
        have:=new_row (el:=e) (cap:=grownCap w (len + xs.length) cap e) hfz hb hj' hrows hall hvs hnl (grownCap_ge _ _ _ _) hzs
        have hln:(H.set b none).length=H.length:=by simp
        obtain ⟨⟨j',⟨q1,q1'⟩,q2,q3⟩,q4⟩:=this
        rw [hln] at q1' q2
        refine ⟨⟨j',⟨q1,fun b hb=>q1' b ?_⟩,q2,q3⟩,q4⟩
        simpa using hb
    ·cases h
   ·cases h
  ·cases h
end Go.Ev
