import Derived.Test.YtmpfooibdekppaaGreatDoorEvD
import Derived.Test.YtmpfooibdekppaaGreatDoorXb
import Derived.WideShapes
import Derived.ChangeArms
import Derived.ChangeOld
import Derived.SizedLaws
import Derived.OpenShut
import Derived.Carry
import Derived.ShutString
import Derived.Laws.Externs
import Derived.Lib.Bytealg
import Derived.KernelRfl
namespace Go.Ev
open Go.RowKit
set_option linter.unusedVariables false
set_option linter.unusedSimpArgs false
def shpCat (f:TypeId→Option (List Shp)) (P:Program):Nat→List Field→Option (List Shp)
 | _,[]=>some []
 | o,fl :: fs=>match f fl.type with
  | some r=>if fl.offset=o∧P.cellsOf fl.type=r.length then (shpCat f P (o + r.length) fs).map (r ++ ·) else none
  | none=>none
def shpOf (P:Program):Nat→TypeId→Option (List Shp)
 | 0,_=>none
 | n + 1,t=>match P.underlying t with
  | some (.int k)=>some [.int k]
  | some .bool=>some [.bool]
  | some .string=>some [.str]
  | some (.slice e)=>match shpOf P n e with
   | some r=>if 0 < r.length∧P.cellsOf e=r.length∧0 < P.bytesOf e then some [.list r] else none
   | none=>none
  | some (.struct fs)=>match shpCat (shpOf P n) P 0 fs.toList with
   | some r=>if P.cellsOf t=r.length then some r else none
   | none=>none
  | _=>none
mutual
inductive ShpOk:Shp→D→Prop
 | int {k n} (h:(Lit.int k n).wf=true):ShpOk (.int k) (.int k n)
 | bool (b):ShpOk .bool (.bool b)
 | str {s:List UInt8} (h:s.length≤reachBytes):ShpOk .str (.str s)
 | list {r rows} (h:rows.length≤reachBytes) (hr:RowsOk r rows):ShpOk (.list r) (.list rows)
inductive RowOk:List Shp→List D→Prop
 | nil:RowOk [] []
 | cons {s ss d ds} (h:ShpOk s d) (hs:RowOk ss ds):RowOk (s :: ss) (d :: ds)
inductive RowsOk:List Shp→List (List D)→Prop
 | nil {r}:RowsOk r []
 | cons {r d ds} (h:RowOk r d) (hs:RowsOk r ds):RowsOk r (d :: ds)
end
theorem RowOk.append:∀ {a b:List Shp} {x y:List D},RowOk a x→RowOk b y→RowOk (a++b) (x++y)
 | _,_,_,_,.nil,h=>h
 | _,_,_,_,.cons h hs,h'=>.cons h (hs.append h')
theorem RowOk.length:∀ {a:List Shp} {x:List D},RowOk a x→x.length=a.length
 | _,_,.nil=>rfl
 | _,_,.cons _ hs=>by simp [hs.length]
theorem RowsOk.map {α:Type} {r:List Shp} {f:α→List D} {q:α→Prop} (hf:∀ d,RowOk r d→∃ x,d=f x∧q x):∀ {rows:List (List D)},RowsOk r rows→∃ xs:List α,rows=xs.map f∧∀ x ∈ xs,q x
 | _,.nil=>⟨[],rfl,fun x h=>by cases h⟩
 | _,.cons h hs=>by
  obtain ⟨x,rfl,hx⟩:=hf _ h
  obtain ⟨xs,rfl,hxs⟩:=RowsOk.map hf hs
  exact ⟨x :: xs,rfl,fun y hy=>(List.mem_cons.mp hy).elim (fun e=>e ▸ hx) (hxs y)⟩
theorem FRs.append {fz:Frz}:∀ {ds vs es us},FRs fz ds vs→FRs fz es us→FRs fz (ds++es) (vs++us)
 | _,_,_,_,.nil,h=>h
 | _,_,_,_,.cons h hs,h'=>.cons h (hs.append h')
theorem FRs.length {fz:Frz}:∀ {ds vs},FRs fz ds vs→ds.length=vs.length
 | _,_,.nil=>rfl
 | _,_,.cons _ hs=>by simp [hs.length]
section
variable {H:Type} {enc:TypeId×Value→H} {P:Program} {W:World} {spare:Nat→Bool} {held:Bool}
theorem each_fields {n m:Nat} {f:TypeId→Option (List Shp)} {cs:List Value} (hf:∀ (t:TypeId) (shs:List Shp) (cs:List Value) (x:DataW H×List MemPlace),f t=some shs→DataW.trod enc P W 0 spare held n t cs=some x→(DataW.weights P t x.1).all (· ≤ reachBytes)=true→∃ ds,FRs (fun rb=>W.heap[rb]?) ds cs∧RowOk shs ds) :
  ∀ (fs:List Field) (o:Nat) (shs:List Shp) (xs:List (DataW H×List MemPlace)),shpCat f P o fs=some shs→xs.length=fs.length→(∀ (i:Nat) (fl:Field),fs[i]? = some fl→DataW.trod enc P W 0 spare held n fl.type ((cs.drop fl.offset).take (P.cellsOf fl.type))=xs[i]?) →
   (DataW.weightsEach P (fs.map (·.type)) (xs.map (·.1))).all (· ≤ reachBytes)=true→o + shs.length≤cs.length→∃ ds,FRs (fun rb=>W.heap[rb]?) ds ((cs.drop o).take shs.length)∧RowOk shs ds
 | [],o,shs,xs,h,hl,hx,hw,ho=>by
  cases h
  exact ⟨[],by simpa using FRs.nil,.nil⟩
 | fl :: fs,o,shs,xs,h,hl,hx,hw,ho=>by
  unfold shpCat at h
  split at h
  ·rename_i r hr
   split at h
   ·rename_i hc
    obtain ⟨hc1,hc2⟩:=hc
    obtain ⟨r',hr',rfl⟩:=Option.map_eq_some_iff.mp h
    cases xs with
    | nil=>simp at hl
    | cons x xs=>
     have h0:=hx 0 fl rfl
     simp only [List.map_cons,DataW.weightsEach,List.all_append,Bool.and_eq_true] at hw
     rw [List.getElem?_cons_zero,hc1,hc2] at h0
     obtain ⟨d1,a1,a2⟩:=hf fl.type r _ x hr h0 hw.1
     rw [List.length_append] at ho
     obtain ⟨d2,b1,b2⟩:=each_fields (m:=m) hf fs (o + r.length) r' xs hr' (by simpa using hl) (fun i fl' hi=>by simpa using hx (i + 1) fl' (by simpa using hi)) hw.2 (by omega)
     refine ⟨d1++d2,?_,a2.append b2⟩
     have:(cs.drop o).take (r++r').length=(cs.drop o).take r.length++(cs.drop (o + r.length)).take r'.length:=by
      rw [List.length_append,List.take_add,List.drop_drop]
     rw [this]
     exact a1.append b1
   ·cases h
  ·cases h
theorem all_weights {e:TypeId}:∀ {l:List (DataW H)},(DataW.weightsAll P e l).all (· ≤ reachBytes)=true→∀ d ∈ l,(DataW.weights P e d).all (· ≤ reachBytes)=true
 | [],_,d,hd=>by cases hd
 | x :: l,h,d,hd=>by
  simp only [DataW.weightsAll,List.all_append,Bool.and_eq_true] at h
  rcases List.mem_cons.mp hd with rfl | hd
  ·exact h.1
  ·exact all_weights h.2 d hd
theorem trod_fr:∀ (m:Nat) (t:TypeId) (shs:List Shp) (fuel:Nat) (cs:List Value) (x:DataW H×List MemPlace),shpOf P m t=some shs→DataW.trod enc P W 0 spare held fuel t cs=some x→(DataW.weights P t x.1).all (· ≤ reachBytes)=true →
  ∃ ds,FRs (fun rb=>W.heap[rb]?) ds cs∧RowOk shs ds
 | 0,t,shs,fuel,cs,x,h,_,_=>by cases h
 | m + 1,t,shs,fuel,cs,x,h,hx,hw=>by
  unfold shpOf at h
  split at h
  ·rename_i k hu
   cases h
   obtain ⟨n,rfl,rfl,hwf⟩:=DataW.trod_int hu hx
   exact ⟨[.int k n],.cons (.int _ _) .nil,.cons (.int hwf) .nil⟩
  ·rename_i hu
   cases h
   obtain ⟨b,rfl,rfl⟩:=DataW.trod_bool hu hx
   exact ⟨[.bool b],.cons (.bool _) .nil,.cons (.bool b) .nil⟩
  ·rename_i hu
   cases h
   obtain ⟨s,rfl,rfl,hs⟩:=DataW.trod_string hu hx
   obtain ⟨⟨l⟩⟩:=s
   exact ⟨[.str l],.cons (.str l) .nil,.cons (.str (by simpa [DataW.weights] using hw)) .nil⟩
  ·rename_i e hu
   split at h
   ·rename_i r hr
    split at h
    ·rename_i hc
     obtain ⟨hc0,hc1,hc2⟩:=hc
     cases h
     rcases DataW.trod_slice hu hx with ⟨rfl,rfl⟩ | ⟨a,len,cap,elems,rest,n,rfl,rfl,rfl,hb,hlc,hcm,hel,hget,-⟩
     ·exact ⟨[.list []],.cons (.list rfl (Nat.le_refl _) .nil (.inl rfl)) .nil,.cons (.list (by simp [reachBytes]) .nil) .nil⟩
     ·simp only [DataW.weights,hu,List.all_cons,List.all_append,Bool.and_eq_true,decide_eq_true_eq] at hw
      obtain ⟨hw1,hw2,-⟩:=hw
      have hlen:len≤reachBytes:=by
       simp only [List.length_map] at hw1
       have:elems.length≤(elems.length + rest.length) * P.bytesOf e:=by
        have:=Nat.le_mul_of_pos_right (elems.length + rest.length) hc2
        omega
       omega
      -- the elements,one by one
      have each:∀ i,i < len→∃ (vs:List Value) (ds:List D),(∀ (k:Nat) (v:Value),vs[k]? = some v→W.cell? ((a.add (i * P.cellsOf e)).add k)=some v)∧vs.length=r.length∧FRs (fun rb=>W.heap[rb]?) ds vs∧RowOk r ds:=by
       intro i hi
       have hi':i < elems.length:=by omega
       have h1:=hget i hi
       rw [List.getElem?_eq_getElem hi'] at h1
       obtain ⟨vs,h2,h3⟩:=Option.bind_eq_some_iff.mp h1
       obtain ⟨_,h4,h5⟩:=World.cells?_some h2
       obtain ⟨ds,h6,h7⟩:=trod_fr m e r n vs elems[i] hr h3 (all_weights hw2 _ (List.mem_map_of_mem (List.getElem_mem hi')))
       refine ⟨vs,ds,fun k v hk=>?_,by rw [h4,hc1],h6,h7⟩
       have hkl:k < vs.length:=get_lt hk
       rw [h5 k (by omega),hk]
      obtain ⟨vss,rows,e1,e2,e3,e4,e5⟩:∃ (vss:List (List Value)) (rows:List (List D)),rows.length=len∧FRRs (fun rb=>W.heap[rb]?) rows vss∧RowsOk r rows∧(∀ (i:Nat) (vs:List Value),vss[i]? = some vs→vs.length=r.length) ∧
        (∀ (i:Nat) (vs:List Value),vss[i]? = some vs→∀ (k:Nat) (v:Value),vs[k]? = some v→W.cell? ((a.add (i * P.cellsOf e)).add k)=some v):=by
       have build:∀ (k o:Nat),o + k=len→∃ (vss:List (List Value)) (rows:List (List D)),rows.length=k∧FRRs (fun rb=>W.heap[rb]?) rows vss∧RowsOk r rows∧(∀ (i:Nat) (vs:List Value),vss[i]? = some vs→vs.length=r.length) ∧
         (∀ (i:Nat) (vs:List Value),vss[i]? = some vs→∀ (k:Nat) (v:Value),vs[k]? = some v→W.cell? ((a.add ((o + i) * P.cellsOf e)).add k)=some v):=by
        intro k
        induction k with
        | zero=>exact fun o _=>⟨[],[],rfl,.nil,.nil,(fun i vs h=>by simp at h),(fun i vs h=>by simp at h)⟩
        | succ k ih=>
         intro o ho
         obtain ⟨vss,rows,b1,b2,b3,b4,b5⟩:=ih (o + 1) (by omega)
         obtain ⟨vs,ds,c1,c2,c3,c4⟩:=each o (by omega)
         refine ⟨vs :: vss,ds :: rows,by simp [b1],.cons c3 b2,.cons c4 b3,fun i vs' hi=>?_,fun i vs' hi=>?_⟩
         ·cases i with
          | zero=>simp at hi; subst hi; exact c2
          | succ i=>exact b4 i vs' (by simpa using hi)
         ·cases i with
          | zero=>simp at hi; subst hi; simpa using c1
          | succ i=>
           have:=b5 i vs' (by simpa using hi)
           rwa [show o + 1 + i=o + (i + 1) by omega] at this
       obtain ⟨vss,rows,h⟩:=build len 0 (by omega)
       exact ⟨vss,rows,by simpa using h⟩
      refine ⟨[.list rows],.cons (.list e1 hlc e2 ?_) .nil,.cons (.list (by rw [e1]; exact hlen) e3) .nil⟩
      by_cases hz:rows=[]
      ·exact .inl hz
      ·refine .inr ?_
       have hpos:0 < len:=by
        rw [← e1]; exact List.length_pos_iff.mpr hz
       -- the first cell tells that the address is plain
       have hv0:∃ vs0,vss[0]? = some vs0:=by
        obtain ⟨vs,h1,h2⟩:=e2.get (i:=0) (r:=rows[0]'(by omega)) (List.getElem?_eq_getElem (by omega))
        exact ⟨vs,h1⟩
       obtain ⟨vs0,hvs0⟩:=hv0
       have hl0:=e4 0 vs0 hvs0
       have hcell:=e5 0 vs0 hvs0 0 (vs0[0]'(by omega)) (List.getElem?_eq_getElem (by omega))
       obtain ⟨blk,off,spot⟩:=a
       simp only [Nat.zero_mul,Addr.add,if_true,eq_self_iff_true] at hcell
       unfold World.cell? at hcell
       split at hcell
       ·rename_i c el fr hheap
        split at hcell
        ·cases hcell
        ·rename_i hsp
         have hspot:spot=none:=by simpa using hsp
         subst hspot
         refine ⟨r.length,blk,off,rfl,c,el,fr,hheap,fun i vs hi=>⟨e4 i vs hi,fun k v hk=>?_⟩⟩
         have:=e5 i vs hi k v hk
         rw [add_plain,add_plain,hc1] at this
         simp only [World.cell?,hheap] at this
         simpa using this
       ·cases hcell
    ·cases h
   ·cases h
  ·rename_i fs hu
   split at h
   ·rename_i r hr
    split at h
    ·rename_i hc
     cases h
     obtain ⟨xs,n,rfl,rfl,hl,hxl,hget⟩:=DataW.trod_struct hu hx
     simp only [DataW.weights,hu] at hw
     obtain ⟨ds,h1,h2⟩:=each_fields (m:=m) (n:=n) (cs:=cs) (fun t shs cs x h1 h2 h3=>trod_fr m t shs n cs x h1 h2 h3) fs.toList 0 _ xs hr (by simpa using hxl) (fun i fl hi=>hget i fl (by simpa using hi)) hw (by omega)
     refine ⟨ds,?_,h2⟩
     rw [List.drop_zero,List.take_of_length_le (by omega)] at h1
     exact h1
    ·cases h
   ·cases h
  ·cases h
theorem arg_fr {r:Reach} {b0:Nat} {m:Nat} {t:TypeId} {shs:List Shp} {v:Value} {d:DataW H} {ps:List MemPlace} (hs:shpOf P m t=some shs) (hval:Value.okWide P W r b0 t v) (hd:DataW.Trod enc P W 0 spare held t v d ps) (hw:(DataW.weights P t d).all (· ≤ reachBytes)=true) :
  ∃ ds,RowOk shs ds∧((∃ fs,P.underlying t=some (.struct fs))→VR (frz fun rb=>W.heap[rb]?) (.agg ds) v)∧((¬ ∃ fs,P.underlying t=some (.struct fs))→∃ x,ds=[x]∧VR (frz fun rb=>W.heap[rb]?) x v):=by
 obtain ⟨fuel,hf⟩:=hd
 obtain ⟨ds,h1,h2⟩:=trod_fr m t shs fuel v.cells.toList (d,ps) hs hf hw
 refine ⟨ds,h2,fun ⟨fs,hu⟩=>?_,fun hn=>?_⟩
 ·obtain ⟨cs,rfl,-⟩:=WideShapes.okWide_struct hu hval
  have h3:=h1.vrs (j:=frz fun rb=>W.heap[rb]?)
  have:=VR.agg h1.cells h3
  simpa [Value.cells] using this
 ·have hone:v.cells = #[v]:=by
   unfold Value.okWide at hval
   cases m with
   | zero=>cases hs
   | succ m=>
    unfold shpOf at hs
    split at hs
    ·rename_i k hu
     obtain ⟨n,rfl⟩:=WideShapes.okWide_int hu (by unfold Value.okWide; exact hval)
     rfl
    ·rename_i hu
     obtain ⟨n,rfl⟩:=WideShapes.okWide_bool hu (by unfold Value.okWide; exact hval)
     rfl
    ·rename_i hu
     obtain ⟨n,rfl⟩:=WideShapes.okWide_string hu (by unfold Value.okWide; exact hval)
     rfl
    ·rename_i e hu
     obtain ⟨a,l,c,rfl⟩:=WideShapes.okWide_slice hu (by unfold Value.okWide; exact hval)
     rfl
    ·rename_i fs hu
     exact absurd ⟨fs,hu⟩ hn
    ·cases hs
  rw [hone] at h1
  cases h1 with
  | cons h hs=>
   cases hs
   exact ⟨_,rfl,h.frz⟩
end
end Go.Ev
namespace Go.Ev
open Go.RowKit
set_option linter.unusedVariables false
set_option linter.unusedSimpArgs false
theorem RowOk.inv {s:Shp} {ss:List Shp} {ds:List D} (h:RowOk (s :: ss) ds):∃ d ds',ds=d :: ds'∧ShpOk s d∧RowOk ss ds':=by
 cases h with
 | cons h hs=>exact ⟨_,_,rfl,h,hs⟩
theorem ShpOk.toInt {d:D} (h:ShpOk (.int .i64) d):∃ n,d = .int .i64 n∧i64 n:=by
 cases h with
 | @int _ n h=>
  refine ⟨n,rfl,?_⟩
  simp [Lit.wf,IntKind.min,IntKind.max,IntKind.signed,IntKind.bits] at h
  exact ⟨by omega,by omega⟩
theorem ShpOk.toStr {d:D} (h:ShpOk .str d):∃ s,d = .str s∧s.length≤140737488351232:=by
 cases h with
 | str h=>exact ⟨_,rfl,h⟩
theorem ShpOk.toList {r:List Shp} {d:D} (h:ShpOk (.list r) d):∃ rows,d = .list rows∧rows.length≤140737488351232∧RowsOk r rows:=by
 cases h with
 | list h hr=>exact ⟨_,rfl,h,hr⟩
theorem RowOk.one {s:Shp} {ds:List D} (h:RowOk [s] ds):∃ d,ds=[d]∧ShpOk s d:=by
 obtain ⟨d,ds',rfl,h1,h2⟩:=h.inv
 cases h2
 exact ⟨d,rfl,h1⟩
end Go.Ev
namespace Go.Ev
open Go.RowKit
set_option linter.unusedVariables false
set_option linter.unusedSimpArgs false
theorem tr_node {α:Type} {c:Bool} {a b:Option α} {v:α} {Q:Prop} (ha:a=some v→Q) (hb:b=some v→Q) (h:(bif c then a else b)=some v):Q:=by
 cases c
 ·exact hb h
 ·exact ha h
theorem tr_leaf {α:Type} {f k:Nat} {x v:α} {Q:Nat→α→Prop} (hp:Q k x) (h:(bif Nat.beq f k then some x else none)=some v):Q f v:=by
 cases e:Nat.beq f k with
 | true=>
  rw [e] at h
  cases h
  rw [Nat.eq_of_beq_eq_true e]; exact hp
 | false=>rw [e] at h; cases h
def codeChk (nt : Nat) (fn : Func) : Bool := Nat.beq fn.ntmps nt && !(fn.name == "runtime.NumGoroutine") && Nat.ble (fn.params.size + fn.nfree) fn.ntmps
theorem codeChk_spec {nt : Nat} {fn : Func} (h : codeChk nt fn = true) : fn.ntmps = nt ∧ (fn.name == "runtime.NumGoroutine") = false ∧ fn.params.size + fn.nfree ≤ fn.ntmps := by
 unfold codeChk at h
 simp only [Bool.and_eq_true,Bool.not_eq_true'] at h
 exact ⟨Nat.eq_of_beq_eq_true h.1.1,h.1.2,Nat.le_of_ble_eq_true h.2⟩
def ExtOne (P:Program) (g:FuncId) (e:List D→Option D):Prop:=
 ∀ ts t,e ts=some t→t.scalar=true∧∀ (vs:List Value) (fz:Frz) (w:World),VRs (frz fz) ts vs→∃ v,FR fz t v∧(callFunc g vs.toArray).run P w = .ok (.value v) w
theorem ext_ok {E:Env} {P:Program} (h:∀ g ts t,E.ext g ts=some t→ExtOne P g (E.ext g)):ExtOk E P:=by
 intro g ds H r rec hr j base w vs hA hH hF hb
 unfold callFn at hr
 obtain ⟨ts,h1,hr⟩:=Option.bind_eq_some_iff.mp hr
 obtain ⟨t,h2,hr⟩:=Option.bind_eq_some_iff.mp hr
 obtain ⟨hs,hv⟩:=h g ts t h2 ts t h2
 have hlay:layT depth t H=(t,H):=layT_scalar hs
 rw [hlay] at hr
 cases hr
 have hts:VRs (frz fun rb=>w.heap[rb]?) ts vs:=
  (read_list (fun d _ t v h2 h3=>read_ok hH (fun _=>hH.fz) depth d t v (fun _ _ _ _ _ _=>rfl) h2 h3) h1 (hA.full h1)).1
 obtain ⟨v,h3,h4⟩:=hv vs _ w hts
 have hst:Step w.heap.size j base H w t H v w:=⟨⟨j,Grows.refl _ _ _,fun _=>(VR.scalar h3.frz hs),hH,New.refl _ _⟩,Below.refl _ _⟩
 exact .inl ⟨v,w,h4,⟨(hst.mono hb).weak,Nat.le_refl _⟩,hst⟩
theorem ext_indexByteString {P : Program} {g : FuncId} {fn : Func} (hf : P.funcs[g]? = some fn) (hname : (fn.name == "runtime.NumGoroutine") = false) (hb : fn.body.isNone = true) (hn : Extern.findNext fn = none) (he : Extern.find fn = some Extern.BytealgIndexByte.indexByte) :
  ExtOne P g extIndexByteString:=by
 intro ts t h
 unfold extIndexByteString at h
 split at h
 ·rename_i s c
  cases h
  refine ⟨rfl,fun vs fz w hv=>?_⟩
  cases hv with
  | cons h1 h2=>
   cases h2 with
   | cons h2 h3=>
    cases h3
    cases h1; cases h2
    refine ⟨_,.int _ _,?_⟩
    rw [run_callFunc_extern hf hname hb hn he]
    have:=Go.Lib.run_indexByteString (P:=P) ⟨s.toArray⟩ c w
    simp only [Sem.run_bind,this,Result.andThen_ok,Sem.run_pure]
 ·cases h
theorem we_cons {H:Type} {P:Program} {t:TypeId} {ts:List TypeId} {d:DataW H} {ds:List (DataW H)} (h:(DataW.weightsEach P (t :: ts) (d :: ds)).all (· ≤ reachBytes)=true):(DataW.weights P t d).all (· ≤ reachBytes)=true∧(DataW.weightsEach P ts ds).all (· ≤ reachBytes)=true:=by
 simpa [DataW.weightsEach,List.all_append] using h
theorem law_calls {E:Env} {P:Program} (hE:EnvOk E P) (hx:ExtOk E P) {g:FuncId} {ts:List D} {W:World} {args:Array Value} {b:Bool} (h:run E (exec E) true g ts=some (.bool b)) (hA:VRs (frz fun rb=>W.heap[rb]?) ts args.toList) :
  Calls P g args W fun e W'=>e = .returned (.bool b)∧Below W.heap.size W W':=by
 obtain ⟨q,hq,h⟩:=Option.bind_eq_some_iff.mp h
 have h0:HR (frz fun rb=>W.heap[rb]?) W.heap.size [] W:=⟨(fun b rws p h=>by cases h),(fun b b' rws rws' p p' h=>by cases h),fun _ _ h=>h⟩
 obtain ⟨c1,c2⟩:=enter_ok hE (exec_ok hE hx) hq hA.ars h0 (fun _ _=>rfl) (Nat.le_refl _)
 simp only [Array.toArray_toList] at c2
 refine Calls.mono c2 ?_
 rintro e w' ⟨v,rfl,⟨⟨⟨j1,k1,k2,k3,k4⟩,k5⟩,k6⟩⟩
 refine ⟨?_,k5⟩
 have:=(read_ok k3 (fun _=>k3.fz) depth q.1 (.bool b) v (fun _ _ _ _ _ _=>rfl) h (k2 (readT_ne h))).1
 cases this
 rfl
end Go.Ev
