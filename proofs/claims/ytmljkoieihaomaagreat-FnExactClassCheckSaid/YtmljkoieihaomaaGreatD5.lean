import Derived.Test.YtmljkoieihaomaaGreatD4
namespace Go.Ev.YtmljkoieihaomaaGreat
set_option linter.unusedVariables false
set_option linter.unusedSimpArgs false
set_option linter.unusedSectionVars false
set_option linter.defProp false
set_option maxHeartbeats 1000000
open Go.Ev
theorem c233_2 (l:List SIns) (hl:l.length≤140737488351232) (a:Int) (H:Heap):∀ i,i≤l.length→fst_ (J E 233 2 [.list (l.map SIns.row),.int .i64 a,.int .i64 i] H)=some (.int .i64 (idxFrom (fun x:SIns=>decide (x.At=a)) i (l.drop i))):=by
 apply loop_up
 ·rw [j233_2]
  simp only [SIMP,nlt64,List.drop_length,idxFrom]
 ·intro i hi ih
  have hia:=fun H=>ia_nat (row:=SIns.row) SIns.len (H:=H) hi
  rw [j233_2,drop_cons hi,idxFrom]
  simp only [SIMP,SIns.simps,lt64 hi,hia,nat_succ64 hi hl,ih]
  cases decide ((l[i]).At=a) <;> rfl
theorem c233 (l:List SIns) (hl:l.length≤140737488351232) (a:Int):run E (exec E) false 233 [.list (l.map SIns.row),.int .i64 a]=some (.int .i64 (opIdx l a)):=by
 apply run_int
 rw [e233]
 have:=c233_2 l hl a [] 0 (by omega)
 simp only [List.drop_zero,Int.natCast_zero] at this
 rw [this]; rfl
theorem opIdx_ge (ops:List SIns) (a:Int):decide (0≤opIdx ops a)=opHas ops a:=by
 have h:=opIdx_has ops a
 rw [← Bool.not_not (opHas ops a),← h]
 by_cases g:0≤opIdx ops a
 ·simp [g,show ¬ opIdx ops a < 0 by omega]
 ·simp [g,show opIdx ops a < 0 by omega]
def prevAt (l:List SFrame):Nat→Int
 | 0=>-1
 | k + 1=>match l[k]? with
  | some f=>f.At
  | none=>-1
section
variable (c:SClass) (w:c.wf) (hF:0≤c.Flags∧c.Flags≤255)
include w
theorem c235_2 (l:List SKind) (hl:l.length≤140737488351232) (hw:∀ k ∈ l,k.wf) (hk:∀ k ∈ l,kindR k) (H:Heap):∀ i,i≤l.length→fst_ (J E 235 2 [.list (l.map SKind.row),.ptr 0 0 0,.int .i64 i] (some [c.row] :: H))=some (.bool ((l.drop i).all (kindM c))):=by
 have hc:=c167 c.Pool w.1
 apply loop_up
 ·rw [j235_2]
  simp only [SIMP,nlt64,List.drop_length]
 ·intro i hi ih
  have hia:=fun H=>ia_nat (row:=SKind.row) SKind.len (H:=H) hi
  have wx:=hw _ (List.getElem_mem hi)
  obtain ⟨t0,t3⟩:=hk _ (List.getElem_mem hi)
  have hin:inR (l[i]).Tag 0 3=true:=by simp [inR,t0,t3]
  rw [j235_2,drop_cons hi,List.all_cons,kindM]
  simp only [SIMP,lt64 hi]
  rw [j235_4]
  by_cases h3:(l[i]).Tag=3
  ·simp only [SIMP,SKind.simps,SClass.simps,hia,c63,hin,h3,hc _ wx.2,classM_nil,nat_succ64 hi hl,ih]
   cases classAtM c.Pool (l[i]).Class <;> rfl
  ·simp only [SIMP,SKind.simps,SClass.simps,hia,c63,hin,h3,nat_succ64 hi hl,ih]
   cases decide ((l[i]).Class=0) <;> rfl
theorem c235 (l:List SKind) (hl:l.length≤140737488351232) (hw:∀ k ∈ l,k.wf) (hk:∀ k ∈ l,kindR k):run E (exec E) false 235 [c.d,.list (l.map SKind.row)]=some (.bool (l.all (kindM c))):=by
 apply run_bool
 rw [e235]
 have:=c235_2 c w l hl hw hk [] 0 (by omega)
 simp only [List.drop_zero,Int.natCast_zero] at this
 simp only [SIMP,SClass.simps,this]
variable (m:SMethod) (wm:m.wf) (hm:0≤m.Flags∧m.Flags≤255) (ops:List SIns) (ho:ops.length≤140737488351232)
include wm ho
theorem c175 (x:SIns) (wx:i64 x.Num):run E (exec E) false 175 [c.d,m.d,.list (ops.map SIns.row),x.d]=some (.bool (insM c m ops x)):=by
 have hw:inR x.Op 3 6=true→inR x.Op 14 18=false∧wantsM x.Op=0:=by
  intro h
  simp only [inR,Bool.and_eq_true,decide_eq_true_eq] at h
  constructor
  ·simp [inR]; omega
  ·unfold wantsM inR
   rw [if_neg (by omega),if_neg (by simp; omega),if_neg (by simp; omega),if_neg (by omega)]
 have hj:inR x.Op 14 18=true→wantsM x.Op=0:=by
  intro h
  simp only [inR,Bool.and_eq_true,decide_eq_true_eq] at h
  unfold wantsM inR
  rw [if_neg (by omega),if_neg (by simp; omega),if_neg (by simp; omega),if_neg (by omega)]
 have hlt:decide (x.Num < m.Locals) = !decide (m.Locals≤x.Num):=by
  by_cases g:x.Num < m.Locals
  ·simp [g,show ¬ m.Locals≤x.Num by omega]
  ·simp [g,show m.Locals≤x.Num by omega]
 apply run_bool
 rw [e175]
 unfold insM
 simp only [SIMP,SClass.simps,SMethod.simps,SIns.simps,c63,c234,c233 ops ho,c227 c.Pool w.1 _ wx,opIdx_ge,hlt]
 cases h1:inR x.Op 3 6 with
 | true=>
  obtain ⟨h2,h3⟩:=hw h1
  simp only [SIMP,h2,h3]
  cases decide (m.Locals≤x.Num) <;> rfl
 | false=>
  cases h2:inR x.Op 14 18 with
  | true=>
   simp only [SIMP,hj h2]
   cases opHas ops x.Num <;> rfl
  | false=>
   simp only [SIMP]
   cases decide (wantsM x.Op=0) <;> cases decide ((cAt c.Pool x.Num).Kind=wantsM x.Op) <;> rfl
theorem c176 (t:STrap) (wt:t.wf):run E (exec E) false 176 [c.d,m.d,.list (ops.map SIns.row),t.d]=some (.bool (trapM c m ops t)):=by
 have hc:=c167 c.Pool w.1
 apply run_bool
 rw [e176]
 unfold trapM
 simp only [SIMP,SClass.simps,SMethod.simps,STrap.simps]
 rw [j176_1]
 simp only [SIMP,SClass.simps,SMethod.simps,STrap.simps,c233 ops ho,hc _ wt.2.2.2,opIdx_has,classM_nil]
 by_cases h1:t.From < t.To
 ·simp only [h1,show ¬ t.To≤t.From by omega,SIMP]
  cases opHas ops t.From <;> cases opHas ops t.At <;> cases opHas ops t.To <;> cases decide (t.To=(m.Code.length:Int)) <;> cases decide (t.Class=0) <;> cases classAtM c.Pool t.Class <;> rfl
 ·simp only [h1,show t.To≤t.From by omega,SIMP]
theorem c177_2 (hk:∀ f ∈ m.Frames,(∀ k ∈ f.Locals,kindR k)∧∀ k ∈ f.Stack,kindR k) (h0:∀ x ∈ ops,0≤x.At):∀ i,i≤m.Frames.length→∀ H,fst_ (J E 177 2 [.list (ops.map SIns.row),.ptr 0 0 0,.ptr 1 0 0,.int .i64 i] (some [c.row] :: some [m.row] :: H))=some (.bool (framesGo c m ops (prevAt m.Frames i) (m.Frames.drop i))):=by
 have wm0:=wm
 obtain ⟨-,-,-,-,-,-,-,w1,w2⟩:=wm
 apply loop_up
 ·intro H
  rw [j177_2]
  simp only [SIMP,SMethod.simps,nlt64,List.drop_length,framesGo]
 ·intro i hi ih H
  have hia:=fun H=>ia_nat (row:=SFrame.row) SFrame.len (H:=H) hi
  have wx:=w2 _ (List.getElem_mem hi)
  have kx:=hk _ (List.getElem_mem hi)
  rw [j177_2,drop_cons hi,framesGo]
  simp only [SIMP,SMethod.simps,SFrame.simps,lt64 hi,hia]
  rw [j177_5]
  have hp:prevAt m.Frames (i + 1)=(m.Frames[i]).At:=by simp [prevAt,List.getElem?_eq_getElem hi]
  rw [hp] at ih
  have hle:decide ((m.Frames[i]).Stack.length≤m.Deep) = !decide (m.Deep < ((m.Frames[i]).Stack.length:Int)):=by
   by_cases g:m.Deep < ((m.Frames[i]).Stack.length:Int)
   ·simp [g,show ¬ ((m.Frames[i]).Stack.length:Int)≤m.Deep by omega]
   ·simp [g,show ((m.Frames[i]).Stack.length:Int)≤m.Deep by omega]
  have fin:∀ b:Bool,(bif !opHas ops (m.Frames[i]).At then some (D.bool false) else bif b then some (D.bool false) else bif !decide (((m.Frames[i]).Locals.length:Int)=m.Locals) then some (D.bool false) else bif decide (m.Deep < ((m.Frames[i]).Stack.length:Int)) then some (D.bool false) else bif !(m.Frames[i]).Locals.all (kindM c) then some (D.bool false) else bif !(m.Frames[i]).Stack.all (kindM c) then some (D.bool false) else some (D.bool (framesGo c m ops (m.Frames[i]).At (List.drop (i + 1) m.Frames))))=some (D.bool (opHas ops (m.Frames[i]).At && (!b && (decide (((m.Frames[i]).Locals.length:Int)=m.Locals) && (decide (((m.Frames[i]).Stack.length:Int)≤m.Deep) && ((m.Frames[i]).Locals.all (kindM c) && ((m.Frames[i]).Stack.all (kindM c) && framesGo c m ops (m.Frames[i]).At (List.drop (i + 1) m.Frames)))))))):=by
   intro b
   rw [hle]
   cases opHas ops (m.Frames[i]).At <;> cases b <;> cases decide (((m.Frames[i]).Locals.length:Int)=m.Locals) <;> cases decide (m.Deep < ((m.Frames[i]).Stack.length:Int)) <;> cases (m.Frames[i]).Locals.all (kindM c) <;> cases (m.Frames[i]).Stack.all (kindM c) <;> rfl
  cases i with
  | zero=>
   rw [show prevAt m.Frames 0 = -1 from rfl]
   have hb:opHas ops (m.Frames[0]).At=true→decide ((-1:Int) < (m.Frames[0]).At)=true:=by
    intro h
    simp only [opHas,List.any_eq_true,decide_eq_true_eq] at h
    obtain ⟨x,hx,e⟩:=h
    have:=h0 x hx
    simp; omega
   simp only [SIMP,SClass.simps,SMethod.simps,SFrame.simps,c233 ops ho,opIdx_has,show decide ((0:Int) < ((0:Nat):Int))=false from rfl,c235 c w _ wx.2.1.1 wx.2.1.2 kx.1,c235 c w _ wx.2.2.1 wx.2.2.2 kx.2,nat_succ64 hi w1,ih]
   have f0:=fin false
   simp only [cond_false] at f0
   rw [f0]
   cases ha:opHas ops (m.Frames[0]).At with
   | false=>simp only [Bool.false_and]
   | true=>simp only [hb ha,Bool.not_false]
  | succ k=>
   have hk':k < m.Frames.length:=by omega
   have hka:=fun H=>ia_nat (row:=SFrame.row) SFrame.len (H:=H) hk'
   have hsub:IntKind.wrap .i64 (((k + 1:Nat):Int) - 1)=((k:Nat):Int):=by rw [wrap_i64 (by omega) (by omega)]; omega
   have hpk:prevAt m.Frames (k + 1)=(m.Frames[k]).At:=by simp [prevAt,List.getElem?_eq_getElem hk']
   have hlt:decide ((m.Frames[k]).At < (m.Frames[k + 1]).At) = !decide ((m.Frames[k + 1]).At≤(m.Frames[k]).At):=by
    by_cases g:(m.Frames[k]).At < (m.Frames[k + 1]).At
    ·simp [g,show ¬ (m.Frames[k + 1]).At≤(m.Frames[k]).At by omega]
    ·simp [g,show (m.Frames[k + 1]).At≤(m.Frames[k]).At by omega]
   simp only [SIMP,SClass.simps,SMethod.simps,SFrame.simps,c233 ops ho,opIdx_has,show decide ((0:Int) < ((k + 1:Nat):Int))=true from by simp <;> omega,hsub,hka,c235 c w _ wx.2.1.1 wx.2.1.2 kx.1,c235 c w _ wx.2.2.1 wx.2.2.2 kx.2,nat_succ64 hi w1,ih,hpk,hlt]
   exact fin _
theorem c177 (hk:∀ f ∈ m.Frames,(∀ k ∈ f.Locals,kindR k)∧∀ k ∈ f.Stack,kindR k) (h0:∀ x ∈ ops,0≤x.At):run E (exec E) false 177 [c.d,m.d,.list (ops.map SIns.row)]=some (.bool (framesGo c m ops (-1) m.Frames)):=by
 apply run_bool
 rw [e177]
 have:=c177_2 c w m wm ops ho hk h0 0 (by omega) []
 simp only [List.drop_zero,Int.natCast_zero] at this
 simp only [SIMP,SClass.simps,SMethod.simps,this,prevAt]
end
end Go.Ev.YtmljkoieihaomaaGreat
namespace Go.Ev.YtmljkoieihaomaaGreat
set_option linter.unusedVariables false
set_option linter.unusedSimpArgs false
set_option linter.unusedSectionVars false
set_option linter.defProp false
set_option maxHeartbeats 1000000
open Go.Ev
theorem opsGo_at:∀ {s:List UInt8} {l:List SIns} {a:Nat},opsGo a s=some l→∀ x ∈ l,(a:Int)≤x.At∧x.At < (a + s.length:Nat)
 | [],l,a,h=>by rw [opsGo] at h; cases h; simp
 | b :: rest,l,a,h=>by
  rw [opsGo] at h
  split at h
  ·cases h
  ·rename_i hc
   obtain ⟨l',h',rfl⟩:=Option.map_eq_some_iff.mp h
   have ih:=opsGo_at h'
   intro x hx
   rcases List.mem_cons.mp hx with rfl | hx
   ·simp only [List.length_cons]; omega
   ·have:=ih x hx
    simp only [List.length_cons,List.length_drop] at this ⊢
    omega
 termination_by s=>s.length
 decreasing_by simp; omega
theorem opsGo_at0 {s:List UInt8} {ops:List SIns} (h:opsGet s=some ops):∀ x ∈ ops,0≤x.At:=by
 unfold opsGet at h
 split at h
 ·exact fun x hx=>by have:=opsGo_at h x hx; omega
 ·cases h
theorem l3Get_ops (s:List UInt8) (hs:s.length≤120):opsRes (opsGo 0 s)=match opsGet s with
  | some ops=>.tup [.list (ops.map SIns.row),.bool true]
  | none=>.tup [(match opsGo 0 s with | some l=>.list (l.map SIns.row) | none=>.list []),.bool false]:=by
 unfold opsGet
 by_cases h:s=[]
 ·subst h
  rw [opsGo]; rfl
 ·have hp:1≤s.length:=List.length_pos_iff.mpr h
  rw [if_pos ⟨hp,hs⟩]
  cases hg:opsGo 0 s with
  | none=>rfl
  | some l=>
   have:=opsGo_pos hg h
   simp [opsRes,this]
section
variable (c:SClass) (w:c.wf) (hF:0≤c.Flags∧c.Flags≤255)
include w
variable (m:SMethod) (wm:m.wf) (hm:0≤m.Flags∧m.Flags≤255)
include wm hm
theorem c174:run E (exec E) false 174 [c.d,m.d]=some (.int .i64 (needM c m)):=by
 have hl:=dTakes_len (textM c.Pool m.Desc)
 have hd:run E (exec E) true 230 [.str (textM c.Pool m.Desc)]=some (.tup [.list ((dTakes (textM c.Pool m.Desc)).map rStr),.str (dBack (textM c.Pool m.Desc)),.bool (dOk (textM c.Pool m.Desc))]):=by
  rw [← descRes_eq]; exact c230 _ (textM_len w.1 _) true
 apply run_int
 rw [e174]
 simp only [SIMP,SClass.simps,SMethod.simps,tx c w _ wm.2.2.1,hd,has1 _ hm,needM]
 cases bit m.Flags 0 with
 | true=>simp
 | false=>
  simp only [SIMP]
  rw [wrap_i64 (by omega) (by omega)]
  simp
theorem c106_12 (hk:∀ f ∈ m.Frames,(∀ k ∈ f.Locals,kindR k)∧∀ k ∈ f.Stack,kindR k) (ops:List SIns) (ho:ops.length≤140737488351232) (h0:∀ x ∈ ops,0≤x.At) (H:Heap):∀ i,i≤m.Traps.length→fst_ (J E 106 12 [.ptr 0 0 0,.ptr 1 0 0,.list (ops.map SIns.row),.int .i64 i] (some [c.row] :: some [m.row] :: H))=some (.bool ((m.Traps.drop i).all (trapM c m ops) && framesGo c m ops (-1) m.Frames)):=by
 have wm0:=wm
 obtain ⟨-,-,-,-,-,-,⟨w1,w2⟩,-,-⟩:=wm
 apply loop_up
 ·rw [j106_12]
  simp only [SIMP,SClass.simps,SMethod.simps,nlt64,List.drop_length,c177 c w m wm0 ops ho hk h0]
 ·intro i hi ih
  have hia:=fun H=>ia_nat (row:=STrap.row) STrap.len (H:=H) hi
  have wx:=w2 _ (List.getElem_mem hi)
  rw [j106_12,drop_cons hi]
  simp only [SIMP,SClass.simps,SMethod.simps,STrap.simps,SIns.simps,lt64 hi,hia,c176 c w m wm0 ops ho _ wx,nat_succ64 hi w1,ih]
  cases trapM c m ops m.Traps[i] <;> rfl
theorem c106_7 (hk:∀ f ∈ m.Frames,(∀ k ∈ f.Locals,kindR k)∧∀ k ∈ f.Stack,kindR k) (ops:List SIns) (ho:ops.length≤140737488351232) (h0:∀ x ∈ ops,0≤x.At) (hn:∀ x ∈ ops,i64 x.Num) (H:Heap):∀ i,i≤ops.length→fst_ (J E 106 7 [.ptr 0 0 0,.ptr 1 0 0,.list (ops.map SIns.row),.int .i64 i] (some [c.row] :: some [m.row] :: H))=some (.bool ((ops.drop i).all (insM c m ops) && (m.Traps.all (trapM c m ops) && framesGo c m ops (-1) m.Frames))):=by
 apply loop_up
 ·rw [j106_7]
  have:=c106_12 c w m wm hm hk ops ho h0 H 0 (by omega)
  simp only [List.drop_zero,Int.natCast_zero] at this
  simp only [SIMP,nlt64,List.drop_length,this]
 ·intro i hi ih
  have hia:=fun H=>ia_nat (row:=SIns.row) SIns.len (H:=H) hi
  rw [j106_7,drop_cons hi]
  simp only [SIMP,SClass.simps,SMethod.simps,SIns.simps,lt64 hi,hia,c175 c w m wm ops ho _ (hn _ (List.getElem_mem hi)),nat_succ64 hi ho,ih]
  cases insM c m ops ops[i] <;> rfl
theorem c106 (hs:m.Code.length≤120) (hk:∀ f ∈ m.Frames,(∀ k ∈ f.Locals,kindR k)∧∀ k ∈ f.Stack,kindR k):run E (exec E) false 106 [c.d,m.d]=some (.bool (bodyM c m)):=by
 have hg:run E (exec E) true 173 [.str m.Code]=some (opsRes (opsGo 0 m.Code)):=c173 _ (by omega)
 rw [l3Get_ops _ hs] at hg
 apply run_bool
 rw [e106]
 unfold bodyM codeM
 cases ho:opsGet m.Code with
 | none=>
  rw [ho] at hg
  simp only at hg
  simp only [SIMP,SClass.simps,SMethod.simps,has8 _ hm,hg]
  cases bit m.Flags 3 <;> rfl
 | some ops=>
  rw [ho] at hg
  simp only at hg
  obtain ⟨hn,hl⟩:=opsGet_num ho
  have h7:=c106_7 c w m wm hm hk ops (by omega) (opsGo_at0 ho) hn [] 0 (by omega)
  simp only [List.drop_zero,Int.natCast_zero] at h7
  have hle:decide (m.Deep≤8) = !decide (8 < m.Deep):=by
   by_cases g:8 < m.Deep
   ·simp [g,show ¬ m.Deep≤8 by omega]
   ·simp [g,show m.Deep≤8 by omega]
  simp only [SIMP,SClass.simps,SMethod.simps,has8 _ hm,hg,c174 c w m wm hm,c63,h7,hle]
  cases bit m.Flags 3 <;> cases decide (8 < m.Deep) <;> cases inR m.Locals (needM c m) 8 <;> rfl
end
theorem c44_10 (c:SClass) (h:FileR c) (H:Heap):∀ i,i≤c.Methods.length→fst_ (J E 44 10 [.ptr 0 0 0,.int .i64 i] (some [c.row] :: H))=some (.int .i64 (if (c.Methods.drop i).all (bodyM c)=false then 6 else 0)):=by
 have w:=h.wf
 obtain ⟨w1,w2⟩:=w.2.2.2.2.2.2
 apply loop_up
 ·rw [j44_10]
  simp only [SIMP,SClass.simps,nlt64,List.drop_length]
  rfl
 ·intro i hi ih
  have hia:=fun H=>ia_nat (row:=SMethod.row) SMethod.len (H:=H) hi
  have hx:=List.getElem_mem hi
  have hr:=h.methods _ hx
  have hb:=c106 c w _ (w2 _ hx) hr.1 (h.small.2.2.2.2.2 _ hx).1 hr.2
  rw [j44_10,drop_cons hi]
  simp only [SIMP,SClass.simps,SMethod.simps,lt64 hi,hia,hb,nat_succ64 hi w1,ih]
  rcases Bool.eq_false_or_eq_true (bodyM c c.Methods[i]) with g | g <;> simp only [g,SIMP]
theorem c44 (c:SClass) (h:FileR c):run E (exec E) false 44 [c.d]=some (.int .i64 (checkM c)):=by
 have w:=h.wf
 have h10:=c44_10 c h [] 0 (by omega)
 simp only [List.drop_zero,Int.natCast_zero] at h10
 apply run_int
 rw [e44]
 simp only [SIMP,SClass.simps,c102 c.Pool w.1,c103 c w h.flags,c104 c w h.flags,c105 c w h.flags,h10,checkM]
 by_cases k:poolCheck c.Pool=0
 ·simp only [k,SIMP,ne_eq,not_true_eq_false]
  rcases Bool.eq_false_or_eq_true (headM c) with g1 | g1 <;> rcases Bool.eq_false_or_eq_true (fieldsGo c [] c.Fields) with g2 | g2 <;> rcases Bool.eq_false_or_eq_true (methodsGo c [] c.Methods) with g3 | g3 <;> simp only [g1,g2,g3,SIMP,Bool.true_eq_false]
 ·simp only [k,SIMP,ne_eq,not_false_eq_true]
theorem c15 (c:SClass) (w:c.wf) (hM:(pClass pTwo' isAbs' c).length≤4611686018427387904):run E (exec E) false 15 [c.d]=some (.int .i64 (classCheck c)):=by
 apply run_int
 rw [e15]
 simp only [SIMP,SClass.simps,c43 c w hM,classCheck]
 by_cases k:filePut c=[]
 ·simp only [k,SIMP]
 ·simp only [k,SIMP,c44 c (filePut_fileR k)]
end Go.Ev.YtmljkoieihaomaaGreat
namespace Go.Ev.YtmljkoieihaomaaGreat
set_option linter.unusedVariables false
set_option linter.unusedSimpArgs false
set_option linter.unusedSectionVars false
set_option linter.defProp false
set_option maxHeartbeats 1000000
open Go.Ev
theorem AccR.keep {lv esz:Nat} {H H':Heap} {d:D} {ts:Rows} (h:AccR lv esz H d ts) (hl:H.length≤H'.length) (hf:∀ b,b < H.length→getBlk H' b=getBlk H b):AccR lv esz H' d ts:=by
 obtain ⟨rows,B,h1,h2,h3⟩:=h
 refine ⟨rows,B,⟨h1.1,?_⟩,h2.frame fun c hc=>hf c (h3 c hc).1,fun c hc=>⟨by have:=(h3 c hc).1; omega,(h3 c hc).2⟩⟩
 rcases h1.2 with ⟨e,f⟩ | ⟨e,b,f,hb⟩
 ·exact .inl ⟨e,f⟩
 ·exact .inr ⟨e,b,f,(hf b (getBlk_lt' hb)).trans hb⟩
theorem AccR.base {lv esz:Nat} {H:Heap} {d:D} {ts:Rows} (h:AccR lv esz H d ts) {b o n:Nat} (e:d = .sl b o n):b < H.length:=by
 obtain ⟨rows,B,h1,h2,h3⟩:=h
 rcases h1.2 with ⟨-,f⟩ | ⟨-,b',f,hb⟩
 ·rw [e] at f; cases f
 ·rw [e] at f; cases f; exact getBlk_lt' hb
end Go.Ev.YtmljkoieihaomaaGreat
namespace Go.Ev.YtmljkoieihaomaaGreat
set_option linter.unusedVariables false
set_option linter.unusedSimpArgs false
set_option linter.unusedSectionVars false
set_option linter.defProp false
set_option maxHeartbeats 1000000
open Go.Ev
theorem c4 (c:SClass) (w:c.wf):run E (exec E) true 4 [c.d]=some (.bool true):=by
 rw [run_ent,e4]
 have L0:Lv [] [] []:=Lv.nil []
 obtain ⟨H1,p1,q1,L1⟩:=L0.param c.row rfl
 rw [show D.cells c.d=c.row from rfl,q1]
 have l1_p1:ld true 7 H1 (.ptr p1 0 0)=some (c.d):=L1.ld (.head _) (rfl)
 try simp only [l1_p1,Option.bind_some]
 rw [pure_call (ds:=[c.d,.int .i64 ((1048576:Int))]) (by simp only [readA_int,readA_bool,readA_str,readA_list,readA_sl0,readA_sl,readA_agg,readA_tup,optAll_cons,optAll_nil,readT_int,readT_list9,SClass.readD,Option.bind_some]) (c14 c ((1048576:Int)) w (by omega) (by omega))]
 simp only [Option.bind_some,bI_lss,asB_bool]
 by_cases gsc:¬ ((c.sz:Nat):Int)≤(1048576:Int)
 ·rw [szR_neg gsc]; simp
 have gsc:=Decidable.not_not.mp gsc
 rw [szR_pos gsc]
 simp only [show ¬ (1048576:Int) - ((c.sz:Nat):Int) < 0 by omega,decide_false,cond_false]
 have hfit:c.fit:=by
  obtain ⟨⟨w1,-⟩,-,-,-,⟨w2,-⟩,⟨w3,-⟩,⟨w4,w5⟩⟩:=w
  exact ⟨w1,w2,w3,w4,fun z hz=>⟨(w5 z hz).2.2.2.2.2.2.1.1,(w5 z hz).2.2.2.2.2.2.2.1,fun f hf=>⟨((w5 z hz).2.2.2.2.2.2.2.2 f hf).2.1.1,((w5 z hz).2.2.2.2.2.2.2.2 f hf).2.2.1⟩⟩⟩
 have hM1:=pClass_le (w:=pTwo') (ab:=isAbs') (fun _=>rfl) c
 have hM1:(pClass pTwo' isAbs' c).length≤4611686018427387904:=by omega
 have hM2:=pClass_le (w:=pTwo) (ab:=isAbs) (fun _=>rfl) c
 have hM2:(pClass pTwo isAbs c).length≤4611686018427387904:=by omega
 try simp only [l1_p1,Option.bind_some]
 try simp only [l1_p1,Option.bind_some]
 obtain ⟨d3,H3,B3,q3,L3⟩:=L1.own (c16 c (by omega)) (by decide) (ds:=[c.d]) (by simp only [readA_int,readA_bool,readA_str,readA_list,readA_sl0,readA_sl,readA_agg,readA_tup,optAll_cons,optAll_nil,readT_int,readT_str,readT_bool,readT_list9,SClass.readD,Option.bind_some])
 rw [q3]; simp only [Option.bind_some]
 have r3:=L3.reads; simp only [Reads,and_true] at r3
 have l3_p1:ld true 7 H3 (.ptr p1 0 0)=some (c.d):=L3.ld (.head _) (rfl)
 try simp only [l3_p1,Option.bind_some]
 rw [pure_call (ds:=[d3]) (by simp only [readA_int,readA_bool,readA_str,readA_list,readA_sl0,readA_sl,readA_agg,readA_tup,optAll_cons,optAll_nil,r3,readT_int,readT_str,readT_bool,readT_list9,SClass.readD,Option.bind_some]) (c15 c w hM1)]; simp only [Option.bind_some]
 try simp only [l3_p1,Option.bind_some]
 obtain ⟨d5,H5,B5,q5,L5⟩:=L3.own (c16 c (by omega)) (by decide) (ds:=[c.d]) (by simp only [readA_int,readA_bool,readA_str,readA_list,readA_sl0,readA_sl,readA_agg,readA_tup,optAll_cons,optAll_nil,r3,readT_int,readT_str,readT_bool,readT_list9,SClass.readD,Option.bind_some])
 rw [q5]; simp only [Option.bind_some]
 have r5:=L5.reads; simp only [Reads,and_true] at r5
 have l5_p1:ld true 7 H5 (.ptr p1 0 0)=some (c.d):=L5.ld (.head _) (rfl)
 try simp only [l5_p1,Option.bind_some]
 obtain ⟨cs6,rfl,n6,hc6⟩:=L5.agg' (d:=d5) (ts:=c.row) (B:=B5) (by simp)
 obtain ⟨H6,p6,q6,L6⟩:=L5.var [.sl0,.int .i64 0,.int .i64 0,.int .i64 0,.sl0,.sl0,.sl0] cs6 7 rfl rfl (n6.trans rfl) (hc6 rfl)
 rw [q6]
 have r6:=L6.reads; simp only [Reads,and_true] at r6
 have l6_p1:ld true 7 H6 (.ptr p1 0 0)=some (c.d):=L6.ld (.tail _ (.head _)) (rfl)
 have l6_p6:ld true 7 H6 (.ptr p6 0 0)=some ((.agg cs6)):=L6.ld (.head _) (n6.trans rfl)
 try simp only [l6_p1,l6_p6,Option.bind_some]
 try simp only [l6_p1,l6_p6,Option.bind_some]
 rw [pure_call (ds:=[(.agg cs6)]) (by simp only [readA_int,readA_bool,readA_str,readA_list,readA_sl0,readA_sl,readA_agg,readA_tup,optAll_cons,optAll_nil,r6,readT_int,readT_str,readT_bool,readT_list9,SClass.readD,Option.bind_some]) (c17 c w hM2)]; simp only [Option.bind_some]
 try simp only [l6_p1,l6_p6,Option.bind_some]
 try simp only [l6_p1,l6_p6,Option.bind_some]
 try simp only [bI_neq,bS_neq,bB_neq,beq_self_eq_true,decide_true,Bool.not_true,Option.bind_some,asB_bool,cond_false]
 try simp only [l6_p1,l6_p6,Option.bind_some]
 try simp only [l6_p1,l6_p6,Option.bind_some]
 obtain ⟨d8,H8,B8,q8,L8⟩:=L6.own (c16 c (by omega)) (by decide) (ds:=[c.d]) (by simp only [readA_int,readA_bool,readA_str,readA_list,readA_sl0,readA_sl,readA_agg,readA_tup,optAll_cons,optAll_nil,r6,readT_int,readT_str,readT_bool,readT_list9,SClass.readD,Option.bind_some])
 rw [q8]; simp only [Option.bind_some]
 have r8:=L8.reads; simp only [Reads,and_true] at r8
 have l8_p1:ld true 7 H8 (.ptr p1 0 0)=some (c.d):=L8.ld (.tail _ (.head _)) (rfl)
 have l8_p6:ld true 7 H8 (.ptr p6 0 0)=some ((.agg cs6)):=L8.ld (.head _) (n6.trans rfl)
 try simp only [l8_p1,l8_p6,Option.bind_some]
 rw [pure_call (ds:=[(.agg cs6),d8]) (by simp only [readA_int,readA_bool,readA_str,readA_list,readA_sl0,readA_sl,readA_agg,readA_tup,optAll_cons,optAll_nil,r8,readT_int,readT_str,readT_bool,readT_list9,SClass.readD,Option.bind_some]) (c18 c c (hfit) (hfit))]
 simp only [Option.bind_some,unOp_not,asB_bool,decide_true,Bool.not_true,cond_false,cond_true]
 try simp only [l8_p1,l8_p6,Option.bind_some]
 simp only [readA_int,readA_bool,readA_str,readA_list,readA_sl0,readA_sl,readA_agg,readA_tup,ret_one,Option.bind_some,readT_bool]
end Go.Ev.YtmljkoieihaomaaGreat
