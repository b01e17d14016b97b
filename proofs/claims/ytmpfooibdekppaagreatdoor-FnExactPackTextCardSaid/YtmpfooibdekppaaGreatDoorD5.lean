import Derived.Test.YtmpfooibdekppaaGreatDoorD4
namespace Go.Ev.YtmpfooibdekppaaGreatDoor
set_option linter.unusedVariables false
set_option linter.unusedSimpArgs false
set_option linter.unusedSectionVars false
set_option linter.defProp false
set_option maxHeartbeats 1000000
open Go.Ev
theorem c160_2 (l:List SIns) (hl:l.length≤140737488351232) (a:Int) (H:Heap):∀ i,i≤l.length→fst_ (J E 160 2 [.list (l.map SIns.row),.int .i64 a,.int .i64 i] H)=some (.int .i64 (idxFrom (fun x:SIns=>decide (x.At=a)) i (l.drop i))):=by
 apply loop_up
 ·rw [j160_2]
  simp only [SIMP,nlt64,List.drop_length,idxFrom]
 ·intro i hi ih
  have hia:=fun H=>ia_nat (row:=SIns.row) SIns.len (H:=H) hi
  rw [j160_2,drop_cons hi,idxFrom]
  simp only [SIMP,SIns.simps,lt64 hi,hia,nat_succ64 hi hl,ih]
  cases decide ((l[i]).At=a) <;> rfl
theorem c160 (l:List SIns) (hl:l.length≤140737488351232) (a:Int):run E (exec E) false 160 [.list (l.map SIns.row),.int .i64 a]=some (.int .i64 (opIdx l a)):=by
 apply run_int
 rw [e160]
 have:=c160_2 l hl a [] 0 (by omega)
 simp only [List.drop_zero,Int.natCast_zero] at this
 rw [this]; rfl
theorem opIdx_ge (ops:List SIns) (a:Int):decide (0≤opIdx ops a)=opHas ops a:=by
 have h:=opIdx_has ops a
 rw [← Bool.not_not (opHas ops a),← h]
 by_cases g:0≤opIdx ops a
 ·simp [g,show ¬ opIdx ops a < 0 by omega]
 ·simp [g,show opIdx ops a < 0 by omega]
def prevAt (l:List SFrame):Nat→Int
 | 0=>-1
 | k + 1=>match l[k]? with
  | some f=>f.At
  | none=>-1
section
variable (c:SClass) (w:c.wf) (hF:0≤c.Flags∧c.Flags≤255)
include w
theorem c162_2 (l:List SKind) (hl:l.length≤140737488351232) (hw:∀ k ∈ l,k.wf) (hk:∀ k ∈ l,kindR k) (H:Heap):∀ i,i≤l.length→fst_ (J E 162 2 [.list (l.map SKind.row),.ptr 0 0 0,.int .i64 i] (some [c.row] :: H))=some (.bool ((l.drop i).all (kindM c))):=by
 have hc:=c32 c.Pool w.1
 apply loop_up
 ·rw [j162_2]
  simp only [SIMP,nlt64,List.drop_length]
 ·intro i hi ih
  have hia:=fun H=>ia_nat (row:=SKind.row) SKind.len (H:=H) hi
  have wx:=hw _ (List.getElem_mem hi)
  obtain ⟨t0,t3⟩:=hk _ (List.getElem_mem hi)
  have hin:inR (l[i]).Tag 0 3=true:=by simp [inR,t0,t3]
  rw [j162_2,drop_cons hi,List.all_cons,kindM]
  simp only [SIMP,lt64 hi]
  rw [j162_4]
  by_cases h3:(l[i]).Tag=3
  ·simp only [SIMP,SKind.simps,SClass.simps,hia,c14,hin,h3,hc _ wx.2,classM_nil,nat_succ64 hi hl,ih]
   cases classAtM c.Pool (l[i]).Class <;> rfl
  ·simp only [SIMP,SKind.simps,SClass.simps,hia,c14,hin,h3,nat_succ64 hi hl,ih]
   cases decide ((l[i]).Class=0) <;> rfl
theorem c162 (l:List SKind) (hl:l.length≤140737488351232) (hw:∀ k ∈ l,k.wf) (hk:∀ k ∈ l,kindR k):run E (exec E) false 162 [c.d,.list (l.map SKind.row)]=some (.bool (l.all (kindM c))):=by
 apply run_bool
 rw [e162]
 have:=c162_2 c w l hl hw hk [] 0 (by omega)
 simp only [List.drop_zero,Int.natCast_zero] at this
 simp only [SIMP,SClass.simps,this]
variable (m:SMethod) (wm:m.wf) (hm:0≤m.Flags∧m.Flags≤255) (ops:List SIns) (ho:ops.length≤140737488351232)
include wm ho
theorem c109 (x:SIns) (wx:i64 x.Num):run E (exec E) false 109 [c.d,m.d,.list (ops.map SIns.row),x.d]=some (.bool (insM c m ops x)):=by
 have hw:inR x.Op 3 6=true→inR x.Op 14 18=false∧wantsM x.Op=0:=by
  intro h
  simp only [inR,Bool.and_eq_true,decide_eq_true_eq] at h
  constructor
  ·simp [inR]; omega
  ·unfold wantsM inR
   rw [if_neg (by omega),if_neg (by simp; omega),if_neg (by simp; omega),if_neg (by omega)]
 have hj:inR x.Op 14 18=true→wantsM x.Op=0:=by
  intro h
  simp only [inR,Bool.and_eq_true,decide_eq_true_eq] at h
  unfold wantsM inR
  rw [if_neg (by omega),if_neg (by simp; omega),if_neg (by simp; omega),if_neg (by omega)]
 have hlt:decide (x.Num < m.Locals) = !decide (m.Locals≤x.Num):=by
  by_cases g:x.Num < m.Locals
  ·simp [g,show ¬ m.Locals≤x.Num by omega]
  ·simp [g,show m.Locals≤x.Num by omega]
 apply run_bool
 rw [e109]
 unfold insM
 simp only [SIMP,SClass.simps,SMethod.simps,SIns.simps,c14,c161,c160 ops ho,c155 c.Pool w.1 _ wx,opIdx_ge,hlt]
 cases h1:inR x.Op 3 6 with
 | true=>
  obtain ⟨h2,h3⟩:=hw h1
  simp only [SIMP,h2,h3]
  cases decide (m.Locals≤x.Num) <;> rfl
 | false=>
  cases h2:inR x.Op 14 18 with
  | true=>
   simp only [SIMP,hj h2]
   cases opHas ops x.Num <;> rfl
  | false=>
   simp only [SIMP]
   cases decide (wantsM x.Op=0) <;> cases decide ((cAt c.Pool x.Num).Kind=wantsM x.Op) <;> rfl
theorem c110 (t:STrap) (wt:t.wf):run E (exec E) false 110 [c.d,m.d,.list (ops.map SIns.row),t.d]=some (.bool (trapM c m ops t)):=by
 have hc:=c32 c.Pool w.1
 apply run_bool
 rw [e110]
 unfold trapM
 simp only [SIMP,SClass.simps,SMethod.simps,STrap.simps]
 rw [j110_1]
 simp only [SIMP,SClass.simps,SMethod.simps,STrap.simps,c160 ops ho,hc _ wt.2.2.2,opIdx_has,classM_nil]
 by_cases h1:t.From < t.To
 ·simp only [h1,show ¬ t.To≤t.From by omega,SIMP]
  cases opHas ops t.From <;> cases opHas ops t.At <;> cases opHas ops t.To <;> cases decide (t.To=(m.Code.length:Int)) <;> cases decide (t.Class=0) <;> cases classAtM c.Pool t.Class <;> rfl
 ·simp only [h1,show t.To≤t.From by omega,SIMP]
theorem c111_2 (hk:∀ f ∈ m.Frames,(∀ k ∈ f.Locals,kindR k)∧∀ k ∈ f.Stack,kindR k) (h0:∀ x ∈ ops,0≤x.At):∀ i,i≤m.Frames.length→∀ H,fst_ (J E 111 2 [.list (ops.map SIns.row),.ptr 0 0 0,.ptr 1 0 0,.int .i64 i] (some [c.row] :: some [m.row] :: H))=some (.bool (framesGo c m ops (prevAt m.Frames i) (m.Frames.drop i))):=by
 have wm0:=wm
 obtain ⟨-,-,-,-,-,-,-,w1,w2⟩:=wm
 apply loop_up
 ·intro H
  rw [j111_2]
  simp only [SIMP,SMethod.simps,nlt64,List.drop_length,framesGo]
 ·intro i hi ih H
  have hia:=fun H=>ia_nat (row:=SFrame.row) SFrame.len (H:=H) hi
  have wx:=w2 _ (List.getElem_mem hi)
  have kx:=hk _ (List.getElem_mem hi)
  rw [j111_2,drop_cons hi,framesGo]
  simp only [SIMP,SMethod.simps,SFrame.simps,lt64 hi,hia]
  rw [j111_5]
  have hp:prevAt m.Frames (i + 1)=(m.Frames[i]).At:=by simp [prevAt,List.getElem?_eq_getElem hi]
  rw [hp] at ih
  have hle:decide ((m.Frames[i]).Stack.length≤m.Deep) = !decide (m.Deep < ((m.Frames[i]).Stack.length:Int)):=by
   by_cases g:m.Deep < ((m.Frames[i]).Stack.length:Int)
   ·simp [g,show ¬ ((m.Frames[i]).Stack.length:Int)≤m.Deep by omega]
   ·simp [g,show ((m.Frames[i]).Stack.length:Int)≤m.Deep by omega]
  have fin:∀ b:Bool,(bif !opHas ops (m.Frames[i]).At then some (D.bool false) else bif b then some (D.bool false) else bif !decide (((m.Frames[i]).Locals.length:Int)=m.Locals) then some (D.bool false) else bif decide (m.Deep < ((m.Frames[i]).Stack.length:Int)) then some (D.bool false) else bif !(m.Frames[i]).Locals.all (kindM c) then some (D.bool false) else bif !(m.Frames[i]).Stack.all (kindM c) then some (D.bool false) else some (D.bool (framesGo c m ops (m.Frames[i]).At (List.drop (i + 1) m.Frames))))=some (D.bool (opHas ops (m.Frames[i]).At && (!b && (decide (((m.Frames[i]).Locals.length:Int)=m.Locals) && (decide (((m.Frames[i]).Stack.length:Int)≤m.Deep) && ((m.Frames[i]).Locals.all (kindM c) && ((m.Frames[i]).Stack.all (kindM c) && framesGo c m ops (m.Frames[i]).At (List.drop (i + 1) m.Frames)))))))):=by
   intro b
   rw [hle]
   cases opHas ops (m.Frames[i]).At <;> cases b <;> cases decide (((m.Frames[i]).Locals.length:Int)=m.Locals) <;> cases decide (m.Deep < ((m.Frames[i]).Stack.length:Int)) <;> cases (m.Frames[i]).Locals.all (kindM c) <;> cases (m.Frames[i]).Stack.all (kindM c) <;> rfl
  cases i with
  | zero=>
   rw [show prevAt m.Frames 0 = -1 from rfl]
   have hb:opHas ops (m.Frames[0]).At=true→decide ((-1:Int) < (m.Frames[0]).At)=true:=by
    intro h
    simp only [opHas,List.any_eq_true,decide_eq_true_eq] at h
    obtain ⟨x,hx,e⟩:=h
    have:=h0 x hx
    simp; omega
   simp only [SIMP,SClass.simps,SMethod.simps,SFrame.simps,c160 ops ho,opIdx_has,show decide ((0:Int) < ((0:Nat):Int))=false from rfl,c162 c w _ wx.2.1.1 wx.2.1.2 kx.1,c162 c w _ wx.2.2.1 wx.2.2.2 kx.2,nat_succ64 hi w1,ih]
   have f0:=fin false
   simp only [cond_false] at f0
   rw [f0]
   cases ha:opHas ops (m.Frames[0]).At with
   | false=>simp only [Bool.false_and]
   | true=>simp only [hb ha,Bool.not_false]
  | succ k=>
   have hk':k < m.Frames.length:=by omega
   have hka:=fun H=>ia_nat (row:=SFrame.row) SFrame.len (H:=H) hk'
   have hsub:IntKind.wrap .i64 (((k + 1:Nat):Int) - 1)=((k:Nat):Int):=by rw [wrap_i64 (by omega) (by omega)]; omega
   have hpk:prevAt m.Frames (k + 1)=(m.Frames[k]).At:=by simp [prevAt,List.getElem?_eq_getElem hk']
   have hlt:decide ((m.Frames[k]).At < (m.Frames[k + 1]).At) = !decide ((m.Frames[k + 1]).At≤(m.Frames[k]).At):=by
    by_cases g:(m.Frames[k]).At < (m.Frames[k + 1]).At
    ·simp [g,show ¬ (m.Frames[k + 1]).At≤(m.Frames[k]).At by omega]
    ·simp [g,show (m.Frames[k + 1]).At≤(m.Frames[k]).At by omega]
   simp only [SIMP,SClass.simps,SMethod.simps,SFrame.simps,c160 ops ho,opIdx_has,show decide ((0:Int) < ((k + 1:Nat):Int))=true from by simp <;> omega,hsub,hka,c162 c w _ wx.2.1.1 wx.2.1.2 kx.1,c162 c w _ wx.2.2.1 wx.2.2.2 kx.2,nat_succ64 hi w1,ih,hpk,hlt]
   exact fin _
theorem c111 (hk:∀ f ∈ m.Frames,(∀ k ∈ f.Locals,kindR k)∧∀ k ∈ f.Stack,kindR k) (h0:∀ x ∈ ops,0≤x.At):run E (exec E) false 111 [c.d,m.d,.list (ops.map SIns.row)]=some (.bool (framesGo c m ops (-1) m.Frames)):=by
 apply run_bool
 rw [e111]
 have:=c111_2 c w m wm ops ho hk h0 0 (by omega) []
 simp only [List.drop_zero,Int.natCast_zero] at this
 simp only [SIMP,SClass.simps,SMethod.simps,this,prevAt]
end
end Go.Ev.YtmpfooibdekppaaGreatDoor
namespace Go.Ev.YtmpfooibdekppaaGreatDoor
set_option linter.unusedVariables false
set_option linter.unusedSimpArgs false
set_option linter.unusedSectionVars false
set_option linter.defProp false
set_option maxHeartbeats 1000000
open Go.Ev
theorem opsGo_at:∀ {s:List UInt8} {l:List SIns} {a:Nat},opsGo a s=some l→∀ x ∈ l,(a:Int)≤x.At∧x.At < (a + s.length:Nat)
 | [],l,a,h=>by rw [opsGo] at h; cases h; simp
 | b :: rest,l,a,h=>by
  rw [opsGo] at h
  split at h
  ·cases h
  ·rename_i hc
   obtain ⟨l',h',rfl⟩:=Option.map_eq_some_iff.mp h
   have ih:=opsGo_at h'
   intro x hx
   rcases List.mem_cons.mp hx with rfl | hx
   ·simp only [List.length_cons]; omega
   ·have:=ih x hx
    simp only [List.length_cons,List.length_drop] at this ⊢
    omega
 termination_by s=>s.length
 decreasing_by simp; omega
theorem opsGo_at0 {s:List UInt8} {ops:List SIns} (h:opsGet s=some ops):∀ x ∈ ops,0≤x.At:=by
 unfold opsGet at h
 split at h
 ·exact fun x hx=>by have:=opsGo_at h x hx; omega
 ·cases h
theorem l3Get_ops (s:List UInt8) (hs:s.length≤120):opsRes (opsGo 0 s)=match opsGet s with
  | some ops=>.tup [.list (ops.map SIns.row),.bool true]
  | none=>.tup [(match opsGo 0 s with | some l=>.list (l.map SIns.row) | none=>.list []),.bool false]:=by
 unfold opsGet
 by_cases h:s=[]
 ·subst h
  rw [opsGo]; rfl
 ·have hp:1≤s.length:=List.length_pos_iff.mpr h
  rw [if_pos ⟨hp,hs⟩]
  cases hg:opsGo 0 s with
  | none=>rfl
  | some l=>
   have:=opsGo_pos hg h
   simp [opsRes,this]
section
variable (c:SClass) (w:c.wf) (hF:0≤c.Flags∧c.Flags≤255)
include w
variable (m:SMethod) (wm:m.wf) (hm:0≤m.Flags∧m.Flags≤255)
include wm hm
theorem c108:run E (exec E) false 108 [c.d,m.d]=some (.int .i64 (needM c m)):=by
 have hl:=dTakes_len (textM c.Pool m.Desc)
 have hd:run E (exec E) true 157 [.str (textM c.Pool m.Desc)]=some (.tup [.list ((dTakes (textM c.Pool m.Desc)).map rStr),.str (dBack (textM c.Pool m.Desc)),.bool (dOk (textM c.Pool m.Desc))]):=by
  rw [← descRes_eq]; exact c157 _ (textM_len w.1 _) true
 apply run_int
 rw [e108]
 simp only [SIMP,SClass.simps,SMethod.simps,tx c w _ wm.2.2.1,hd,has1 _ hm,needM]
 cases bit m.Flags 0 with
 | true=>simp
 | false=>
  simp only [SIMP]
  rw [wrap_i64 (by omega) (by omega)]
  simp
theorem c62_12 (hk:∀ f ∈ m.Frames,(∀ k ∈ f.Locals,kindR k)∧∀ k ∈ f.Stack,kindR k) (ops:List SIns) (ho:ops.length≤140737488351232) (h0:∀ x ∈ ops,0≤x.At) (H:Heap):∀ i,i≤m.Traps.length→fst_ (J E 62 12 [.ptr 0 0 0,.ptr 1 0 0,.list (ops.map SIns.row),.int .i64 i] (some [c.row] :: some [m.row] :: H))=some (.bool ((m.Traps.drop i).all (trapM c m ops) && framesGo c m ops (-1) m.Frames)):=by
 have wm0:=wm
 obtain ⟨-,-,-,-,-,-,⟨w1,w2⟩,-,-⟩:=wm
 apply loop_up
 ·rw [j62_12]
  simp only [SIMP,SClass.simps,SMethod.simps,nlt64,List.drop_length,c111 c w m wm0 ops ho hk h0]
 ·intro i hi ih
  have hia:=fun H=>ia_nat (row:=STrap.row) STrap.len (H:=H) hi
  have wx:=w2 _ (List.getElem_mem hi)
  rw [j62_12,drop_cons hi]
  simp only [SIMP,SClass.simps,SMethod.simps,STrap.simps,SIns.simps,lt64 hi,hia,c110 c w m wm0 ops ho _ wx,nat_succ64 hi w1,ih]
  cases trapM c m ops m.Traps[i] <;> rfl
theorem c62_7 (hk:∀ f ∈ m.Frames,(∀ k ∈ f.Locals,kindR k)∧∀ k ∈ f.Stack,kindR k) (ops:List SIns) (ho:ops.length≤140737488351232) (h0:∀ x ∈ ops,0≤x.At) (hn:∀ x ∈ ops,i64 x.Num) (H:Heap):∀ i,i≤ops.length→fst_ (J E 62 7 [.ptr 0 0 0,.ptr 1 0 0,.list (ops.map SIns.row),.int .i64 i] (some [c.row] :: some [m.row] :: H))=some (.bool ((ops.drop i).all (insM c m ops) && (m.Traps.all (trapM c m ops) && framesGo c m ops (-1) m.Frames))):=by
 apply loop_up
 ·rw [j62_7]
  have:=c62_12 c w m wm hm hk ops ho h0 H 0 (by omega)
  simp only [List.drop_zero,Int.natCast_zero] at this
  simp only [SIMP,nlt64,List.drop_length,this]
 ·intro i hi ih
  have hia:=fun H=>ia_nat (row:=SIns.row) SIns.len (H:=H) hi
  rw [j62_7,drop_cons hi]
  simp only [SIMP,SClass.simps,SMethod.simps,SIns.simps,lt64 hi,hia,c109 c w m wm ops ho _ (hn _ (List.getElem_mem hi)),nat_succ64 hi ho,ih]
  cases insM c m ops ops[i] <;> rfl
theorem c62 (hs:m.Code.length≤120) (hk:∀ f ∈ m.Frames,(∀ k ∈ f.Locals,kindR k)∧∀ k ∈ f.Stack,kindR k):run E (exec E) false 62 [c.d,m.d]=some (.bool (bodyM c m)):=by
 have hg:run E (exec E) true 107 [.str m.Code]=some (opsRes (opsGo 0 m.Code)):=c107 _ (by omega)
 rw [l3Get_ops _ hs] at hg
 apply run_bool
 rw [e62]
 unfold bodyM codeM
 cases ho:opsGet m.Code with
 | none=>
  rw [ho] at hg
  simp only at hg
  simp only [SIMP,SClass.simps,SMethod.simps,has8 _ hm,hg]
  cases bit m.Flags 3 <;> rfl
 | some ops=>
  rw [ho] at hg
  simp only at hg
  obtain ⟨hn,hl⟩:=opsGet_num ho
  have h7:=c62_7 c w m wm hm hk ops (by omega) (opsGo_at0 ho) hn [] 0 (by omega)
  simp only [List.drop_zero,Int.natCast_zero] at h7
  have hle:decide (m.Deep≤8) = !decide (8 < m.Deep):=by
   by_cases g:8 < m.Deep
   ·simp [g,show ¬ m.Deep≤8 by omega]
   ·simp [g,show m.Deep≤8 by omega]
  simp only [SIMP,SClass.simps,SMethod.simps,has8 _ hm,hg,c108 c w m wm hm,c14,h7,hle]
  cases bit m.Flags 3 <;> cases decide (8 < m.Deep) <;> cases inR m.Locals (needM c m) 8 <;> rfl
end
theorem c30_10 (c:SClass) (h:FileR c) (H:Heap):∀ i,i≤c.Methods.length→fst_ (J E 30 10 [.ptr 0 0 0,.int .i64 i] (some [c.row] :: H))=some (.int .i64 (if (c.Methods.drop i).all (bodyM c)=false then 6 else 0)):=by
 have w:=h.wf
 obtain ⟨w1,w2⟩:=w.2.2.2.2.2.2
 apply loop_up
 ·rw [j30_10]
  simp only [SIMP,SClass.simps,nlt64,List.drop_length]
  rfl
 ·intro i hi ih
  have hia:=fun H=>ia_nat (row:=SMethod.row) SMethod.len (H:=H) hi
  have hx:=List.getElem_mem hi
  have hr:=h.methods _ hx
  have hb:=c62 c w _ (w2 _ hx) hr.1 (h.small.2.2.2.2.2 _ hx).1 hr.2
  rw [j30_10,drop_cons hi]
  simp only [SIMP,SClass.simps,SMethod.simps,lt64 hi,hia,hb,nat_succ64 hi w1,ih]
  rcases Bool.eq_false_or_eq_true (bodyM c c.Methods[i]) with g | g <;> simp only [g,SIMP]
theorem c30 (c:SClass) (h:FileR c):run E (exec E) false 30 [c.d]=some (.int .i64 (checkM c)):=by
 have w:=h.wf
 have h10:=c30_10 c h [] 0 (by omega)
 simp only [List.drop_zero,Int.natCast_zero] at h10
 apply run_int
 rw [e30]
 simp only [SIMP,SClass.simps,c58 c.Pool w.1,c59 c w h.flags,c60 c w h.flags,c61 c w h.flags,h10,checkM]
 by_cases k:poolCheck c.Pool=0
 ·simp only [k,SIMP,ne_eq,not_true_eq_false]
  rcases Bool.eq_false_or_eq_true (headM c) with g1 | g1 <;> rcases Bool.eq_false_or_eq_true (fieldsGo c [] c.Fields) with g2 | g2 <;> rcases Bool.eq_false_or_eq_true (methodsGo c [] c.Methods) with g3 | g3 <;> simp only [g1,g2,g3,SIMP,Bool.true_eq_false]
 ·simp only [k,SIMP,ne_eq,not_false_eq_true]
theorem c13 (c:SClass) (w:c.wf) (hM:(pClass pTwo' isAbs' c).length≤4611686018427387904):run E (exec E) false 13 [c.d]=some (.int .i64 (classCheck c)):=by
 apply run_int
 rw [e13]
 simp only [SIMP,SClass.simps,c29 c w hM,classCheck]
 by_cases k:filePut c=[]
 ·simp only [k,SIMP]
 ·simp only [k,SIMP,c30 c (filePut_fileR k)]
end Go.Ev.YtmpfooibdekppaaGreatDoor
namespace Go.Ev.YtmpfooibdekppaaGreatDoor
set_option linter.unusedVariables false
set_option linter.unusedSimpArgs false
set_option linter.unusedSectionVars false
set_option linter.defProp false
set_option maxHeartbeats 1000000
open Go.Ev
theorem AccR.keep {lv esz:Nat} {H H':Heap} {d:D} {ts:Rows} (h:AccR lv esz H d ts) (hl:H.length≤H'.length) (hf:∀ b,b < H.length→getBlk H' b=getBlk H b):AccR lv esz H' d ts:=by
 obtain ⟨rows,B,h1,h2,h3⟩:=h
 refine ⟨rows,B,⟨h1.1,?_⟩,h2.frame fun c hc=>hf c (h3 c hc).1,fun c hc=>⟨by have:=(h3 c hc).1; omega,(h3 c hc).2⟩⟩
 rcases h1.2 with ⟨e,f⟩ | ⟨e,b,f,hb⟩
 ·exact .inl ⟨e,f⟩
 ·exact .inr ⟨e,b,f,(hf b (getBlk_lt' hb)).trans hb⟩
theorem AccR.base {lv esz:Nat} {H:Heap} {d:D} {ts:Rows} (h:AccR lv esz H d ts) {b o n:Nat} (e:d = .sl b o n):b < H.length:=by
 obtain ⟨rows,B,h1,h2,h3⟩:=h
 rcases h1.2 with ⟨-,f⟩ | ⟨-,b',f,hb⟩
 ·rw [e] at f; cases f
 ·rw [e] at f; cases f; exact getBlk_lt' hb
end Go.Ev.YtmpfooibdekppaaGreatDoor
namespace Go.Ev.YtmpfooibdekppaaGreatDoor
set_option linter.unusedVariables false
set_option linter.unusedSimpArgs false
set_option linter.unusedSectionVars false
set_option linter.defProp false
set_option maxHeartbeats 1000000
open Go.Ev
section
variable (succ:Nat→Int→Option (List (Nat×Int)))
inductive Reach:Nat→Int→Prop
 | start:Reach 0 0
 | step {k:Nat} {n:Int} {l:List (Nat×Int)} {j:Nat} {m:Int}:Reach k n→succ k n=some l→(j,m) ∈ l→Reach j m
def BadG:Prop:=(∃ k n,Reach succ k n∧succ k n=none)∨∃ k n m,Reach succ k n∧Reach succ k m∧n ≠ m
structure ClosedG (L:List Int):Prop where
 start:L[0]? = some 0
 next:∀ (k:Nat) (n:Int),L[k]? = some n→0≤n→∃ l,succ k n=some l∧∀ (j:Nat) (m:Int),(j,m) ∈ l→L[j]? = some m
 reach:∀ (k:Nat) (n:Int),L[k]? = some n→0≤n→Reach succ k n
 vals:∀ (k:Nat) (n:Int),L[k]? = some n→n = -1∨0≤n
def AnsG (N:Nat):Option (List Int)→Prop
 | none=>BadG succ
 | some L=>L.length=N∧ClosedG succ L
variable {succ}
variable (N:Nat) (hN:∀ k n l j m,succ k n=some l→(j,m) ∈ l→j < N∧0≤m) (h0:0 < N)
include hN h0 in
theorem Reach.rng {k:Nat} {n:Int} (h:Reach succ k n):k < N∧0≤n:=by
 cases h with
 | start=>exact ⟨h0,Int.le_refl 0⟩
 | step _ h2 h3=>exact hN _ _ _ _ _ h2 h3
include hN h0 in
theorem ClosedG.has {L:List Int} (c:ClosedG succ L) {k:Nat} {n:Int} (h:Reach succ k n):L[k]? = some n:=by
 induction h with
 | start=>exact c.start
 | step h1 h2 h3 ih=>
  obtain ⟨l,e,g⟩:=c.next _ _ ih (h1.rng N hN h0).2
  rw [h2] at e; cases e
  exact g _ _ h3
include hN h0 in
theorem ClosedG.not_bad {L:List Int} (c:ClosedG succ L):¬ BadG succ:=by
 rintro (⟨k,n,h1,h2⟩ | ⟨k,n,m,h1,h2,h3⟩)
 ·obtain ⟨l,e,-⟩:=c.next _ _ (c.has N hN h0 h1) (h1.rng N hN h0).2
  rw [h2] at e; cases e
 ·have a:=c.has N hN h0 h1
  rw [c.has N hN h0 h2] at a
  cases a; exact h3 rfl
include hN h0 in
theorem AnsG.unique {a b:Option (List Int)} (ha:AnsG succ N a) (hb:AnsG succ N b):a=b:=by
 cases a with
 | none=>cases b with
  | none=>rfl
  | some L=>exact absurd ha (hb.2.not_bad N hN h0)
 | some L=>cases b with
  | none=>exact absurd hb (ha.2.not_bad N hN h0)
  | some M=>
   congr 1
   have sym:∀ {L M:List Int},ClosedG succ L→ClosedG succ M→∀ {k:Nat} {n:Int},L[k]? = some n→0≤n→M[k]? = some n:=fun cl cm _ _ h1 h2=>cm.has N hN h0 (cl.reach _ _ h1 h2)
   apply List.ext_getElem (ha.1.trans hb.1.symm)
   intro k h1 h2
   have e1:=List.getElem?_eq_getElem h1
   have e2:=List.getElem?_eq_getElem h2
   rcases ha.2.vals _ _ e1 with v | v
   ·rcases hb.2.vals _ _ e2 with w | w
    ·omega
    ·have:=sym hb.2 ha.2 e2 w
     rw [e1] at this; exact Option.some.inj this
   ·have:=sym ha.2 hb.2 e1 v
    rw [e2] at this; exact (Option.some.inj this).symm
variable (succ)
def dfs (st:List (Nat×Int)) (L:List Int):Option (List Int):=
 match st with
 | []=>some L
 | (k,n) :: rest=>
  if h:k < L.length then
   if hv:0≤L[k] then (if L[k]=n then dfs rest L else none)
   else match succ k n with
    | none=>none
    | some l=>if hn:0≤n then dfs (l++rest) (L.set k n) else none
  else none
termination_by (L.countP (fun x=>decide (x < 0)),st.length)
decreasing_by
 ·apply Prod.Lex.right; simp
 ·apply Prod.Lex.left
  rw [List.countP_set h]
  have:0 < L.countP (fun x=>decide (x < 0)):=List.countP_pos_iff.mpr ⟨L[k],List.getElem_mem h,by simpa using hv⟩
  rw [if_pos (by simpa using hv),if_neg (by simpa using hn)]
  omega
structure WayG (N:Nat) (st:List (Nat×Int)) (L:List Int):Prop where
 len:L.length=N
 start:L[0]? = some 0∨(0,0) ∈ st
 next:∀ (k:Nat) (n:Int),L[k]? = some n→0≤n→∃ l,succ k n=some l∧∀ (j:Nat) (m:Int),(j,m) ∈ l→L[j]? = some m∨(j,m) ∈ st
 reach:∀ (k:Nat) (n:Int),L[k]? = some n→0≤n→Reach succ k n
 vals:∀ (k:Nat) (n:Int),L[k]? = some n→n = -1∨0≤n
 pend:∀ (k:Nat) (n:Int),(k,n) ∈ st→Reach succ k n
include hN h0 in
theorem dfs_ans:∀ (st:List (Nat×Int)) (L:List Int),WayG succ N st L→AnsG succ N (dfs succ st L):=by
 intro st L
 induction st,L using dfs.induct (succ:=succ) with
 | case1 L=>intro w; rw [dfs]; exact ⟨w.len,by simpa using w.start,fun k n h1 h2=>by simpa using w.next k n h1 h2,w.reach,w.vals⟩
 | case2 L k st h hv ih=>
  intro w
  rw [dfs,dif_pos h,dif_pos hv,if_pos rfl]
  have e:=List.getElem?_eq_getElem h
  have drop:∀ (j:Nat) (m:Int),(j,m) ∈ (k,L[k]) :: st→L[j]? = some m∨(j,m) ∈ st:=by
   intro j m hm
   rcases List.mem_cons.mp hm with q | q
   ·cases q; exact .inl e
   ·exact .inr q
  refine ih ⟨w.len,w.start.elim .inl (drop _ _),fun k n h1 h2=>?_,w.reach,w.vals,fun k n hm=>w.pend k n (List.mem_cons_of_mem _ hm)⟩
  obtain ⟨l,a,b⟩:=w.next k n h1 h2
  exact ⟨l,a,fun j m hm=>(b j m hm).elim .inl (drop _ _)⟩
 | case3 L k n st h hv hn=>
  intro w
  rw [dfs,dif_pos h,dif_pos hv,if_neg hn]
  exact .inr ⟨k,L[k],n,w.reach _ _ (List.getElem?_eq_getElem h) hv,w.pend _ _ (by simp),hn⟩
 | case4 L k n st h hv hs=>
  intro w
  rw [dfs,dif_pos h,dif_neg hv,hs]
  exact .inl ⟨k,n,w.pend _ _ (by simp),hs⟩
 | case5 L k n st h hv l hs hn ih=>
  intro w
  rw [dfs,dif_pos h,dif_neg hv,hs]
  simp only [dif_pos hn]
  have old:∀ (j:Nat) (m:Int),L[j]? = some m→0≤m→(L.set k n)[j]? = some m:=by
   intro j m h1 h2
   rw [List.getElem?_set_ne]; exact h1
   rintro rfl
   rw [List.getElem?_eq_getElem h] at h1; cases h1; exact hv h2
  have new:∀ (j:Nat) (m:Int),(L.set k n)[j]? = some m→(j=k∧m=n)∨L[j]? = some m:=by
   intro j m h1
   by_cases e:k=j
   ·subst e; rw [List.getElem?_set_self h] at h1; cases h1; exact .inl ⟨rfl,rfl⟩
   ·rw [List.getElem?_set_ne e] at h1; exact .inr h1
  have self:(L.set k n)[k]? = some n:=List.getElem?_set_self h
  have move:∀ (j:Nat) (m:Int),(j,m) ∈ (k,n) :: st→(L.set k n)[j]? = some m∨(j,m) ∈ l++st:=by
   intro j m hm
   rcases List.mem_cons.mp hm with q | q
   ·cases q; exact .inl self
   ·exact .inr (List.mem_append_right _ q)
  have hr:=w.pend k n (by simp)
  refine ih ⟨by simpa using w.len,w.start.elim (fun q=>.inl (old _ _ q (Int.le_refl 0))) (move _ _),fun j m h1 h2=>?_,fun j m h1 h2=>?_,fun j m h1=>?_,fun j m hm=>?_⟩
  ·rcases new j m h1 with ⟨rfl,rfl⟩ | q
   ·exact ⟨l,hs,fun a b hm=>.inr (List.mem_append_left _ hm)⟩
   ·obtain ⟨l',a,b⟩:=w.next j m q h2
    refine ⟨l',a,fun x y hm=>(b x y hm).elim (fun q=>.inl (old _ _ q (hN _ _ _ _ _ a hm).2)) (move _ _)⟩
  ·rcases new j m h1 with ⟨rfl,rfl⟩ | q
   ·exact hr
   ·exact w.reach j m q h2
  ·rcases new j m h1 with ⟨rfl,rfl⟩ | q
   ·exact .inr hn
   ·exact w.vals j m q
  ·rcases List.mem_append.mp hm with q | q
   ·exact hr.step hs q
   ·exact w.pend j m (List.mem_cons_of_mem _ q)
 | case6 L k n st h hv l hs hn=>
  intro w
  exact absurd ((w.pend k n (by simp)).rng N hN h0).2 hn
 | case7 L k n st h=>
  intro w
  exact absurd ((w.pend k n (by simp)).rng N hN h0).1 (by rw [← w.len]; exact h)
def markG (L:List Int):List (Nat×Int)→Option (List Int)
 | []=>some L
 | (j,m) :: l=>if (L[j]?).all (fun v=>decide (v < 0) || decide (v=m))=true then markG (L.set j m) l else none
def visitG (k:Nat) (s:List Int×List Bool×Bool):Option (List Int×List Bool×Bool):=
 match s.1[k]?,s.2.1[k]? with
 | some n,some d=>if n < 0∨d=true then some s else (succ k n).bind fun l=>(markG s.1 l).map fun L=>(L,s.2.1.set k true,true)
 | _,_=>none
def roundG:List Nat→List Int×List Bool×Bool→Option (List Int×List Bool×Bool)
 | [],s=>some s
 | k :: l,s=>(visitG succ k s).bind (roundG l)
def roundsG (N:Nat):Nat→List Int→List Bool→Option (List Int)
 | 0,_,_=>none
 | f + 1,L,D=>(roundG succ (List.range N) (L,D,false)).bind fun s=>if s.2.2=true then roundsG N f s.1 s.2.1 else some s.1
structure RndG (N:Nat) (L:List Int) (D:List Bool):Prop where
 len:L.length=N
 dlen:D.length=N
 start:L[0]? = some 0
 reach:∀ (k:Nat) (n:Int),L[k]? = some n→0≤n→Reach succ k n
 vals:∀ (k:Nat) (n:Int),L[k]? = some n→n = -1∨0≤n
 done:∀ (k:Nat) (n:Int),L[k]? = some n→D[k]? = some true→0≤n∧∃ l,succ k n=some l∧∀ (j:Nat) (m:Int),(j,m) ∈ l→L[j]? = some m
theorem markG_spec:∀ (l:List (Nat×Int)) (L:List Int),(∀ j m,(j,m) ∈ l→j < L.length∧0≤m∧Reach succ j m)→(∀ (k:Nat) (n:Int),L[k]? = some n→0≤n→Reach succ k n) →
  (markG L l=none∧BadG succ)∨∃ M,markG L l=some M∧M.length=L.length∧(∀ (j:Nat) (m:Int),(j,m) ∈ l→M[j]? = some m)∧(∀ (j:Nat) (m:Int),L[j]? = some m→0≤m→M[j]? = some m)∧∀ (j:Nat) (m:Int),M[j]? = some m→L[j]? = some m∨(j,m) ∈ l
 | [],L,_,_=>.inr ⟨L,rfl,rfl,fun j m h=>(nomatch h),fun j m h _=>h,fun j m h=>.inl h⟩
 | (j,m) :: l,L,hl,hr=>by
  obtain ⟨h1,h2,h3⟩:=hl j m (by simp)
  have e:=List.getElem?_eq_getElem h1
  rw [markG,e]
  simp only [Option.all_some,Bool.or_eq_true,decide_eq_true_eq]
  by_cases c:L[j] < 0∨L[j]=m
  ·rw [if_pos c]
   have self:(L.set j m)[j]? = some m:=List.getElem?_set_self h1
   have old:∀ (x:Nat) (y:Int),L[x]? = some y→0≤y→(L.set j m)[x]? = some y:=by
    intro x y hx hy
    by_cases q:j=x
    ·subst q
     rw [self]
     rw [e] at hx; cases hx
     rcases c with c | c
     ·omega
     ·rw [c]
    ·rw [List.getElem?_set_ne q]; exact hx
   have new:∀ (x:Nat) (y:Int),(L.set j m)[x]? = some y→(x=j∧y=m)∨L[x]? = some y:=by
    intro x y hx
    by_cases q:j=x
    ·subst q; rw [self] at hx; cases hx; exact .inl ⟨rfl,rfl⟩
    ·rw [List.getElem?_set_ne q] at hx; exact .inr hx
   rcases markG_spec l (L.set j m) (fun x y hm=>by have:=hl x y (by simp [hm]); simpa using this) (fun x y hx hy=>by
    rcases new x y hx with ⟨rfl,rfl⟩ | q
    ·exact h3
    ·exact hr x y q hy) with q | ⟨M,a1,a2,a3,a4,a5⟩
   ·exact .inl q
   ·refine .inr ⟨M,a1,by simpa using a2,fun x y hm=>?_,fun x y hx hy=>a4 x y (old x y hx hy) hy,fun x y hx=>?_⟩
    ·rcases List.mem_cons.mp hm with q | q
     ·cases q; exact a4 _ _ self h2
     ·exact a3 x y q
    ·rcases a5 x y hx with q | q
     ·rcases new x y q with ⟨rfl,rfl⟩ | q
      ·exact .inr (by simp)
      ·exact .inl q
     ·exact .inr (by simp [q])
  ·rw [if_neg c]
   refine .inl ⟨rfl,.inr ⟨j,L[j],m,hr j _ e (by omega),h3,fun q=>c (.inr q)⟩⟩
include hN in
theorem visitG_spec {k:Nat} (hk:k < N) {L:List Int} {D:List Bool} {b:Bool} (w:RndG succ N L D) :
  (visitG succ k (L,D,b)=none∧BadG succ)∨∃ M E c,visitG succ k (L,D,b)=some (M,E,c)∧RndG succ N M E ∧
   ((M=L∧E=D∧c=b∧∀ n,L[k]? = some n→0≤n→D[k]? = some true)∨(c=true∧E.countP (fun x=>!x) < D.countP (fun x=>!x))):=by
 have h1:k < L.length:=by rw [w.len]; exact hk
 have h2:k < D.length:=by rw [w.dlen]; exact hk
 have e1:=List.getElem?_eq_getElem h1
 have e2:=List.getElem?_eq_getElem h2
 simp only [visitG,e1,e2]
 by_cases c:L[k] < 0∨D[k]=true
 ·rw [if_pos c]
  refine .inr ⟨L,D,b,rfl,w,.inl ⟨rfl,rfl,rfl,fun n hn h0=>?_⟩⟩
  cases hn
  rcases c with c | c
  ·omega
  ·rw [c]
 ·rw [if_neg c]
  have c1:0≤L[k]:=by omega
  have c2:D[k]=false:=by cases h:D[k] <;> simp_all
  have hr:=w.reach k _ e1 c1
  cases hs:succ k L[k] with
  | none=>exact .inl ⟨rfl,.inl ⟨k,_,hr,hs⟩⟩
  | some l=>
   simp only [Option.bind_some]
   rcases markG_spec l L (succ:=succ) (fun j m hm=>⟨by rw [w.len]; exact (hN _ _ _ _ _ hs hm).1,(hN _ _ _ _ _ hs hm).2,hr.step hs hm⟩) w.reach with ⟨q,bad⟩ | ⟨M,a1,a2,a3,a4,a5⟩
   ·exact .inl ⟨by rw [q]; rfl,bad⟩
   ·rw [a1]
    refine .inr ⟨M,D.set k true,true,rfl,⟨a2.trans w.len,by simpa using w.dlen,a4 _ _ w.start (Int.le_refl 0),fun x y hx hy=>?_,fun x y hx=>?_,fun x y hx hd=>?_⟩,.inr ⟨rfl,?_⟩⟩
    ·rcases a5 x y hx with q | q
     ·exact w.reach x y q hy
     ·exact hr.step hs q
    ·rcases a5 x y hx with q | q
     ·exact w.vals x y q
     ·exact .inr (hN _ _ _ _ _ hs q).2
    ·by_cases q:k=x
     ·subst q
      rw [a4 _ _ e1 c1] at hx
      cases hx
      exact ⟨c1,l,hs,a3⟩
     ·rw [List.getElem?_set_ne q] at hd
      have hx0:x < L.length:=by
       have:=(List.getElem?_eq_some_iff.mp hd).1
       rw [w.len,← w.dlen]; exact this
      obtain ⟨v1,l',v2,v3⟩:=w.done x _ (List.getElem?_eq_getElem hx0) hd
      have:=a4 _ _ (List.getElem?_eq_getElem hx0) v1
      rw [this] at hx; cases hx
      exact ⟨v1,l',v2,fun j m hm=>a4 j m (v3 j m hm) (hN _ _ _ _ _ v2 hm).2⟩
    ·rw [List.countP_set h2]
     have:0 < D.countP (fun x=>!x):=List.countP_pos_iff.mpr ⟨D[k],List.getElem_mem h2,by simp [c2]⟩
     simp only [c2,Bool.not_false,if_true,Bool.not_true]
     simp
     omega
include hN in
theorem roundG_spec:∀ (ks:List Nat) (L:List Int) (D:List Bool) (b:Bool),(∀ k ∈ ks,k < N)→RndG succ N L D →
  (roundG succ ks (L,D,b)=none∧BadG succ)∨∃ M E c,roundG succ ks (L,D,b)=some (M,E,c)∧RndG succ N M E ∧
   ((M=L∧E=D∧c=b∧∀ k ∈ ks,∀ n,L[k]? = some n→0≤n→D[k]? = some true)∨(c=true∧E.countP (fun x=>!x) < D.countP (fun x=>!x)))
 | [],L,D,b,_,w=>.inr ⟨L,D,b,rfl,w,.inl ⟨rfl,rfl,rfl,fun k hk=>by cases hk⟩⟩
 | k :: ks,L,D,b,hk,w=>by
  rw [roundG]
  rcases visitG_spec succ N hN (hk k (by simp)) w (b:=b) with ⟨q,bad⟩ | ⟨M,E,c,a1,a2,a3⟩
  ·exact .inl ⟨by rw [q]; rfl,bad⟩
  ·rw [a1]
   simp only [Option.bind_some]
   rcases roundG_spec ks M E c (fun x hx=>hk x (by simp [hx])) a2 with q | ⟨M',E',c',b1,b2,b3⟩
   ·exact .inl q
   ·refine .inr ⟨M',E',c',b1,b2,?_⟩
    rcases a3 with ⟨rfl,rfl,rfl,a3⟩ | ⟨rfl,a3⟩
    ·rcases b3 with ⟨rfl,rfl,rfl,b3⟩ | b3
     ·refine .inl ⟨rfl,rfl,rfl,fun x hx n h1 h2=>?_⟩
      rcases List.mem_cons.mp hx with rfl | hx
      ·exact a3 n h1 h2
      ·exact b3 x hx n h1 h2
     ·exact .inr b3
    ·rcases b3 with ⟨rfl,rfl,rfl,b3⟩ | ⟨rfl,b3⟩
     ·exact .inr ⟨rfl,a3⟩
     ·exact .inr ⟨rfl,by omega⟩
include hN in
theorem roundsG_ans:∀ (f:Nat) (L:List Int) (D:List Bool),RndG succ N L D→D.countP (fun x=>!x) < f→AnsG succ N (roundsG succ N f L D)
 | 0,_,_,_,h=>by omega
 | f + 1,L,D,w,h=>by
  rw [roundsG]
  rcases roundG_spec succ N hN (List.range N) L D false (fun k hk=>List.mem_range.mp hk) w with ⟨q,bad⟩ | ⟨M,E,c,a1,a2,a3⟩
  ·rw [q]; exact bad
  ·rw [a1]
   simp only [Option.bind_some]
   rcases a3 with ⟨rfl,rfl,rfl,a3⟩ | ⟨rfl,a3⟩
   ·rw [if_neg (by simp)]
    refine ⟨w.len,w.start,fun k n h1 h2=>?_,w.reach,w.vals⟩
    have hk:k < N:=by rw [← w.len]; exact (List.getElem?_eq_some_iff.mp h1).1
    exact (w.done k n h1 (a3 k (List.mem_range.mpr hk) n h1 h2)).2
   ·rw [if_pos rfl]
    exact roundsG_ans f M E a2 (by omega)
end
end Go.Ev.YtmpfooibdekppaaGreatDoor
namespace Go.Ev.YtmpfooibdekppaaGreatDoor
set_option linter.unusedVariables false
set_option linter.unusedSimpArgs false
set_option linter.unusedSectionVars false
set_option linter.defProp false
set_option maxHeartbeats 1000000
open Go.Ev
theorem AnsG.congr {s t:Nat→Int→Option (List (Nat×Int))} (h:∀ k n,(s k n=none↔t k n=none)∧∀ l,s k n=some l→∃ l',t k n=some l'∧∀ x,x ∈ l↔x ∈ l') {N:Nat} {r:Option (List Int)} (ha:AnsG s N r):AnsG t N r:=by
 have h':∀ k n l,t k n=some l→∃ l',s k n=some l'∧∀ x,x ∈ l↔x ∈ l':=by
  intro k n l e
  cases hs:s k n with
  | none=>rw [(h k n).1.mp hs] at e; cases e
  | some l'=>
   obtain ⟨l'', e1, e2⟩ := (h k n).2 _ hs
   rw [e] at e1; cases e1
   exact ⟨l',rfl,fun x=>(e2 x).symm⟩
 have R:∀ k n,Reach s k n→Reach t k n:=by
  intro k n r
  induction r with
  | start=>exact .start
  | step _ h2 h3 ih=>
   obtain ⟨l',e1,e2⟩:=(h _ _).2 _ h2
   exact ih.step e1 ((e2 _).mp h3)
 cases r with
 | none=>
  rcases ha with ⟨k,n,h1,h2⟩ | ⟨k,n,m,h1,h2,h3⟩
  ·exact .inl ⟨k,n,R _ _ h1,(h k n).1.mp h2⟩
  ·exact .inr ⟨k,n,m,R _ _ h1,R _ _ h2,h3⟩
 | some L=>
  refine ⟨ha.1,ha.2.start,fun k n e1 e2=>?_,fun k n e1 e2=>R _ _ (ha.2.reach k n e1 e2),ha.2.vals⟩
  obtain ⟨l,g1,g2⟩:=ha.2.next k n e1 e2
  obtain ⟨l',e3,e4⟩:=(h k n).2 _ g1
  exact ⟨l',e3,fun j m hm=>g2 j m ((e4 _).mpr hm)⟩
end Go.Ev.YtmpfooibdekppaaGreatDoor
namespace Go.Ev.YtmpfooibdekppaaGreatDoor
set_option linter.unusedVariables false
set_option linter.unusedSimpArgs false
set_option linter.unusedSectionVars false
set_option linter.defProp false
set_option maxHeartbeats 1000000
open Go.Ev
end Go.Ev.YtmpfooibdekppaaGreatDoor
namespace Go.Ev.YtmpfooibdekppaaGreatDoor
set_option linter.unusedVariables false
set_option linter.unusedSimpArgs false
set_option linter.unusedSectionVars false
set_option linter.defProp false
set_option maxHeartbeats 1000000
open Go.Ev
def clsS:List UInt8:=[99,108,97,115,115,32]
def pairS:List UInt8:=[112,97,105,114,32]
def spS:List UInt8:=[32]
def decM (n:Int):List UInt8:=[(48 + n).toNat.toUInt8]
def refM (p:List SConst) (i:Int):List UInt8:=classM p (cAt p i).A++spS++textM p (cAt p (cAt p i).B).A++spS++textM p (cAt p (cAt p i).B).B
def saysM (p:List SConst) (i:Int):List UInt8:=
 if (cAt p i).Kind=1 then (cAt p i).Text
 else if (cAt p i).Kind=2 then clsS++classM p i
 else if (cAt p i).Kind=3 then pairS++textM p (cAt p i).A++spS++textM p (cAt p i).B
 else decM (cAt p i).Kind++spS++refM p i
def packText (c:SClass) (i:Int):List UInt8:=if classCheck c=0∧inR i 1 c.Pool.length=true then saysM c.Pool i else []
theorem classM_len {p:List SConst} (w:PoolOk p) (i:Int):(classM p i).length≤140737488351232:=by
 unfold classM; split
 ·exact (cAt_wf w _).2.1
 ·simp
theorem entry_kind {p:List SConst} {x:SConst} (h:entryM p x=true):x.Kind=1∨x.Kind=2∨x.Kind=3∨x.Kind=4∨x.Kind=5∨x.Kind=6:=by
 unfold entryM at h
 repeat' split at h
 all_goals first | omega | (cases h; done)
theorem Fine.kind {p:List SConst} (h:Fine p) {i:Int} (hi:inR i 1 p.length=true):(cAt p i).Kind=1∨(cAt p i).Kind=2∨(cAt p i).Kind=3∨(cAt p i).Kind=4∨(cAt p i).Kind=5∨(cAt p i).Kind=6:=by
 simp only [inR,Bool.and_eq_true,decide_eq_true_eq] at hi
 have hl:(i - 1).toNat < p.length:=by omega
 have hm:cAt p i ∈ p:=by
  unfold cAt
  rw [if_pos hi,List.getElem?_eq_getElem hl]
  exact List.getElem_mem hl
 exact entry_kind (h.fine _ hm)
theorem nameAt_nm {p:List SConst} {i:Int} {q:List UInt8→Bool} (h:nameAtM p i q=true):nmM p i=textM p i:=by
 simp only [nameAtM,Bool.and_eq_true,decide_eq_true_eq] at h
 exact nm_name h.1
theorem Fine.pair {p:List SConst} (h:Fine p) {i:Int} (hk:(cAt p i).Kind=3):nmM p (cAt p i).A=textM p (cAt p i).A∧nmM p (cAt p i).B=textM p (cAt p i).B:=by
 rcases cAt_mem p i with hm | he
 ·have:=h.fine _ hm
  simp only [entryM,hk,show ¬ (3:Int)=1 by decide,show ¬ (3:Int)=2 by decide,if_false,if_true,Bool.and_eq_true] at this
  exact ⟨nameAt_nm this.2.1,nameAt_nm this.2.2⟩
 ·rw [he] at hk; cases hk
theorem Fine.member {p:List SConst} (h:Fine p) {i:Int} (hk:(cAt p i).Kind=4∨(cAt p i).Kind=5∨(cAt p i).Kind=6) :
  nmM p (cAt p i).A=classM p (cAt p i).A∧nmM p (cAt p (cAt p i).B).A=textM p (cAt p (cAt p i).B).A∧nmM p (cAt p (cAt p i).B).B=textM p (cAt p (cAt p i).B).B:=by
 have key:∃ q,memberM p (cAt p i) q=true:=by
  rcases cAt_mem p i with hm | he
  ·have:=h.fine _ hm
   rcases hk with hk | hk | hk
   ·exact ⟨typeOk,by simpa [entryM,hk] using this⟩
   ·exact ⟨isDescM,by simpa [entryM,hk] using this⟩
   ·exact ⟨isDescM,by simpa [entryM,hk] using this⟩
  ·rw [he] at hk; simp at hk
 obtain ⟨q,hq⟩:=key
 simp only [memberM,Bool.and_eq_true,decide_eq_true_eq] at hq
 exact ⟨nm_class hq.2.1,h.pair hq.2.2.1⟩
theorem c91 (c:SClass) (w:PoolOk c.Pool) (i:Int) (wi:i64 i):run E (exec E) false 91 [c.d,.int .i64 i]=some (.tup [.str (nmM c.Pool (cAt c.Pool i).A),.str (nmM c.Pool (cAt c.Pool (cAt c.Pool i).B).A),.str (nmM c.Pool (cAt c.Pool (cAt c.Pool i).B).B)]):=by
 have h1:=cAt_wf w i
 have h2:=cAt_wf w (cAt c.Pool i).B
 refine run_fst (fun l H=>by simp [readA_int,readA_bool,readA_str,readA_list,readA_sl0,readA_sl,readA_agg,readA_tup,readT_tup]) ?_
 rw [e91]
 simp only [SIMP,SClass.simps,SConst.simps,c88 _ w i wi,c88 _ w _ h1.2.2.2,c46 c w _ h1.2.2.1,c46 c w _ h2.2.2.1,c46 c w _ h2.2.2.2]
theorem c48 (c:SClass) (h:Fine c.Pool) (i:Int) (wi:i64 i) (hk:(cAt c.Pool i).Kind=4∨(cAt c.Pool i).Kind=5∨(cAt c.Pool i).Kind=6):run E (exec E) false 48 [c.d,.int .i64 i]=some (.str (refM c.Pool i)):=by
 obtain ⟨n1,n2,n3⟩:=h.member hk
 have l1:=classM_len h.ok (cAt c.Pool i).A
 have l2:=textM_len h.ok (cAt c.Pool (cAt c.Pool i).B).A
 have l3:=textM_len h.ok (cAt c.Pool (cAt c.Pool i).B).B
 apply run_str
 rw [e48]
 simp only [SIMP,SClass.simps,c91 c h.ok i wi,n1,n2,n3]
 unfold refM spS
 generalize classM c.Pool (cAt c.Pool i).A=a at *
 generalize textM c.Pool (cAt c.Pool (cAt c.Pool i).B).A=b at *
 generalize textM c.Pool (cAt c.Pool (cAt c.Pool i).B).B=d at *
 rw [bS_add _ _ (by simp; omega)]
 simp only [SIMP]
 rw [bS_add _ _ (by simp; omega)]
 simp only [SIMP]
 rw [bS_add _ _ (by simp; omega)]
 simp only [SIMP]
 rw [bS_add _ _ (by simp; omega)]
 simp only [SIMP]
def kind46 (n:Int):Prop:=n=4∨n=5∨n=6
theorem c184 (n:Int) (h:kind46 n):run E (exec E) false 184 [.int .i64 n]=some (.str (decM n)):=by
 rcases h with rfl | rfl | rfl <;> (rw [run_ent,e184]; rfl)
theorem c174 (n:Int) (h:kind46 n):run E (exec E) false 174 [.int .i64 n,.int .i64 10]=some (.str (decM n)):=by
 have hs:=c184 n h
 apply run_str
 rw [e174]
 rcases h with rfl | rfl | rfl <;> simp [readA_int,readA_bool,readA_str,readA_list,readA_sl0,readA_sl,readA_agg,readA_tup,call_pure,hs,fst_some]
theorem c144 (n:Int) (h:kind46 n):run E (exec E) false 144 [.int .i64 n]=some (.str (decM n)):=by
 apply run_str
 rw [e144]
 simp only [SIMP,c174 n h]
theorem c90 (n:Int) (h:kind46 n):run E (exec E) false 90 [.int .i64 n]=some (.str (decM n)):=by
 apply run_str
 rw [e90]
 simp only [SIMP,c144 n h]
theorem c47 (n:Int) (h:kind46 n):run E (exec E) false 47 [.int .i64 n]=some (.str (decM n)):=by
 apply run_str
 rw [e47]
 simp only [SIMP,c90 n h]
theorem c35 (n:Int) (h:kind46 n):run E (exec E) false 35 [.int .i64 n]=some (.str (decM n)):=by
 rcases h with rfl | rfl | rfl <;> (rw [run_ent,e35]; rfl)
theorem decM_len {n:Int}:(decM n).length=1:=rfl
theorem cAt_in {p:List SConst} {i:Int} (hi:inR i 1 p.length=true):∃ k:Nat,∃ h:k < p.length,i=(k:Int) + 1∧cAt p i=p[k]:=by
 simp only [inR,Bool.and_eq_true,decide_eq_true_eq] at hi
 obtain ⟨k,rfl⟩:∃ k:Nat,i=(k:Int) + 1:=⟨(i - 1).toNat,by omega⟩
 exact ⟨k,by omega,rfl,cAt_get (by omega)⟩
theorem c22 (c:SClass) (h:Fine c.Pool) (i:Int) (hi:inR i 1 c.Pool.length=true):run E (exec E) false 22 [c.d,.int .i64 i]=some (.str (saysM c.Pool i)):=by
 have hk:=h.kind hi
 have w:=h.ok
 have hw:=cAt_wf w i
 have hl:=w.1
 obtain ⟨k,hkl,hik,hx⟩:=cAt_in hi
 have wi:i64 i:=by rw [hik]; exact ⟨by omega,by omega⟩
 have l1:=(cAt_wf w i).2.1
 have l2:=textM_len w (cAt c.Pool i).A
 have l3:=textM_len w (cAt c.Pool i).B
 have l4:=classM_len w i
 have l5:(refM c.Pool i).length≤3 * 140737488351232 + 2:=by
  have a:=classM_len w (cAt c.Pool i).A
  have b:=textM_len w (cAt c.Pool (cAt c.Pool i).B).A
  have d:=textM_len w (cAt c.Pool (cAt c.Pool i).B).B
  simp [refM,spS]; omega
 have hia:=fun H=>ia_nat (row:=SConst.row) SConst.len (H:=H) hkl
 have hsub:bI .sub (.int .i64 i) (.int .i64 1)=some (.int .i64 (k:Int)):=by
  rw [bI_sub,wrap_i64 (by omega) (by omega)]; congr 2; omega
 have hn:=c46 c w i wi
 have hnA:=c46 c w _ hw.2.2.1
 have hnB:=c46 c w _ hw.2.2.2
 apply run_str
 rw [e22]
 unfold saysM
 have hT:(cAt c.Pool i).Kind=4∨(cAt c.Pool i).Kind=5∨(cAt c.Pool i).Kind=6→run E (exec E) false 48 [c.d,.int .i64 i]=some (.str (refM c.Pool i)):=c48 c h i wi
 have h2:(cAt c.Pool i).Kind=2→nmM c.Pool i=classM c.Pool i:=fun q=>nm_class (h.class q)
 have h3:(cAt c.Pool i).Kind=3→nmM c.Pool (cAt c.Pool i).A=textM c.Pool (cAt c.Pool i).A∧nmM c.Pool (cAt c.Pool i).B=textM c.Pool (cAt c.Pool i).B:=h.pair
 simp only [SIMP,SClass.simps,hsub,hia,← hx]
 generalize cAt c.Pool i=x at *
 simp only [SIMP,SClass.simps,SConst.simps,hn,hnA,hnB]
 rcases hk with k1 | k1 | k1 | k1
 ·simp only [k1,SIMP,if_true]
 ·rw [h2 k1]
  simp (disch:=(simp only [List.length_append,List.length_cons,List.length_nil]; omega)) only [k1,SIMP,bS_add]
  simp [clsS]
 ·rw [(h3 k1).1,(h3 k1).2]
  simp (disch:=(simp only [List.length_append,List.length_cons,List.length_nil]; omega)) only [k1,SIMP,bS_add]
  simp [pairS,spS]
 ·have hd:=c47 x.Kind k1
  have hT:=hT k1
  have ne:¬ x.Kind=1∧¬ x.Kind=2∧¬ x.Kind=3:=by omega
  have dl:(decM x.Kind).length=1:=decM_len
  simp (disch:=(simp only [List.length_append,List.length_cons,List.length_nil]; omega)) only [ne.1,ne.2.1,ne.2.2,hd,hT,SIMP,SClass.simps,bS_add]
  simp [spS]
theorem c15 (c:SClass) (h:Fine c.Pool) (i:Int) (hi:inR i 1 c.Pool.length=true):run E (exec E) false 15 [.list (c.Pool.map SConst.row),.int .i64 i]=some (.str (saysM c.Pool i)):=by
 have hk:=h.kind hi
 have w:=h.ok
 have hw:=cAt_wf w i
 have hl:=w.1
 have wi:i64 i:=by
  simp only [inR,Bool.and_eq_true,decide_eq_true_eq] at hi
  exact ⟨by omega,by omega⟩
 have l1:=(cAt_wf w i).2.1
 have l2:=textM_len w (cAt c.Pool i).A
 have l3:=textM_len w (cAt c.Pool i).B
 have l4:=classM_len w i
 have a1:=classM_len w (cAt c.Pool i).A
 have a2:=textM_len w (cAt c.Pool (cAt c.Pool i).B).A
 have a3:=textM_len w (cAt c.Pool (cAt c.Pool i).B).B
 apply run_str
 rw [e15]
 unfold saysM refM
 simp only [SIMP,SConst.simps,c31 c.Pool w i wi,c32 c.Pool w i wi,c34 c.Pool w i wi,c33 c.Pool w _ hw.2.2.1,c33 c.Pool w _ hw.2.2.2]
 generalize cAt c.Pool i=x at *
 rcases hk with k1 | k1 | k1 | k1
 ·simp only [k1,SIMP,if_true]
 ·simp (disch:=(simp only [List.length_append,List.length_cons,List.length_nil]; omega)) only [k1,SIMP,bS_add]
  simp [clsS]
 ·simp (disch:=(simp only [List.length_append,List.length_cons,List.length_nil]; omega)) only [k1,SIMP,bS_add]
  simp [pairS,spS]
 ·have hd:=c35 x.Kind k1
  have ne:¬ x.Kind=1∧¬ x.Kind=2∧¬ x.Kind=3:=by omega
  have dl:(decM x.Kind).length=1:=decM_len
  simp (disch:=(simp only [List.length_append,List.length_cons,List.length_nil]; omega)) only [ne.1,ne.2.1,ne.2.2,hd,SIMP,bS_add]
  simp [spS]
theorem classCheck_fine {c:SClass} (w:c.wf) (h:classCheck c=0):Fine c.Pool:=by
 unfold classCheck checkM at h
 split at h
 ·cases h
 ·split at h
  ·cases h
  ·rename_i h1 h2
   exact fine_of w (Decidable.not_not.mp h2)
theorem c7 (c:SClass) (w:c.wf) (hM:(pClass pTwo isAbs c).length≤4611686018427387904) (i:Int):run E (exec E) false 7 [c.d,.int .i64 i]=some (.str (packText c i)):=by
 apply run_str
 rw [e7]
 simp only [SIMP,SClass.simps,c20 c w hM,c21,packText]
 by_cases h:classCheck c=0
 ·by_cases h2:inR i 1 c.Pool.length=true
  ·simp only [SIMP,h,h2,c22 c (classCheck_fine w h) i h2,and_self,if_true]
  ·simp only [Bool.not_eq_true] at h2
   simp only [SIMP,h,h2,and_false,Bool.false_eq_true,if_false]
 ·simp only [SIMP,h,false_and,if_false]
theorem c5 (c:SClass) (w:c.wf) (hM:(pClass pTwo' isAbs' c).length≤4611686018427387904) (i:Int):run E (exec E) false 5 [c.d,.int .i64 i]=some (.str (packText c i)):=by
 apply run_str
 rw [e5]
 simp only [SIMP,SClass.simps,c13 c w hM,c14,packText]
 by_cases h:classCheck c=0
 ·by_cases h2:inR i 1 c.Pool.length=true
  ·simp only [SIMP,h,h2,c15 c (classCheck_fine w h) i h2,and_self,if_true]
  ·simp only [Bool.not_eq_true] at h2
   simp only [SIMP,h,h2,and_false,Bool.false_eq_true,if_false]
 ·simp only [SIMP,h,false_and,if_false]
end Go.Ev.YtmpfooibdekppaaGreatDoor
namespace Go.Ev.YtmpfooibdekppaaGreatDoor
set_option linter.unusedVariables false
set_option linter.unusedSimpArgs false
set_option linter.unusedSectionVars false
set_option linter.defProp false
set_option maxHeartbeats 1000000
open Go.Ev
theorem c3 (c:SClass) (i:Int) (w:c.wf) (wi:i64 i):run E (exec E) true 3 [c.d,.int .i64 i]=some (.bool true):=by
 rw [run_ent,e3]
 have L0:Lv [] [] []:=Lv.nil []
 obtain ⟨H1,p1,q1,L1⟩:=L0.param c.row rfl
 rw [show D.cells c.d=c.row from rfl,q1]
 have l1_p1:ld true 7 H1 (.ptr p1 0 0)=some (c.d):=L1.ld (.head _) (rfl)
 try simp only [l1_p1,Option.bind_some]
 rw [pure_call (ds:=[c.d,.int .i64 ((1048576:Int))]) (by simp only [readA_int,readA_bool,readA_str,readA_list,readA_sl0,readA_sl,readA_agg,readA_tup,optAll_cons,optAll_nil,readT_int,readT_list9,SClass.readD,Option.bind_some]) (c4 c ((1048576:Int)) w (by omega) (by omega))]
 simp only [Option.bind_some,bI_lss,asB_bool]
 by_cases gsc:¬ ((c.sz:Nat):Int)≤(1048576:Int)
 ·rw [szR_neg gsc]; simp
 have gsc:=Decidable.not_not.mp gsc
 rw [szR_pos gsc]
 simp only [show ¬ (1048576:Int) - ((c.sz:Nat):Int) < 0 by omega,decide_false,cond_false]
 have hfit:c.fit:=by
  obtain ⟨⟨w1,-⟩,-,-,-,⟨w2,-⟩,⟨w3,-⟩,⟨w4,w5⟩⟩:=w
  exact ⟨w1,w2,w3,w4,fun z hz=>⟨(w5 z hz).2.2.2.2.2.2.1.1,(w5 z hz).2.2.2.2.2.2.2.1,fun f hf=>⟨((w5 z hz).2.2.2.2.2.2.2.2 f hf).2.1.1,((w5 z hz).2.2.2.2.2.2.2.2 f hf).2.2.1⟩⟩⟩
 have hM1:=pClass_le (w:=pTwo') (ab:=isAbs') (fun _=>rfl) c
 have hM1:(pClass pTwo' isAbs' c).length≤4611686018427387904:=by omega
 have hM2:=pClass_le (w:=pTwo) (ab:=isAbs) (fun _=>rfl) c
 have hM2:(pClass pTwo isAbs c).length≤4611686018427387904:=by omega
 try simp only [l1_p1,Option.bind_some]
 try simp only [l1_p1,Option.bind_some]
 obtain ⟨d3,H3,B3,q3,L3⟩:=L1.own (c6 c (by omega)) (by decide) (ds:=[c.d]) (by simp only [readA_int,readA_bool,readA_str,readA_list,readA_sl0,readA_sl,readA_agg,readA_tup,optAll_cons,optAll_nil,readT_int,readT_str,readT_bool,readT_list9,SClass.readD,Option.bind_some])
 rw [q3]; simp only [Option.bind_some]
 have r3:=L3.reads; simp only [Reads,and_true] at r3
 have l3_p1:ld true 7 H3 (.ptr p1 0 0)=some (c.d):=L3.ld (.head _) (rfl)
 try simp only [l3_p1,Option.bind_some]
 rw [pure_call (ds:=[d3,.int .i64 i]) (by simp only [readA_int,readA_bool,readA_str,readA_list,readA_sl0,readA_sl,readA_agg,readA_tup,optAll_cons,optAll_nil,r3,readT_int,readT_str,readT_bool,readT_list9,SClass.readD,Option.bind_some]) (c5 c w hM1 i)]; simp only [Option.bind_some]
 try simp only [l3_p1,Option.bind_some]
 obtain ⟨d5,H5,B5,q5,L5⟩:=L3.own (c6 c (by omega)) (by decide) (ds:=[c.d]) (by simp only [readA_int,readA_bool,readA_str,readA_list,readA_sl0,readA_sl,readA_agg,readA_tup,optAll_cons,optAll_nil,r3,readT_int,readT_str,readT_bool,readT_list9,SClass.readD,Option.bind_some])
 rw [q5]; simp only [Option.bind_some]
 have r5:=L5.reads; simp only [Reads,and_true] at r5
 have l5_p1:ld true 7 H5 (.ptr p1 0 0)=some (c.d):=L5.ld (.head _) (rfl)
 try simp only [l5_p1,Option.bind_some]
 obtain ⟨cs6,rfl,n6,hc6⟩:=L5.agg' (d:=d5) (ts:=c.row) (B:=B5) (by simp)
 obtain ⟨H6,p6,q6,L6⟩:=L5.var [.sl0,.int .i64 0,.int .i64 0,.int .i64 0,.sl0,.sl0,.sl0] cs6 7 rfl rfl (n6.trans rfl) (hc6 rfl)
 rw [q6]
 have r6:=L6.reads; simp only [Reads,and_true] at r6
 have l6_p1:ld true 7 H6 (.ptr p1 0 0)=some (c.d):=L6.ld (.tail _ (.head _)) (rfl)
 have l6_p6:ld true 7 H6 (.ptr p6 0 0)=some ((.agg cs6)):=L6.ld (.head _) (n6.trans rfl)
 try simp only [l6_p1,l6_p6,Option.bind_some]
 try simp only [l6_p1,l6_p6,Option.bind_some]
 rw [pure_call (ds:=[(.agg cs6),.int .i64 i]) (by simp only [readA_int,readA_bool,readA_str,readA_list,readA_sl0,readA_sl,readA_agg,readA_tup,optAll_cons,optAll_nil,r6,readT_int,readT_str,readT_bool,readT_list9,SClass.readD,Option.bind_some]) (c7 c w hM2 i)]; simp only [Option.bind_some]
 try simp only [l6_p1,l6_p6,Option.bind_some]
 try simp only [l6_p1,l6_p6,Option.bind_some]
 try simp only [bI_neq,bS_neq,bB_neq,beq_self_eq_true,decide_true,Bool.not_true,Option.bind_some,asB_bool,cond_false]
 try simp only [l6_p1,l6_p6,Option.bind_some]
 try simp only [l6_p1,l6_p6,Option.bind_some]
 obtain ⟨d8,H8,B8,q8,L8⟩:=L6.own (c6 c (by omega)) (by decide) (ds:=[c.d]) (by simp only [readA_int,readA_bool,readA_str,readA_list,readA_sl0,readA_sl,readA_agg,readA_tup,optAll_cons,optAll_nil,r6,readT_int,readT_str,readT_bool,readT_list9,SClass.readD,Option.bind_some])
 rw [q8]; simp only [Option.bind_some]
 have r8:=L8.reads; simp only [Reads,and_true] at r8
 have l8_p1:ld true 7 H8 (.ptr p1 0 0)=some (c.d):=L8.ld (.tail _ (.head _)) (rfl)
 have l8_p6:ld true 7 H8 (.ptr p6 0 0)=some ((.agg cs6)):=L8.ld (.head _) (n6.trans rfl)
 try simp only [l8_p1,l8_p6,Option.bind_some]
 rw [pure_call (ds:=[(.agg cs6),d8]) (by simp only [readA_int,readA_bool,readA_str,readA_list,readA_sl0,readA_sl,readA_agg,readA_tup,optAll_cons,optAll_nil,r8,readT_int,readT_str,readT_bool,readT_list9,SClass.readD,Option.bind_some]) (c8 c c (hfit) (hfit))]
 simp only [Option.bind_some,unOp_not,asB_bool,decide_true,Bool.not_true,cond_false,cond_true]
 try simp only [l8_p1,l8_p6,Option.bind_some]
 simp only [readA_int,readA_bool,readA_str,readA_list,readA_sl0,readA_sl,readA_agg,readA_tup,ret_one,Option.bind_some,readT_bool]
end Go.Ev.YtmpfooibdekppaaGreatDoor
