import Derived.Test.YtmljkoieihaomaaGreatD2
namespace Go.Ev.YtmljkoieihaomaaGreat
set_option linter.unusedVariables false
set_option linter.unusedSimpArgs false
set_option linter.unusedSectionVars false
set_option linter.defProp false
set_option maxHeartbeats 1000000
open Go.Ev
theorem ld_loc {a:Bool} {z:Nat} (H:Heap) (row:List D) (K:Heap) (f:Nat):ld a z (H++some [row] :: K) (.ptr H.length 0 f)=part row (f,z,a):=ld_ptr (getBlk_self H [row] K) rfl
theorem st_loc {z:Nat} (H:Heap) (row:List D) (K:Heap) (f:Nat) (v:D) (h1:v.cells.length=z) (h2:v.cells.all D.isCell=true) (h3:f + z≤row.length):st z (H++some [row] :: K) (.ptr H.length 0 f) v=some (H++some [row.take f++v.cells++row.drop (f + z)] :: K):=by
 rw [st_ptr (getBlk_self H [row] K) rfl h1 h2 h3,set_self]; rfl
def cAt (pool:List SConst) (i:Int):SConst:=if 1≤i∧i≤pool.length then (pool[(i - 1).toNat]?).getD {} else {}
def nameAtM (pool:List SConst) (i:Int) (p:List UInt8→Bool):Bool:=decide ((cAt pool i).Kind=1) && p (cAt pool i).Text
def classAtM (pool:List SConst) (i:Int):Bool:=decide ((cAt pool i).Kind=2) && nameAtM pool (cAt pool i).A nameOk
def isDescM (s:List UInt8):Bool:=(descOf s).isSome
def typedM (s:List UInt8):Bool:=typeOk s || isDescM s
def memberM (pool:List SConst) (x:SConst) (p:List UInt8→Bool):Bool:=decide (x.Text=[]) && (classAtM pool x.A && (decide ((cAt pool x.B).Kind=3) && nameAtM pool (cAt pool x.B).B p))
def entryM (pool:List SConst) (x:SConst):Bool:=
 if x.Kind=1 then decide (x.A=0) && (decide (x.B=0) && (nameOk x.Text || typedM x.Text))
 else if x.Kind=2 then decide (x.Text=[]) && (decide (x.B=0) && nameAtM pool x.A nameOk)
 else if x.Kind=3 then decide (x.Text=[]) && (nameAtM pool x.A nameOk && nameAtM pool x.B typedM)
 else if x.Kind=4 then memberM pool x typeOk
 else if x.Kind=5∨x.Kind=6 then memberM pool x isDescM
 else false
abbrev PoolOk (pool:List SConst):Prop:=pool.length≤140737488351232∧∀ x ∈ pool,x.wf
theorem str_call {g:FuncId} {s:List UInt8} {H:Heap} {t:D} (h:run E (exec E) false g [.str s]=some t):callFn E (exec E) .pure g [.str s] H=some (t,H):=pure_call (by simp) h
end Go.Ev.YtmljkoieihaomaaGreat
namespace Go.Ev.YtmljkoieihaomaaGreat
set_option linter.unusedVariables false
set_option linter.unusedSimpArgs false
set_option linter.unusedSectionVars false
set_option linter.defProp false
set_option maxHeartbeats 1000000
open Go.Ev
theorem less_total:∀ a b:List UInt8,(Op.bytesLess b a || b == a) = !Op.bytesLess a b
 | [],[]=>rfl
 | [],_ :: _=>rfl
 | _ :: _,[]=>rfl
 | a :: x,b :: y=>by
  have ih:=less_total x y
  simp only [Op.bytesLess]
  have e1:(b :: y == a :: x)=(b == a && y == x):=rfl
  rw [e1]
  by_cases h:a=b
  ·subst h
   have:¬ a < a:=UInt8.lt_irrefl a
   simpa [this] using ih
  ·rcases UInt8.lt_or_lt_of_ne h with h1 | h1
   ·have h2:¬ b < a:=fun h2=>absurd (UInt8.lt_trans h1 h2) (UInt8.lt_irrefl _)
    have h3:¬ b=a:=fun e=>h e.symm
    simp [h1,h2,h3]
   ·have h2:¬ a < b:=fun h2=>absurd (UInt8.lt_trans h1 h2) (UInt8.lt_irrefl _)
    simp [h1,h2,h]
theorem slL_to {esz:Nat} {H:Heap} {rows:Rows} {n:Int} (h0:0≤n) (h1:n≤rows.length) (hf:rowsFit esz rows=true):slL esz H (.list rows) none (some (.int .i64 n)) none=some (.list (rows.take n.toNat)):=by
 simp [slL,bound,h0,h1,hf]
def isFirstM (n:List UInt8):Bool:=decide (n=[79,98,106]) || decide (n=[69,114,114])
theorem c145 (s:List UInt8):run E (exec E) false 145 [.str s]=some (.bool (isFirstM s)):=by
 rw [run_ent,e145]
 simp only [bS_eql,Option.bind_some,asB_bool,isFirstM]
 by_cases h:s=[79,98,106] <;> simp [h]
def builtM (n:List UInt8):Int:=if n=[79,98,106] then 0 else if n=[69,114,114] then 1 else -1
theorem c141 (s:List UInt8):run E (exec E) false 141 [.str s]=some (.int .i64 (builtM s)):=by
 rw [run_ent,e141]
 simp only [bS_eql,Option.bind_some,asB_bool,builtM]
 by_cases h:s=[79,98,106]
 ·simp [h]
 ·by_cases h2:s=[69,114,114] <;> simp [h,h2]
theorem built_first (s:List UInt8):decide (0≤builtM s)=isFirstM s:=by
 unfold builtM isFirstM
 by_cases h:s=[79,98,106]
 ·simp [h]
 ·by_cases h2:s=[69,114,114] <;> simp [h,h2]
def fileNamed (n:List UInt8) (f:SFile):Bool:=decide (f.Name=n)
def filesOk (all:List SFile):Nat→List SFile→Bool
 | _,[]=>true
 | i,f :: r=>nameOk f.Name && (!(isFirstM f.Name) && (decide (f.Text.length≤900) && (!((all.take i).any (fileNamed f.Name)) && filesOk all (i + 1) r)))
def wayLt (all:List SWay) (i:Nat) (w:SWay):Bool:=match i with
 | 0=>true
 | k + 1=>match all[k]? with
  | some v=>Op.bytesLess v.Name w.Name
  | none=>true
def waysOk (all:List SWay) (many:Int):Nat→List SWay→Bool
 | _,[]=>true
 | i,w :: r=>nameOk w.Name && (inR w.To 0 (many - 1) && (wayLt all i w && waysOk all many (i + 1) r))
def loaderOk (l:SLoader) (many:Int):Bool:=decide (l.Files.length≤5) && (decide (l.Ways.length≤4) && (inR l.Parent (-1) (many - 1) && (filesOk l.Files 0 l.Files && waysOk l.Ways many 0 l.Ways)))
def loadersOk (list:List SLoader):Bool:=inR list.length 1 3 && list.all fun l=>loaderOk l list.length
abbrev LoadersWf (list:List SLoader):Prop:=list.length≤140737488351232∧∀ x ∈ list,x.wf
theorem ia_file {l:List SFile} {H:Heap} {n:Int} (h0:0≤n) (h1:n.toNat < l.length):ia 2 H (.list (l.map SFile.row)) (.int .i64 n)=some (.el (l[n.toNat]).row 0):=by
 rw [ia_list h0 (by simpa using h1) (by simp)]; simp
theorem ia_way {l:List SWay} {H:Heap} {n:Int} (h0:0≤n) (h1:n.toNat < l.length):ia 2 H (.list (l.map SWay.row)) (.int .i64 n)=some (.el (l[n.toNat]).row 0):=by
 rw [ia_list h0 (by simpa using h1) (by simp)]; simp
theorem ia_loader {l:List SLoader} {H:Heap} {n:Int} (h0:0≤n) (h1:n.toNat < l.length):ia 3 H (.list (l.map SLoader.row)) (.int .i64 n)=some (.el (l[n.toNat]).row 0):=by
 rw [ia_list h0 (by simpa using h1) (by simp)]; simp
theorem put_loc {z:Nat} (H:Heap) (row:List D) (r:List D) (hr:row.length=z) (hl:r.length=z) (hc:r.all D.isCell=true):st z (H++[some [row]]) (.ptr H.length 0 0) (.agg r)=some (H++[some [r]]):=by
 rw [st_loc (z:=z) H row [] 0 (.agg r) hl hc (by omega)]
 simp [List.drop_of_length_le (show row.length≤z by omega)]; rfl
theorem ld_in {H:Heap} {b:Nat} {row:List D} (h:getBlk H b=some [row]) (K:Heap) (f:Nat):ld false 1 (H++K) (.ptr b 0 (0 + f))=row[0 + f]?:=by rw [ld_ptr (getBlk_app h) rfl]; rfl
theorem ld_in0 {H:Heap} {b:Nat} {row:List D} (h:getBlk H b=some [row]) (f:Nat):ld false 1 H (.ptr b 0 (0 + f))=row[0 + f]?:=by rw [ld_ptr h rfl]; rfl
theorem ld_at {H:Heap} {b:Nat} {row:List D} (h:getBlk H b=some [row]) (K:Heap):ld false 1 (H++K) (.ptr b 0 0)=row[0]?:=by rw [ld_ptr (getBlk_app h) rfl]; rfl
theorem c147 (x:SFile) (H:Heap) (b:Nat) (row:List D) (n:List UInt8) (h:getBlk H b=some [row]) (hr:row[0]? = some (.str n)) (K:Heap):∃ K',ent E 147 [x.d,.ptr b 0 0] (H++K)=some (.bool (fileNamed n x),H++K'):=by
 rw [e147,alloc_eq _ _ _ rfl]
 simp only [fa_ptr,Option.bind_some,ld_loc,List.append_assoc,ld_in h,hr,Nat.zero_add]
 have:ld false 1 (H++K++[some [D.cells x.d]]) (.ptr (H++K).length 0 0)=some (.str x.Name):=by rw [ld_loc]; rfl
 rw [List.append_assoc] at this
 rw [this]
 have h2:=ld_at h (K++[some [D.cells x.d]])
 rw [h2,hr]
 simp only [Option.bind_some,bS_eql,ret_one,fileNamed]
 exact ⟨_,rfl⟩
theorem c70_12 (l:SLoader) (w:l.wf) (many:Int) (hm:0≤many∧many≤140737488351232) (H:Heap) (h:getBlk H 0=some [l.row]) (i:Nat) (hi:i < l.Ways.length) (K:Heap) (b:Nat) (hb:getBlk (H++K) b=some [(l.Ways[i]).row]) (v:Bool) (nx:∃ K',J E 70 10 [.int .i64 many,.ptr 0 0 0,.list (l.Ways.map SWay.row),.int .i64 l.Ways.length,.int .i64 ((i + 1:Nat):Int)] (H++K)=some (.bool v,H++K')) :
  ∃ K',J E 70 12 [.int .i64 many,.ptr 0 0 0,.int .i64 i,.ptr b 0 0,.list (l.Ways.map SWay.row),.int .i64 l.Ways.length,.int .i64 i] (H++K)=some (.bool (nameOk (l.Ways[i]).Name && (inR (l.Ways[i]).To 0 (many - 1) && (wayLt l.Ways i l.Ways[i] && v))),H++K'):=by
 obtain ⟨⟨w1,w2⟩,⟨w3,w4⟩,w5⟩:=w
 have wx:=w4 _ (List.getElem_mem hi)
 generalize hx:l.Ways[i]=x at *
 rw [j70_12]
 have r0:x.row[0 + 0]? = some (.str x.Name):=rfl
 have r1:x.row[0 + 1]? = some (.int .i64 x.To):=rfl
 have m1:l.row[0 + 1]? = some (.list (l.Ways.map SWay.row)):=rfl
 simp only [fa_ptr,Option.bind_some,ld_in0 hb,r0,r1]
 rw [str_call (c121 _ wx.1)]
 simp only [Option.bind_some,unOp_not,asB_bool]
 cases hn:nameOk x.Name with
 | false=>exact ⟨K,rfl⟩
 | true=>
  simp only [Bool.not_true,cond_false,ld_in0 hb,r1,Option.bind_some,bI_sub,Bool.true_and]
  rw [wrap_i64 (n:=many - 1) (by omega) (by omega)]
  rw [pure_call (ts:=[.int .i64 x.To,.int .i64 0,.int .i64 (many - 1)]) (by simp) (c67 _ _ _)]
  simp only [Option.bind_some,unOp_not,asB_bool]
  cases hr:inR x.To 0 (many - 1) with
  | false=>exact ⟨K,rfl⟩
  | true=>
   simp only [Bool.not_true,cond_false,bI_gtr,Option.bind_some,asB_bool,Bool.true_and,bI_add]
   rw [wrap_i64 (n:=(i:Int) + 1) (by omega) (by omega)]
   cases i with
   | zero=>
    simp only [Int.natCast_zero,Int.lt_irrefl,decide_false,cond_false,wayLt,Bool.true_and]
    exact nx
   | succ k=>
    have hgt:(0:Int) < ((k + 1:Nat):Int):=by omega
    simp only [hgt,decide_true,cond_true,ld_in h,m1,Option.bind_some,bI_sub]
    rw [wrap_i64 (n:=((k + 1:Nat):Int) - 1) (by omega) (by omega),show ((k + 1:Nat):Int) - 1=(k:Int) by omega]
    rw [ia_way (n:=(k:Int)) (by omega) (by omega)]
    simp only [Option.bind_some,fa_el,ld_el,Int.toNat_natCast,show part (l.Ways[k]).row (0 + 0,1,false)=some (.str (l.Ways[k]).Name) from rfl,ld_in0 hb,r0]
    rw [show bS .geq (.str (l.Ways[k]).Name) (.str x.Name)=some (.bool (!Op.bytesLess (l.Ways[k]).Name x.Name)) from rfl]
    simp only [Option.bind_some,asB_bool,wayLt,List.getElem?_eq_getElem (show k < l.Ways.length by omega)]
    cases hl:Op.bytesLess (l.Ways[k]).Name x.Name with
    | false=>exact ⟨K,rfl⟩
    | true=>
     simp only [Bool.not_true,cond_false,Bool.true_and]
     exact nx
theorem c70_10 (l:SLoader) (w:l.wf) (many:Int) (hm:0≤many∧many≤140737488351232) (H:Heap) (h:getBlk H 0=some [l.row]):∀ i,i≤l.Ways.length→∀ K,∃ K',J E 70 10 [.int .i64 many,.ptr 0 0 0,.list (l.Ways.map SWay.row),.int .i64 l.Ways.length,.int .i64 i] (H++K)=some (.bool (waysOk l.Ways many i (l.Ways.drop i)),H++K'):=by
 have w3:=w.2.1.1
 apply loop_up
 ·intro K
  rw [j70_10]
  simp only [bI_lss,Int.lt_irrefl,decide_false,Option.bind_some,asB_bool,cond_false,List.drop_length,waysOk]
  exact ⟨K,rfl⟩
 ·intro i hi ih K
  have hlt:((i:Nat):Int) < (l.Ways.length:Int):=by omega
  rw [j70_10,List.drop_eq_getElem_cons hi,waysOk]
  simp only [bI_lss,hlt,decide_true,Option.bind_some,asB_bool,cond_true]
  rw [ia_way (n:=(i:Int)) (by omega) (by omega)]
  simp only [Option.bind_some,ld_el,Int.toNat_natCast,show part (l.Ways[i]).row (0,2,true)=some (l.Ways[i]).d from rfl]
  rw [alloc_eq _ _ _ rfl,put_loc (z:=2) (H++K) [.str [],.int .i64 0] (l.Ways[i]).row rfl rfl rfl]
  simp only [Option.bind_some]
  rw [List.append_assoc]
  have hb:getBlk (H++(K++[some [(l.Ways[i]).row]])) (H++K).length=some [(l.Ways[i]).row]:=by rw [← List.append_assoc]; exact getBlk_self _ _ []
  exact c70_12 l w many hm H h i hi _ _ hb _ (ih _)
theorem c70_4 (l:SLoader) (w:l.wf) (many:Int) (hm:0≤many∧many≤140737488351232) (H:Heap) (h:getBlk H 0=some [l.row]):∀ i,i≤l.Files.length→∀ K,∃ K',J E 70 4 [.int .i64 many,.ptr 0 0 0,.list (l.Files.map SFile.row),.int .i64 l.Files.length,.int .i64 i] (H++K)=some (.bool (filesOk l.Files i (l.Files.drop i) && waysOk l.Ways many 0 l.Ways),H++K'):=by
 have m0:l.row[0 + 0]? = some (.list (l.Files.map SFile.row)):=rfl
 have m1:l.row[0 + 1]? = some (.list (l.Ways.map SWay.row)):=rfl
 have w0:=w
 obtain ⟨⟨w1,w2⟩,⟨w3,w4⟩,w5⟩:=w
 apply loop_up
 ·intro K
  rw [j70_4]
  simp only [bI_lss,Int.lt_irrefl,decide_false,Option.bind_some,asB_bool,cond_false,List.drop_length,filesOk,fa_ptr,ld_in h,m1,lnL_list,List.length_map,Bool.true_and]
  exact c70_10 l w0 many hm H h 0 (by omega) K
 ·intro i hi ih K
  have hlt:((i:Nat):Int) < (l.Files.length:Int):=by omega
  have wx:=w2 _ (List.getElem_mem hi)
  rw [j70_4,List.drop_eq_getElem_cons hi,filesOk]
  simp only [bI_lss,hlt,decide_true,Option.bind_some,asB_bool,cond_true]
  rw [ia_file (n:=(i:Int)) (by omega) (by omega)]
  simp only [Option.bind_some,ld_el,Int.toNat_natCast,show part (l.Files[i]).row (0,2,true)=some (l.Files[i]).d from rfl]
  rw [alloc_eq _ _ _ rfl,put_loc (z:=2) (H++K) [.str [],.str []] (l.Files[i]).row rfl rfl rfl]
  simp only [Option.bind_some]
  generalize l.Files[i]=x at wx
  have hb:getBlk (H++K++[some [x.row]]) (H++K).length=some [x.row]:=getBlk_self _ _ []
  have r0:x.row[0 + 0]? = some (.str x.Name):=rfl
  have r1:x.row[0 + 1]? = some (.str x.Text):=rfl
  simp only [fa_ptr,Option.bind_some,ld_in0 hb,r0,r1]
  rw [str_call (c121 _ wx.1)]
  simp only [Option.bind_some,unOp_not,asB_bool]
  cases hn:nameOk x.Name with
  | false=>exact ⟨K++[some [x.row]],by simp⟩
  | true=>
   simp only [Bool.not_true,cond_false,ld_in0 hb,r0,Option.bind_some]
   rw [str_call (c145 _)]
   simp only [Option.bind_some,asB_bool]
   cases hf:isFirstM x.Name with
   | true=>exact ⟨K++[some [x.row]],by simp⟩
   | false=>
    simp only [cond_false,ld_in0 hb,r1,Option.bind_some,lnS_str,bI_gtr,asB_bool]
    by_cases ht:x.Text.length≤900
    ·have l0:ld false 1 (H++K++[some [x.row]]) (.ptr 0 0 (0 + 0))=some (.list (l.Files.map SFile.row)):=by rw [List.append_assoc,ld_in h,m0]
     simp only [show ¬ (900:Int) < x.Text.length by omega,decide_false,cond_false,l0,Option.bind_some]
     rw [slL_to (by omega) (by simp; omega) (by cases hq:l.Files <;> simp [rowsFit])]
     simp only [Option.bind_some,Int.toNat_natCast,call_raw,← List.map_take]
     obtain ⟨K',e⟩:=c146 (l.Files.take i) (by simp; omega) 147 [.ptr (H++K).length 0 0] (fileNamed x.Name) (H++K++[some [x.row]]) (fun y hy K2=>c147 y _ _ _ x.Name hb rfl K2)
     rw [e]
     simp only [Option.bind_some,asB_bool]
     have hh:H++K++[some [x.row]]++K'=H++(K++[some [x.row]]++K'):=by simp
     rw [hh]
     cases ha:(l.Files.take i).any (fileNamed x.Name) with
     | true=>exact ⟨_,by simp; rfl⟩
     | false=>
      simp only [cond_false,bI_add,Option.bind_some,ht,decide_true,Bool.not_false,Bool.true_and]
      rw [wrap_i64 (n:=(i:Int) + 1) (by omega) (by omega)]
      exact ih _
    ·simp only [show (900:Int) < x.Text.length by omega,decide_true,cond_true,ht,decide_false]
     exact ⟨K++[some [x.row]],by simp⟩
theorem c70 (l:SLoader) (w:l.wf) (many:Int) (hm:0≤many∧many≤140737488351232):run E (exec E) false 70 [l.d,.int .i64 many]=some (.bool (loaderOk l many)):=by
 have w0:=w
 obtain ⟨⟨w1,w2⟩,⟨w3,w4⟩,w5⟩:=w
 have h:getBlk ([some [l.row]]:Heap) 0=some [l.row]:=rfl
 have m0:l.row[0 + 0]? = some (.list (l.Files.map SFile.row)):=rfl
 have m1:l.row[0 + 1]? = some (.list (l.Ways.map SWay.row)):=rfl
 have m2:l.row[0 + 2]? = some (.int .i64 l.Parent):=rfl
 rw [run_ent,e70,alloc_eq _ _ _ rfl]
 rw [show ([]:Heap)++[some [D.cells l.d]]=[some [l.row]] from rfl,show ([]:Heap).length=0 from rfl]
 simp only [fa_ptr,Option.bind_some,ld_in0 h,m0,m1,m2,lnL_list,List.length_map,bI_gtr,asB_bool,loaderOk]
 by_cases h1:l.Files.length≤5
 ·simp only [h1,show ¬ (5:Int) < l.Files.length by omega,decide_false,cond_false,decide_true,Bool.true_and,ld_in0 h,m0,m1,m2,lnL_list,List.length_map,Option.bind_some,bI_gtr,asB_bool]
  by_cases h2:l.Ways.length≤4
  ·simp only [h2,show ¬ (4:Int) < l.Ways.length by omega,decide_false,cond_false,decide_true,Bool.true_and,bI_sub,Option.bind_some]
   rw [wrap_i64 (n:=many - 1) (by omega) (by omega)]
   rw [pure_call (ts:=[.int .i64 l.Parent,.int .i64 (-1),.int .i64 (many - 1)]) (by simp) (c67 _ _ _)]
   simp only [Option.bind_some,unOp_not,asB_bool]
   cases hr:inR l.Parent (-1) (many - 1) with
   | false=>rfl
   | true=>
    simp only [Bool.not_true,cond_false,ld_in0 h,m0,lnL_list,List.length_map,Option.bind_some,Bool.true_and]
    obtain ⟨K',e⟩:=c70_4 l w0 many hm [some [l.row]] h 0 (by omega) []
    simp only [List.append_nil,Int.natCast_zero] at e
    rw [e]
    rfl
  ·simp [h2,show (4:Int) < l.Ways.length by omega]
 ·simp [h1,show (5:Int) < l.Files.length by omega]
theorem c69 (list:List SLoader) (hl:list.length≤140737488351232) (l:SLoader) (w:l.wf) (H:Heap) (b:Nat) (h:getBlk H b=some [[.list (list.map SLoader.row)]]) (K:Heap):∃ K',ent E 69 [l.d,.ptr b 0 0] (H++K)=some (.bool (!loaderOk l list.length),H++K'):=by
 rw [e69,alloc_eq _ _ _ rfl]
 rw [show ld true 3 (H++K++[some [D.cells l.d]]) (.ptr (H++K).length 0 0)=some l.d from by rw [ld_loc]; rfl,List.append_assoc,ld_at h]
 simp only [Option.bind_some,List.getElem?_cons_zero,lnL_list,List.length_map]
 rw [pure_call (ts:=[l.d,.int .i64 list.length]) (by simp [SLoader.readD]) (c70 l w _ (by omega))]
 exact ⟨_,rfl⟩
theorem c23 (list:List SLoader) (w:LoadersWf list):run E (exec E) false 23 [.list (list.map SLoader.row)]=some (.bool (loadersOk list)):=by
 have h:getBlk ([some [[.list (list.map SLoader.row)]]]:Heap) 0=some [[.list (list.map SLoader.row)]]:=rfl
 rw [run_ent,e23,alloc_eq _ _ _ rfl]
 rw [show ([]:Heap)++[some [D.cells (.list (list.map SLoader.row))]]=[some [[.list (list.map SLoader.row)]]] from rfl,show ([]:Heap).length=0 from rfl]
 have l0:ld false 1 [some [[D.list (list.map SLoader.row)]]] (.ptr 0 0 0)=some (.list (list.map SLoader.row)):=rfl
 simp only [l0,Option.bind_some,lnL_list,List.length_map]
 rw [pure_call (ts:=[.int .i64 list.length,.int .i64 1,.int .i64 3]) (by simp) (c67 _ _ _)]
 simp only [Option.bind_some,asB_bool,loadersOk]
 cases hr:inR list.length 1 3 with
 | false=>rfl
 | true=>
  simp only [cond_true,l0,Option.bind_some,call_raw,Bool.true_and]
  obtain ⟨K',e⟩:=c68 list w.1 69 [.ptr 0 0 0] (fun l=>!loaderOk l list.length) [some [[.list (list.map SLoader.row)]]] (fun y hy K2=>c69 list w.1 y (w.2 y hy) _ _ h K2)
  rw [e]
  simp only [readA_int,readA_bool,readA_str,readA_list,readA_sl0,readA_sl,readA_agg,readA_tup,Option.bind_some,unOp_not,ret_one,readT_bool,List.any_eq_not_all_not,Bool.not_not]
end Go.Ev.YtmljkoieihaomaaGreat
namespace Go.Ev.YtmljkoieihaomaaGreat
set_option linter.unusedVariables false
set_option linter.unusedSimpArgs false
set_option linter.unusedSectionVars false
set_option linter.defProp false
set_option maxHeartbeats 1000000
open Go.Ev
theorem loaderOk_get {list:List SLoader} (h:loadersOk list=true) {l:SLoader} (hl:l ∈ list):loaderOk l list.length=true:=by
 simp only [loadersOk,Bool.and_eq_true,List.all_eq_true] at h
 exact h.2 l hl
theorem loadersOk_len {list:List SLoader} (h:loadersOk list=true):1≤list.length∧list.length≤3:=by
 simp only [loadersOk,Bool.and_eq_true,inR,decide_eq_true_eq] at h
 omega
end Go.Ev.YtmljkoieihaomaaGreat
namespace Go.Ev.YtmljkoieihaomaaGreat
set_option linter.unusedVariables false
set_option linter.unusedSimpArgs false
set_option linter.unusedSectionVars false
set_option linter.defProp false
set_option maxHeartbeats 1000000
open Go.Ev
def tailOk (l:SLoader) (many:Int):Bool:=decide (l.Files.length≤5) && (decide (l.Ways.length≤4) && inR l.Parent (-1) (many - 1))
theorem c62_15 (list:List SLoader) (hl:list.length≤140737488351232) (l:SLoader) (w:l.wf) (H:Heap) (h0:getBlk H 0=some [[.list (list.map SLoader.row),.list [],.list [],.list []]]) (h1:getBlk H 1=some [l.row]) (i:Nat) (hi:i < l.Ways.length) (v:Bool) (nx:J E 62 13 [.ptr 0 0 0,.ptr 1 0 0,.int .i64 ((i + 1:Nat):Int)] H=some (.bool v,H)) :
  J E 62 15 [.ptr 0 0 0,.ptr 1 0 0,.int .i64 i] H=some (.bool (nameOk (l.Ways[i]).Name && (inR (l.Ways[i]).To 0 (list.length - 1) && (wayLt l.Ways i l.Ways[i] && v))),H):=by
 obtain ⟨⟨w1,w2⟩,⟨w3,w4⟩,w5⟩:=w
 have wx:=w4 _ (List.getElem_mem hi)
 have m1:l.row[0 + 1]? = some (.list (l.Ways.map SWay.row)):=rfl
 have k0:([.list (list.map SLoader.row),.list [],.list [],.list []]:List D)[0 + 0]? = some (.list (list.map SLoader.row)):=rfl
 have hia:=ia_way (H:=H) (n:=(i:Int)) (l:=l.Ways) (by omega) (by omega)
 simp only [Int.toNat_natCast] at hia
 rw [j62_15]
 simp only [fa_ptr,ld_in0 h1,ld_in0 h0,m1,k0,Option.bind_some,hia,fa_el,ld_el]
 generalize l.Ways[i]=x at wx hia ⊢
 have r0:part x.row (0 + 0,1,false)=some (.str x.Name):=rfl
 have r1:part x.row (0 + 1,1,false)=some (.int .i64 x.To):=rfl
 simp only [r0,r1,Option.bind_some]
 rw [str_call (c140 _ wx.1)]
 simp only [Option.bind_some,unOp_not,asB_bool]
 cases hn:nameOk x.Name with
 | false=>rfl
 | true=>
  simp only [Bool.not_true,cond_false,ld_in0 h1,ld_in0 h0,m1,k0,Option.bind_some,lnL_list,List.length_map,bI_sub,Bool.true_and,hia,fa_el,ld_el,r1]
  rw [wrap_i64 (n:=(list.length:Int) - 1) (by omega) (by omega)]
  rw [pure_call (ts:=[.int .i64 x.To,.int .i64 0,.int .i64 ((list.length:Int) - 1)]) (by simp) (c63 _ _ _)]
  simp only [Option.bind_some,unOp_not,asB_bool]
  cases hr:inR x.To 0 (list.length - 1) with
  | false=>rfl
  | true=>
   simp only [Bool.not_true,cond_false,bI_gtr,Option.bind_some,asB_bool,Bool.true_and,bI_add]
   rw [wrap_i64 (n:=(i:Int) + 1) (by omega) (by omega)]
   cases i with
   | zero=>
    simp only [Int.natCast_zero,Int.lt_irrefl,decide_false,cond_false,wayLt,Bool.true_and]
    exact nx
   | succ k=>
    have hgt:(0:Int) < ((k + 1:Nat):Int):=by omega
    simp only [hgt,decide_true,cond_true,ld_in0 h1,m1,Option.bind_some,bI_sub,hia,fa_el,ld_el,r0]
    rw [wrap_i64 (n:=((k + 1:Nat):Int) - 1) (by omega) (by omega),show ((k + 1:Nat):Int) - 1=(k:Int) by omega]
    rw [ia_way (n:=(k:Int)) (by omega) (by omega)]
    simp only [Option.bind_some,fa_el,ld_el,Int.toNat_natCast,show part (l.Ways[k]).row (0 + 0,1,false)=some (.str (l.Ways[k]).Name) from rfl,r0]
    rw [show bS .leq (.str x.Name) (.str (l.Ways[k]).Name)=some (.bool (Op.bytesLess x.Name (l.Ways[k]).Name || x.Name == (l.Ways[k]).Name)) from rfl,less_total]
    simp only [Option.bind_some,asB_bool,wayLt,List.getElem?_eq_getElem (show k < l.Ways.length by omega)]
    cases hl:Op.bytesLess (l.Ways[k]).Name x.Name with
    | false=>rfl
    | true=>
     simp only [Bool.not_true,cond_false,Bool.true_and]
     exact nx
theorem c62_13 (list:List SLoader) (hl:list.length≤140737488351232) (l:SLoader) (w:l.wf) (H:Heap) (h0:getBlk H 0=some [[.list (list.map SLoader.row),.list [],.list [],.list []]]) (h1:getBlk H 1=some [l.row]):∀ i,i≤l.Ways.length→J E 62 13 [.ptr 0 0 0,.ptr 1 0 0,.int .i64 i] H=some (.bool (waysOk l.Ways list.length i (l.Ways.drop i) && tailOk l list.length),H):=by
 have m0:l.row[0 + 0]? = some (.list (l.Files.map SFile.row)):=rfl
 have m1:l.row[0 + 1]? = some (.list (l.Ways.map SWay.row)):=rfl
 have m2:l.row[0 + 2]? = some (.int .i64 l.Parent):=rfl
 have k0:([.list (list.map SLoader.row),.list [],.list [],.list []]:List D)[0 + 0]? = some (.list (list.map SLoader.row)):=rfl
 have w0:=w
 obtain ⟨⟨w1,w2⟩,⟨w3,w4⟩,w5⟩:=w
 apply loop_up
 ·rw [j62_13]
  simp only [fa_ptr,ld_in0 h1,ld_in0 h0,m0,m1,m2,k0,lnL_list,List.length_map,bI_lss,Int.lt_irrefl,decide_false,Option.bind_some,asB_bool,cond_false,List.drop_length,waysOk,Bool.true_and,tailOk,bI_leq]
  by_cases g1:l.Files.length≤5
  ·simp only [g1,show (l.Files.length:Int)≤5 by omega,decide_true,cond_true,Bool.true_and]
   by_cases g2:l.Ways.length≤4
   ·simp only [g2,show (l.Ways.length:Int)≤4 by omega,decide_true,cond_true,Bool.true_and,bI_sub,Option.bind_some]
    rw [wrap_i64 (n:=(list.length:Int) - 1) (by omega) (by omega)]
    rw [pure_call (ts:=[.int .i64 l.Parent,.int .i64 (-1),.int .i64 ((list.length:Int) - 1)]) (by simp) (c63 _ _ _)]
    simp only [Option.bind_some,ret_one]
   ·simp [g2,show ¬ (l.Ways.length:Int)≤4 by omega]
  ·simp [g1,show ¬ (l.Files.length:Int)≤5 by omega]
 ·intro i hi ih
  have hlt:((i:Nat):Int) < (l.Ways.length:Int):=by omega
  rw [j62_13,List.drop_eq_getElem_cons hi,waysOk]
  simp only [fa_ptr,ld_in0 h1,m1,lnL_list,List.length_map,bI_lss,hlt,decide_true,Option.bind_some,asB_bool,cond_true]
  rw [c62_15 list hl l w0 H h0 h1 i hi _ ih]
  simp only [Bool.and_assoc]
theorem any_drop {α:Type} (p:α→Bool) (l:List α) {k i:Nat} (hk:k < i) (hi:i≤l.length):((l.take i).drop k).any p=(p (l[k]'(by omega)) || ((l.take i).drop (k + 1)).any p):=by
 rw [List.drop_eq_getElem_cons (show k < (l.take i).length by simp; omega)]
 simp
theorem c62_8 (l : SLoader) (w : l.wf) (H : Heap) (h1 : getBlk H 1 = some [l.row]) (i : Nat) (hi : i < l.Files.length) (b : Nat) (x : SFile) (hb : getBlk H b = some [x.row]) (v : Bool) (H' : Heap) (nx : J E 62 2 [.ptr 0 0 0, .ptr 1 0 0, .int .i64 ((i + 1 : Nat) : Int)] H = some (.bool v, H')) : ∀ k, k ≤ i → ∃ H'', J E 62 8 [.ptr 0 0 0, .ptr 1 0 0, .int .i64 i, .ptr b 0 0, .int .i64 k] H = some (.bool (!(((l.Files.take i).drop k).any (fileNamed x.Name)) && v), H'') ∧ (H'' = H ∨ H'' = H') := by
 have m0:l.row[0 + 0]? = some (.list (l.Files.map SFile.row)):=rfl
 have hw:=w.1.1
 apply loop_up
 ·rw [j62_8]
  simp only [bI_lss,Int.lt_irrefl,decide_false,Option.bind_some,asB_bool,cond_false,bI_add]
  rw [wrap_i64 (n:=(i:Int) + 1) (by omega) (by omega)]
  refine ⟨H',?_,.inr rfl⟩
  have:(l.Files.take i).drop i=[]:=by rw [List.drop_eq_nil_iff]; simp; omega
  rw [this]
  simp only [List.any_nil,Bool.not_false,Bool.true_and]
  exact nx
 ·intro k hk ih
  have hlt:((k:Nat):Int) < (i:Int):=by omega
  rw [j62_8,any_drop _ _ hk (by omega)]
  simp only [bI_lss,hlt,decide_true,Option.bind_some,asB_bool,cond_true,fa_ptr,ld_in0 h1,m0]
  rw [ia_file (n:=(k:Int)) (by omega) (by omega)]
  simp only [Option.bind_some,fa_el,ld_el,Int.toNat_natCast,show part (l.Files[k]).row (0 + 0,1,false)=some (.str (l.Files[k]).Name) from rfl,ld_in0 hb,show x.row[0 + 0]? = some (.str x.Name) from rfl,bS_eql,asB_bool]
  by_cases hp:(l.Files[k]).Name=x.Name
  ·simp only [hp,decide_true,cond_true,fileNamed,Bool.true_or,Bool.not_true,Bool.false_and]
   exact ⟨H,rfl,.inl rfl⟩
  ·simp only [hp,decide_false,cond_false,bI_add,Option.bind_some,fileNamed,Bool.false_or]
   rw [wrap_i64 (n:=(k:Int) + 1) (by omega) (by omega)]
   exact ih
theorem c62_2 (list:List SLoader) (hl:list.length≤140737488351232) (l:SLoader) (w:l.wf) (H:Heap) (h0:getBlk H 0=some [[.list (list.map SLoader.row),.list [],.list [],.list []]]) (h1:getBlk H 1=some [l.row]):∀ i,i≤l.Files.length→∀ K,∃ H',J E 62 2 [.ptr 0 0 0,.ptr 1 0 0,.int .i64 i] (H++K)=some (.bool (filesOk l.Files i (l.Files.drop i) && (waysOk l.Ways list.length 0 l.Ways && tailOk l list.length)),H'):=by
 have m0:l.row[0 + 0]? = some (.list (l.Files.map SFile.row)):=rfl
 have w0:=w
 obtain ⟨⟨w1,w2⟩,⟨w3,w4⟩,w5⟩:=w
 apply loop_up
 ·intro K
  rw [j62_2]
  simp only [fa_ptr,ld_in h1,m0,lnL_list,List.length_map,bI_lss,Int.lt_irrefl,decide_false,Option.bind_some,asB_bool,cond_false,List.drop_length,filesOk,Bool.true_and]
  have:=c62_13 list hl l w0 (H++K) (getBlk_app h0) (getBlk_app h1) 0 (by omega)
  exact ⟨_,this⟩
 ·intro i hi ih K
  have hlt:((i:Nat):Int) < (l.Files.length:Int):=by omega
  have wx:=w2 _ (List.getElem_mem hi)
  rw [j62_2,List.drop_eq_getElem_cons hi,filesOk]
  simp only [fa_ptr,ld_in h1,m0,lnL_list,List.length_map,bI_lss,hlt,decide_true,Option.bind_some,asB_bool,cond_true]
  rw [ia_file (n:=(i:Int)) (by omega) (by omega)]
  simp only [Option.bind_some,ld_el,Int.toNat_natCast,show part (l.Files[i]).row (0,2,true)=some (l.Files[i]).d from rfl]
  rw [alloc_eq _ _ _ rfl,put_loc (z:=2) (H++K) [.str [],.str []] (l.Files[i]).row rfl rfl rfl]
  simp only [Option.bind_some]
  generalize l.Files[i]=x at wx
  have hb:getBlk (H++K++[some [x.row]]) (H++K).length=some [x.row]:=getBlk_self _ _ []
  have r0:x.row[0 + 0]? = some (.str x.Name):=rfl
  have r1:x.row[0 + 1]? = some (.str x.Text):=rfl
  simp only [fa_ptr,Option.bind_some,ld_in0 hb,r0,r1]
  rw [str_call (c140 _ wx.1)]
  simp only [Option.bind_some,unOp_not,asB_bool]
  cases hn:nameOk x.Name with
  | false=>exact ⟨_,rfl⟩
  | true=>
   simp only [Bool.not_true,cond_false,ld_in0 hb,r0,Option.bind_some]
   rw [str_call (c141 _)]
   simp only [Option.bind_some,bI_geq,asB_bool,built_first]
   cases hf:isFirstM x.Name with
   | true=>exact ⟨_,rfl⟩
   | false=>
    simp only [cond_false,ld_in0 hb,r1,Option.bind_some,lnS_str,bI_gtr,asB_bool]
    by_cases ht:x.Text.length≤900
    ·simp only [show ¬ (900:Int) < x.Text.length by omega,decide_false,cond_false,ht,decide_true,Bool.not_false,Bool.true_and]
     obtain ⟨H',e⟩:=ih (K++[some [x.row]])
     rw [← List.append_assoc] at e
     obtain ⟨H'', e2, -⟩ := c62_8 l w0 (H ++ K ++ [some [x.row]]) (by rw [List.append_assoc]; exact getBlk_app h1) i hi _ x hb _ _ e 0 (by omega)
     simp only [List.drop_zero,Int.natCast_zero] at e2
     rw [e2]
     exact ⟨_,by rw [Bool.and_assoc]⟩
    ·simp only [show (900:Int) < x.Text.length by omega,decide_true,cond_true,ht,decide_false]
     exact ⟨_,rfl⟩
theorem c62 (list:List SLoader) (hl:list.length≤140737488351232) (l:SLoader) (w:l.wf):run E (exec E) false 62 [.agg [.list (list.map SLoader.row),.list [],.list [],.list []],l.d]=some (.bool (loaderOk l list.length)):=by
 rw [run_ent,e62,alloc_eq _ _ _ rfl,alloc_eq _ _ _ rfl]
 obtain ⟨H',e⟩:=c62_2 list hl l w [some [[.list (list.map SLoader.row),.list [],.list [],.list []]],some [l.row]] rfl rfl 0 (by omega) []
 simp only [List.append_nil,Int.natCast_zero] at e
 rw [show ([]++[some [D.cells (.agg [.list (list.map SLoader.row),.list [],.list [],.list []])]]++[some [D.cells l.d]]:Heap)=[some [[.list (list.map SLoader.row),.list [],.list [],.list []]],some [l.row]] from rfl,show ([]:Heap).length=0 from rfl,show ([]++[some [D.cells (.agg [.list (list.map SLoader.row),.list [],.list [],.list []])]]:Heap).length=1 from rfl,e]
 simp only [readA_int,readA_bool,readA_str,readA_list,readA_sl0,readA_sl,readA_agg,readA_tup,Option.bind_some,readT_bool,loaderOk,tailOk,List.drop_zero]
 congr 2
 cases decide (l.Files.length≤5) <;> cases decide (l.Ways.length≤4) <;> cases inR l.Parent (-1) (list.length - 1) <;> cases filesOk l.Files 0 l.Files <;> cases waysOk l.Ways list.length 0 l.Ways <;> rfl
theorem c20_2 (list:List SLoader) (w:LoadersWf list) (H:Heap):∀ i,i≤list.length→J E 20 2 [.list (list.map SLoader.row),.int .i64 i] H=some (.bool ((list.drop i).all (fun l=>loaderOk l list.length) && inR list.length 1 3),H):=by
 have hw:=w.1
 apply loop_up
 ·rw [j20_2]
  simp only [lnL_list,List.length_map,bI_lss,Int.lt_irrefl,decide_false,Option.bind_some,asB_bool,cond_false,List.drop_length,List.all_nil,Bool.true_and]
  rw [pure_call (ts:=[.int .i64 list.length,.int .i64 1,.int .i64 3]) (by simp) (c63 _ _ _)]
  simp
 ·intro i hi ih
  have hlt:((i:Nat):Int) < (list.length:Int):=by omega
  rw [j20_2,List.drop_eq_getElem_cons hi,List.all_cons]
  simp only [lnL_list,List.length_map,bI_lss,hlt,decide_true,Option.bind_some,asB_bool,cond_true]
  rw [show bld [.sl0,.sl0,.sl0,.sl0] [(0,1,false),(1,1,false),(2,1,false),(3,1,false)] [(0,.list (list.map SLoader.row))]=some (.agg [.list (list.map SLoader.row),.sl0,.sl0,.sl0]) from rfl]
  simp only [Option.bind_some]
  rw [ia_loader (n:=(i:Int)) (by omega) (by omega)]
  simp only [Option.bind_some,ld_el,Int.toNat_natCast,show part (list[i]).row (0,3,true)=some (list[i]).d from rfl]
  rw [pure_call (ts:=[.agg [.list (list.map SLoader.row),.list [],.list [],.list []],(list[i]).d]) (by simp [SLoader.readD]) (c62 list w.1 _ (w.2 _ (List.getElem_mem hi)))]
  simp only [Option.bind_some,unOp_not,asB_bool]
  cases loaderOk list[i] list.length with
  | false=>rfl
  | true=>
   simp only [Bool.not_true,cond_false,bI_add,Option.bind_some,Bool.true_and]
   rw [wrap_i64 (n:=(i:Int) + 1) (by omega) (by omega)]
   exact ih
theorem c20 (list:List SLoader) (w:LoadersWf list):run E (exec E) false 20 [.list (list.map SLoader.row)]=some (.bool (loadersOk list)):=by
 rw [run_ent,e20,show D.int .i64 0=D.int .i64 ((0:Nat):Int) from rfl,c20_2 list w [] 0 (by omega)]
 simp only [readA_int,readA_bool,readA_str,readA_list,readA_sl0,readA_sl,readA_agg,readA_tup,Option.bind_some,readT_bool,List.drop_zero,loadersOk,Bool.and_comm]
end Go.Ev.YtmljkoieihaomaaGreat
namespace Go.Ev.YtmljkoieihaomaaGreat
set_option linter.unusedVariables false
set_option linter.unusedSimpArgs false
set_option linter.unusedSectionVars false
set_option linter.defProp false
set_option maxHeartbeats 1000000
open Go.Ev
end Go.Ev.YtmljkoieihaomaaGreat
namespace Go.Ev.YtmljkoieihaomaaGreat
set_option linter.unusedVariables false
set_option linter.unusedSimpArgs false
set_option linter.unusedSectionVars false
set_option linter.defProp false
set_option maxHeartbeats 1000000
open Go.Ev
theorem c72 (x:D) (H:Heap):ent E 72 [x] H=cloneR 2 32 [.str [],.str []] x H:=e72 x H
theorem o72 (l:List SFile) (hl:l.length≤1048576) {x:D} {H:Heap} (hx:readA H x=some (.list (l.map SFile.row))):callFn E (exec E) .own 72 [x] H=some (cloD H (l.map SFile.row),H++cloH (l.map SFile.row)):=clone_own c72 rfl (fun r hr=>by obtain ⟨x,_,rfl⟩:=List.mem_map.mp hr; rfl) (by simp [maxLen]; omega) (fun r hr=>by obtain ⟨x,_,rfl⟩:=List.mem_map.mp hr; rfl) hx
theorem c73 (x:D) (H:Heap):ent E 73 [x] H=cloneR 2 24 [.str [],.int .i64 0] x H:=e73 x H
theorem o73 (l:List SWay) (hl:l.length≤1048576) {x:D} {H:Heap} (hx:readA H x=some (.list (l.map SWay.row))):callFn E (exec E) .own 73 [x] H=some (cloD H (l.map SWay.row),H++cloH (l.map SWay.row)):=clone_own c73 rfl (fun r hr=>by obtain ⟨x,_,rfl⟩:=List.mem_map.mp hr; rfl) (by simp [maxLen]; omega) (fun r hr=>by obtain ⟨x,_,rfl⟩:=List.mem_map.mp hr; rfl) hx
theorem c71 (x:D) (H:Heap):ent E 71 [x] H=cloneR 3 56 [.sl0,.sl0,.int .i64 0] x H:=e71 x H
theorem o71 (l:List SLoader) (hl:l.length≤1048576) (H:Heap):callFn E (exec E) .shr 71 [.list (l.map SLoader.row)] H=some (cloD H (l.map SLoader.row),H++cloH (l.map SLoader.row)):=clone_shr c71 rfl (fun r hr=>by obtain ⟨x,_,rfl⟩:=List.mem_map.mp hr; rfl) (by simp [maxLen]; omega) (fun r hr d hd=>by obtain ⟨x,_,rfl⟩:=List.mem_map.mp hr; simp only [SLoader.row,List.mem_cons,List.not_mem_nil,or_false] at hd; rcases hd with rfl | rfl | rfl <;> rfl)
end Go.Ev.YtmljkoieihaomaaGreat
namespace Go.Ev.YtmljkoieihaomaaGreat
set_option linter.unusedVariables false
set_option linter.unusedSimpArgs false
set_option linter.unusedSectionVars false
set_option linter.defProp false
set_option maxHeartbeats 1000000
open Go.Ev
def Took {α:Type} (g:Get α) (s:List UInt8) (bad:Bool) (a:α) (s':List UInt8) (bad':Bool):Prop:=
 s'.length≤s.length∧match (if bad=true then none else g s) with
 | some q=>a=q.1∧s'=q.2∧bad'=false
 | none=>bad'=true
theorem Took.seq {α β:Type} {g:Get α} {h:α→Get β} {s s1 s2:List UInt8} {bad b1 b2:Bool} {a:α} {b:β} (t1:Took g s bad a s1 b1) (t2:Took (h a) s1 b1 b s2 b2):Took (bindG g h) s bad b s2 b2:=by
 obtain ⟨l1,t1⟩:=t1
 obtain ⟨l2,t2⟩:=t2
 refine ⟨by omega,?_⟩
 cases bad with
 | true=>
  simp only [if_true] at t1 ⊢
  subst t1
  simpa using t2
 | false=>
  simp only [Bool.false_eq_true,if_false] at t1 ⊢
  unfold bindG
  cases hg:g s with
  | none=>
   rw [hg] at t1
   simp only at t1
   subst t1
   simpa using t2
  | some q=>
   rw [hg] at t1
   simp only at t1
   obtain ⟨rfl,rfl,rfl⟩:=t1
   simpa using t2
theorem Took.pure {α:Type} (a:α) (s:List UInt8) (bad:Bool):Took (pureG a) s bad a s bad:=by
 refine ⟨Nat.le_refl _,?_⟩
 cases bad <;> simp [pureG]
theorem Took.fail {α:Type} (a:α) (s:List UInt8) (bad:Bool):Took failG s bad a s true:=by
 refine ⟨Nat.le_refl _,?_⟩
 cases bad <;> simp [failG]
theorem Took.len {α:Type} {g:Get α} {s s1:List UInt8} {bad b1:Bool} {a:α} (t:Took g s bad a s1 b1):s1.length≤s.length:=t.1
theorem Took.dead {α:Type} {g:Get α} {s s1:List UInt8} {b1:Bool} {a:α} (t:Took g s true a s1 b1):b1=true:=by
 obtain ⟨-,t⟩:=t
 simpa using t
theorem Took.bad {α:Type} (g:Get α) (a:α) (s:List UInt8):Took g s true a s true:=⟨Nat.le_refl _,by simp⟩
end Go.Ev.YtmljkoieihaomaaGreat
namespace Go.Ev.YtmljkoieihaomaaGreat
set_option linter.unusedVariables false
set_option linter.unusedSimpArgs false
set_option linter.unusedSectionVars false
set_option linter.defProp false
set_option maxHeartbeats 1000000
open Go.Ev
end Go.Ev.YtmljkoieihaomaaGreat
namespace Go.Ev.YtmljkoieihaomaaGreat
set_option linter.unusedVariables false
set_option linter.unusedSimpArgs false
set_option linter.unusedSectionVars false
set_option linter.defProp false
set_option maxHeartbeats 1000000
open Go.Ev
end Go.Ev.YtmljkoieihaomaaGreat
namespace Go.Ev.YtmljkoieihaomaaGreat
set_option linter.unusedVariables false
set_option linter.unusedSimpArgs false
set_option linter.unusedSectionVars false
set_option linter.defProp false
set_option maxHeartbeats 1000000
open Go.Ev
end Go.Ev.YtmljkoieihaomaaGreat
namespace Go.Ev.YtmljkoieihaomaaGreat
set_option linter.unusedVariables false
set_option linter.unusedSimpArgs false
set_option linter.unusedSectionVars false
set_option linter.defProp false
set_option maxHeartbeats 1000000
open Go.Ev
end Go.Ev.YtmljkoieihaomaaGreat
namespace Go.Ev.YtmljkoieihaomaaGreat
set_option linter.unusedVariables false
set_option linter.unusedSimpArgs false
set_option linter.unusedSectionVars false
set_option linter.defProp false
set_option maxHeartbeats 1000000
open Go.Ev
end Go.Ev.YtmljkoieihaomaaGreat
namespace Go.Ev.YtmljkoieihaomaaGreat
set_option linter.unusedVariables false
set_option linter.unusedSimpArgs false
set_option linter.unusedSectionVars false
set_option linter.defProp false
set_option maxHeartbeats 1000000
open Go.Ev
end Go.Ev.YtmljkoieihaomaaGreat
namespace Go.Ev.YtmljkoieihaomaaGreat
set_option linter.unusedVariables false
set_option linter.unusedSimpArgs false
set_option linter.unusedSectionVars false
set_option linter.defProp false
set_option maxHeartbeats 1000000
open Go.Ev
end Go.Ev.YtmljkoieihaomaaGreat
namespace Go.Ev.YtmljkoieihaomaaGreat
set_option linter.unusedVariables false
set_option linter.unusedSimpArgs false
set_option linter.unusedSectionVars false
set_option linter.defProp false
set_option maxHeartbeats 1000000
open Go.Ev
end Go.Ev.YtmljkoieihaomaaGreat
namespace Go.Ev.YtmljkoieihaomaaGreat
set_option linter.unusedVariables false
set_option linter.unusedSimpArgs false
set_option linter.unusedSectionVars false
set_option linter.defProp false
set_option maxHeartbeats 1000000
open Go.Ev
theorem flat_get {α:Type} (p:α→List UInt8):∀ {l:List α} {x:α},x ∈ l→(p x).length≤(l.flatMap p).length
 | y :: l,x,h=>by
  rw [List.flatMap_cons,List.length_append]
  rcases List.mem_cons.mp h with rfl | h
  ·omega
  ·have:=flat_get p h; omega
section
end
end Go.Ev.YtmljkoieihaomaaGreat
namespace Go.Ev.YtmljkoieihaomaaGreat
set_option linter.unusedVariables false
set_option linter.unusedSimpArgs false
set_option linter.unusedSectionVars false
set_option linter.defProp false
set_option maxHeartbeats 1000000
open Go.Ev
end Go.Ev.YtmljkoieihaomaaGreat
namespace Go.Ev.YtmljkoieihaomaaGreat
set_option linter.unusedVariables false
set_option linter.unusedSimpArgs false
set_option linter.unusedSectionVars false
set_option linter.defProp false
set_option maxHeartbeats 1000000
open Go.Ev
end Go.Ev.YtmljkoieihaomaaGreat
namespace Go.Ev.YtmljkoieihaomaaGreat
set_option linter.unusedVariables false
set_option linter.unusedSimpArgs false
set_option linter.unusedSectionVars false
set_option linter.defProp false
set_option maxHeartbeats 1000000
open Go.Ev
section
end
end Go.Ev.YtmljkoieihaomaaGreat
namespace Go.Ev.YtmljkoieihaomaaGreat
set_option linter.unusedVariables false
set_option linter.unusedSimpArgs false
set_option linter.unusedSectionVars false
set_option linter.defProp false
set_option maxHeartbeats 1000000
open Go.Ev
end Go.Ev.YtmljkoieihaomaaGreat
namespace Go.Ev.YtmljkoieihaomaaGreat
set_option linter.unusedVariables false
set_option linter.unusedSimpArgs false
set_option linter.unusedSectionVars false
set_option linter.defProp false
set_option maxHeartbeats 1000000
open Go.Ev
end Go.Ev.YtmljkoieihaomaaGreat
namespace Go.Ev.YtmljkoieihaomaaGreat
set_option linter.unusedVariables false
set_option linter.unusedSimpArgs false
set_option linter.unusedSectionVars false
set_option linter.defProp false
set_option maxHeartbeats 1000000
open Go.Ev
section
variable {w:Int→List UInt8} {ab:Int→Bool} (hw:∀ n,(w n).length=2)
include hw
end
end Go.Ev.YtmljkoieihaomaaGreat
namespace Go.Ev.YtmljkoieihaomaaGreat
set_option linter.unusedVariables false
set_option linter.unusedSimpArgs false
set_option linter.unusedSectionVars false
set_option linter.defProp false
set_option maxHeartbeats 1000000
open Go.Ev
end Go.Ev.YtmljkoieihaomaaGreat
namespace Go.Ev.YtmljkoieihaomaaGreat
set_option linter.unusedVariables false
set_option linter.unusedSimpArgs false
set_option linter.unusedSectionVars false
set_option linter.defProp false
set_option maxHeartbeats 1000000
open Go.Ev
structure Fine (p:List SConst):Prop where
 ok:PoolOk p
 fine:∀ x ∈ p,entryM p x=true
end Go.Ev.YtmljkoieihaomaaGreat
namespace Go.Ev.YtmljkoieihaomaaGreat
set_option linter.unusedVariables false
set_option linter.unusedSimpArgs false
set_option linter.unusedSectionVars false
set_option linter.defProp false
set_option maxHeartbeats 1000000
open Go.Ev
theorem take_next {α:Type} {l:List α} {i:Nat} (hi:i < l.length):l.take (i + 1)=l.take i++[l[i]]:=by rw [List.take_add_one,List.getElem?_eq_getElem hi]; rfl
end Go.Ev.YtmljkoieihaomaaGreat
namespace Go.Ev.YtmljkoieihaomaaGreat
set_option linter.unusedVariables false
set_option linter.unusedSimpArgs false
set_option linter.unusedSectionVars false
set_option linter.defProp false
set_option maxHeartbeats 1000000
open Go.Ev
end Go.Ev.YtmljkoieihaomaaGreat
namespace Go.Ev.YtmljkoieihaomaaGreat
set_option linter.unusedVariables false
set_option linter.unusedSimpArgs false
set_option linter.unusedSectionVars false
set_option linter.defProp false
set_option maxHeartbeats 1000000
open Go.Ev
section
variable (c:SClass) (hf:Fine c.Pool) (m:SMethod) (wm:m.wf) (ops:List SIns) (ho:ops.length≤140737488351232)
include hf wm ho
end
section
variable (c:SClass) (hf:Fine c.Pool) (w:c.wf)
include hf w
end
end Go.Ev.YtmljkoieihaomaaGreat
namespace Go.Ev.YtmljkoieihaomaaGreat
set_option linter.unusedVariables false
set_option linter.unusedSimpArgs false
set_option linter.unusedSectionVars false
set_option linter.defProp false
set_option maxHeartbeats 1000000
open Go.Ev
section
variable (c:SClass) (w:c.wf) (hF:0≤c.Flags∧c.Flags≤255)
include w
end
end Go.Ev.YtmljkoieihaomaaGreat
namespace Go.Ev.YtmljkoieihaomaaGreat
set_option linter.unusedVariables false
set_option linter.unusedSimpArgs false
set_option linter.unusedSectionVars false
set_option linter.defProp false
set_option maxHeartbeats 1000000
open Go.Ev
section
variable (c:SClass) (w:c.wf) (hF:0≤c.Flags∧c.Flags≤255)
include w
end
end Go.Ev.YtmljkoieihaomaaGreat
namespace Go.Ev.YtmljkoieihaomaaGreat
set_option linter.unusedVariables false
set_option linter.unusedSimpArgs false
set_option linter.unusedSectionVars false
set_option linter.defProp false
set_option maxHeartbeats 1000000
open Go.Ev
section
variable (c:SClass) (w:c.wf) (hF:0≤c.Flags∧c.Flags≤255)
include w
variable (m:SMethod) (wm:m.wf) (hm:0≤m.Flags∧m.Flags≤255) (ops:List SIns) (ho:ops.length≤140737488351232)
include wm ho
end
end Go.Ev.YtmljkoieihaomaaGreat
namespace Go.Ev.YtmljkoieihaomaaGreat
set_option linter.unusedVariables false
set_option linter.unusedSimpArgs false
set_option linter.unusedSectionVars false
set_option linter.defProp false
set_option maxHeartbeats 1000000
open Go.Ev
section
variable (c:SClass) (w:c.wf) (hF:0≤c.Flags∧c.Flags≤255)
include w
variable (m:SMethod) (wm:m.wf) (hm:0≤m.Flags∧m.Flags≤255)
include wm hm
end
end Go.Ev.YtmljkoieihaomaaGreat
namespace Go.Ev.YtmljkoieihaomaaGreat
set_option linter.unusedVariables false
set_option linter.unusedSimpArgs false
set_option linter.unusedSectionVars false
set_option linter.defProp false
set_option maxHeartbeats 1000000
open Go.Ev
def objM:SCls:={ Name:=[79,98,106],Loader:=-1,Super:=-1,State:=2,Begun:=2 }
def errM:SCls:={ Name:=[69,114,114],Loader:=-1,Super:=0,State:=2,Begun:=2 }
def firstM:List SCls:=[objM,errM]
def newM (l:List SLoader):SWorld:={ Loaders:=l,Classes:=firstM }
def worldNewM (l:List SLoader):SWorld:=if loadersOk l=true then newM l else {}
theorem c25:OwnC E 2 25 [] (.list (firstM.map SCls.row)):=by
 refine ⟨.sl 0 0 2,[some [objM.row.map unz,errM.row.map unz]],[0],?_,.sl (rows:=[objM.row.map unz,errM.row.map unz]) rfl (.cons (B:=[]) (B':=[]) (RepR.zero rfl) (.cons (B:=[]) (B':=[]) (RepR.zero rfl) .nil)),by simp⟩
 rw [e25]; rfl
abbrev LoadersFit (l:List SLoader):Prop:=l.length≤1048576∧∀ x ∈ l,x.Files.length≤1048576∧x.Ways.length≤1048576
theorem c24_3 (b n:Nat) (hn:n≤1048576):∀ (rest pre:List SLoader) (H:Heap),Turn 0 H b 1 (pre.map SLoader.row) (rest.map SLoader.row)→pre.length + rest.length=n→(∀ x ∈ rest,x.Files.length≤1048576∧x.Ways.length≤1048576) →
  ∃ H',J E 24 3 [.sl b 0 n,.sl b 0 n,.int .i64 n,.int .i64 pre.length] H=some (.sl b 0 n,H')∧Turn 0 H' b 1 ((pre++rest).map SLoader.row) []
 | [],pre,H,T,hl,hf=>by
  have e:pre.length=n:=by simpa using hl
  rw [j24_3,e]
  simp only [bI_lss,Int.lt_irrefl,decide_false,Option.bind_some,asB_bool,cond_false,ret_one]
  exact ⟨H,rfl,by simpa using T⟩
 | x :: rest,pre,H,T,hl,hf=>by
  obtain ⟨f1,f2⟩:=hf x (by simp)
  rw [List.map_cons] at T
  have hlt:((pre.length:Nat):Int) < (n:Int):=by simp at hl; omega
  have hlt2:pre.length < n:=by omega
  have hbl:=T.lt
  obtain ⟨rows,hb,hi⟩:=T.get
  rw [List.length_map] at hi
  have hia:∀ K,ia 3 (H++K) (.sl b 0 n) (.int .i64 pre.length)=some (.ptr b pre.length 0):=fun K=>by
   have:=ia_sl (k:=.i64) (o:=0) (n:=n) (i:=(pre.length:Int)) (esz:=3) (getBlk_app hb (K:=K)) (by omega) (by omega) (row:=x.row) (by simpa using hi) rfl
   simpa using this
  have hia0:=hia []
  rw [List.append_nil] at hia0
  rw [j24_3]
  simp only [bI_lss,hlt,decide_true,Option.bind_some,asB_bool,cond_true,hia0,ld_ptr hb hi,SLoader.all]
  rw [alloc_eq _ _ _ rfl,put_loc (z:=3) H [.sl0,.sl0,.int .i64 0] x.row rfl rfl rfl]
  have g6:getBlk (H++[some [x.row]]) H.length=some [x.row]:=getBlk_self _ _ []
  simp only [Option.bind_some,fa_ptr,ld_in0 g6,show x.row[0 + 0]? = some (.list (x.Files.map SFile.row)) from rfl]
  rw [o72 x.Files f1 (by simp)]
  simp only [Option.bind_some,ld_in g6,show x.row[0 + 1]? = some (.list (x.Ways.map SWay.row)) from rfl]
  rw [o73 x.Ways f2 (by simp)]
  have c1:=clo_fresh (H++[some [x.row]]) (x.Files.map SFile.row)
  have c2:=clo_fresh (H++[some [x.row]]++cloH (x.Files.map SFile.row)) (x.Ways.map SWay.row)
  have r1:=clo_flat (o:=true) (H:=H++[some [x.row]]) 0 (SFile.scalar x.Files)
  have r2:=clo_flat (o:=true) (H:=H++[some [x.row]]++cloH (x.Files.map SFile.row)) 0 (SWay.scalar x.Ways)
  generalize hd1:cloD (H++[some [x.row]]) (x.Files.map SFile.row)=d1 at r1
  generalize hd2:cloD (H++[some [x.row]]++cloH (x.Files.map SFile.row)) (x.Ways.map SWay.row)=d2 at r2
  have k1:d1.cells=[d1]∧d1.isCell=true:=by rw [← hd1]; exact ⟨clo_cells _ _,clo_cell _ _⟩
  have k2:d2.cells=[d2]∧d2.isCell=true:=by rw [← hd2]; exact ⟨clo_cells _ _,clo_cell _ _⟩
  have hK:H++[some [x.row]]++cloH (x.Files.map SFile.row)++cloH (x.Ways.map SWay.row)=H++([some [x.row]]++cloH (x.Files.map SFile.row)++cloH (x.Ways.map SWay.row)):=by simp
  rw [hK] at r2 c2 ⊢
  have c12:=((FreshB.mk ⟨_,rfl⟩ List.nodup_nil (fun b hb=>by cases hb):FreshB H (H++[some [x.row]]) []).append c1).append c2
  have r1':=r1.frame (H':=H++([some [x.row]]++cloH (x.Files.map SFile.row)++cloH (x.Ways.map SWay.row))) fun c hc=>by rw [← hK]; exact getBlk_left (c1.rng c hc).2
  generalize hKd:([some [x.row]]++cloH (x.Files.map SFile.row)++cloH (x.Ways.map SWay.row):Heap)=K at *
  have hbK:=getBlk_app hb (K:=K)
  have hltK:b < (H++K).length:=by simp; omega
  simp only [Option.bind_some,hia K,fa_ptr]
  have s1:=st_ptr (z:=1) (f:=0 + 0) (v:=d1) hbK hi (by rw [k1.1]; rfl) (by rw [k1.1]; simp [k1.2]) (by simp)
  have hb1:=getBlk_set_self (x:=some (rows.set pre.length (x.row.take (0 + 0)++d1.cells++x.row.drop (0 + 0 + 1)))) hltK
  have hip:pre.length < rows.length:=by rcases Nat.lt_or_ge pre.length rows.length with h | h; exact h; rw [List.getElem?_eq_none h] at hi; cases hi
  have hi1:(rows.set pre.length (x.row.take (0 + 0)++d1.cells++x.row.drop (0 + 0 + 1)))[pre.length]? = some (x.row.take (0 + 0)++d1.cells++x.row.drop (0 + 0 + 1)):=by simp [hip]
  have hia1:=ia_sl (k:=.i64) (o:=0) (n:=n) (i:=(pre.length:Int)) (esz:=3) hb1 (by omega) (by omega) (row:=x.row.take (0 + 0)++d1.cells++x.row.drop (0 + 0 + 1)) (by simpa using hi1) (by rw [k1.1]; rfl)
  have hia1':ia 3 ((H++K).set b (some (rows.set pre.length (x.row.take (0 + 0)++d1.cells++x.row.drop (0 + 0 + 1))))) (.sl b 0 n) (.int .i64 pre.length)=some (.ptr b pre.length 0):=by simpa using hia1
  have s2:=st_ptr (z:=1) (f:=0 + 1) (v:=d2) hb1 hi1 (by rw [k2.1]; rfl) (by rw [k2.1]; simp [k2.2]) (by rw [k1.1]; simp [SLoader.row])
  simp only [s1,Option.bind_some,hia1',fa_ptr,s2]
  have hrow:(x.row.take (0 + 0)++d1.cells++x.row.drop (0 + 0 + 1)).take (0 + 1)++d2.cells++(x.row.take (0 + 0)++d1.cells++x.row.drop (0 + 0 + 1)).drop (0 + 1 + 1)=[d1,d2,.int .i64 x.Parent]:=by rw [k1.1,k2.1]; rfl
  rw [hrow,List.set_set,List.set_set,bI_add,nat_succ64 hlt2 (by omega)]
  have hR:RepR true (H++K) 1 [d1,d2,.int .i64 x.Parent] x.row ([]++cloB (H++[some [x.row]]) (x.Files.map SFile.row)++cloB (H++[some [x.row]]++cloH (x.Files.map SFile.row)) (x.Ways.map SWay.row)):=by
   have:=RepR.cons r1' (RepR.cons r2 (RepR.cons (B:=[]) (B':=[]) (.sc (d:=.int .i64 x.Parent) rfl) .nil))
   have h2:RepR true (H++K) 1 [d1,d2,.int .i64 x.Parent] [.list (x.Files.map SFile.row),.list (x.Ways.map SWay.row),.int .i64 x.Parent] ([]++cloB (H++[some [x.row]]) (x.Files.map SFile.row)++cloB (H++[some [x.row]]++cloH (x.Files.map SFile.row)) (x.Ways.map SWay.row)):=by simpa using this
   exact h2
  have T':=T.put (K:=K) hb hR c12
  ·rw [List.length_map] at T'
   have T2:Turn 0 ((H++K).set b (some (rows.set pre.length [d1,d2,.int .i64 x.Parent]))) b 1 ((pre++[x]).map SLoader.row) (rest.map SLoader.row):=by simpa using T'
   obtain ⟨H',e,T3⟩:=c24_3 b n hn rest (pre++[x]) _ T2 (by simp at hl ⊢; omega) fun y hy=>hf y (by simp [hy])
   refine ⟨H',?_,by simpa using T3⟩
   simpa using e
theorem c24 (l:List SLoader) (hl:LoadersFit l):OwnC E 3 24 [.list (l.map SLoader.row)] (.list (l.map SLoader.row)):=by
 unfold OwnC
 rw [e24,o71 l hl.1]
 simp only [Option.bind_some,clo_len,List.length_map,List.nil_append]
 by_cases e0:l=[]
 ·subst e0
  rw [j24_3]
  exact ⟨_,_,[],rfl,.sl0,List.nodup_nil⟩
 ·have h1:cloD [] (l.map SLoader.row) = .sl 0 0 l.length:=by simp [cloD,e0]
  have h2:cloH (l.map SLoader.row)=[some (l.map SLoader.row)]:=by simp [cloH,e0]
  rw [h1,h2]
  obtain ⟨H',e,T⟩:=c24_3 0 l.length hl.1 l [] [some (l.map SLoader.row)] (Turn.start rfl (Nat.le_refl _)) (by simp) hl.2
  obtain ⟨B,r,nd,-⟩:=T.done
  simp only [List.nil_append,List.length_map,List.length_nil,Int.natCast_zero] at e r
  exact ⟨_,H',B,e,r.up (by decide),nd⟩
theorem loadersOk_fit {l:List SLoader} (h:loadersOk l=true):LoadersFit l:=by
 have h1:=loadersOk_len h
 refine ⟨by omega,fun x hx=>?_⟩
 have:=loaderOk_get h hx
 simp only [loaderOk,Bool.and_eq_true,decide_eq_true_eq] at this
 omega
theorem c8 (l:List SLoader) (w:LoadersWf l):OwnC E 5 8 [.list (l.map SLoader.row)] (worldNewM l).d:=by
 unfold OwnC
 rw [e8,alloc_eq _ _ _ rfl]
 rw [pure_call (ts:=[.list (l.map SLoader.row)]) (by simp) (c23 l w)]
 simp only [Option.bind_some,unOp_not,asB_bool,List.nil_append,List.length_nil,worldNewM]
 cases hk:loadersOk l with
 | false=>
  exact ⟨_,_,[],rfl,.agg (RepR.zero (ts:=({}:SWorld).row) rfl),List.nodup_nil⟩
 | true=>
  simp only [Bool.not_true,cond_false,if_true]
  obtain ⟨d1,H1,B1,q1,r1,f1⟩:=(c24 l (loadersOk_fit hk)).call (by decide) (H0:=[some [[.sl0,.sl0,.sl0,.sl0]]]) (ds:=[.list (l.map SLoader.row)]) (by simp)
  rw [q1]
  simp only [Option.bind_some]
  obtain ⟨d2,H2,B2,q2,r2,f2⟩:=c25.call (by decide) (H0:=H1) (ds:=[]) rfl
  rw [q2]
  simp only [Option.bind_some]
  have k1:=r1.slice
  have k2:=r2.slice
  have hb:bld [.sl0,.sl0,.sl0,.sl0] [(0,1,false),(1,1,false),(2,1,false),(3,1,false)] [(0,d1),(1,d2)]=some (.agg [d1,d2,.sl0,.sl0]):=by
   simp [bld,fillC,k1.1,k1.2,k2.1,k2.2]
  have g0:getBlk H2 0=some [[.sl0,.sl0,.sl0,.sl0]]:=(f2.keep (by have:=f1.len; simp at this; omega)).trans ((f1.keep (by simp)).trans rfl)
  rw [hb]
  simp only [Option.bind_some]
  obtain ⟨G,s1,s2,s3⟩:∃ G,st 4 H2 (.ptr 0 0 0) (.agg [d1,d2,.sl0,.sl0])=some G∧getBlk G 0=some [[d1,d2,.sl0,.sl0]]∧∀ c,c ≠ 0→getBlk G c=getBlk H2 c:=
   ⟨_,st_ptr (z:=4) (f:=0) (v:=.agg [d1,d2,.sl0,.sl0]) g0 rfl rfl (by simp [D.cells,k1.2,k2.2]) (by simp),by rw [getBlk_set_self (getBlk_lt' g0)]; rfl,fun c hc=>getBlk_ne hc⟩
  have n1:∀ c ∈ B1,c ≠ 0:=fun c hc=>by have:=(f1.rng c hc).1; simp at this; omega
  have n2:∀ c ∈ B2,c ≠ 0:=fun c hc=>by have:=(f2.rng c hc).1; have:=f1.len; simp at this; omega
  have q1:=(r1.frame (H':=H2) fun c hc=>f2.keep (f1.rng c hc).2).frame (H':=G) fun c hc=>s3 c (n1 c hc)
  have q2:=r2.frame (H':=G) fun c hc=>s3 c (n2 c hc)
  simp only [s1,Option.bind_some]
  rw [ld_ptr s2 rfl]
  refine ⟨.agg [d1,d2,.sl0,.sl0],G,B1++(B2++([]++([]++[]))),rfl,.agg (.cons (q1.up (by decide)) (.cons (q2.up (by decide)) (.cons (B:=[]) (B':=[]++[]) .sl0 (.cons (B:=[]) (B':=[]) .sl0 .nil)))),?_⟩
  simp only [List.append_nil]
  rw [List.nodup_append]
  refine ⟨f1.nodup,f2.nodup,fun a ha b hb e=>?_⟩
  have:=(f1.rng a ha).2; have:=(f2.rng b hb).1; omega
theorem app_clone {esz eb:Nat} {H:Heap} {rows:Rows} (hr:∀ r ∈ rows,r.length=esz) (hl:rows.length * (eb + 1)≤maxLen):app esz eb H .sl0 (.list rows)=some (cloD H rows,H++cloH rows):=by
 have hfit:rowsFit esz rows=true:=by
  cases rows with
  | nil=>rfl
  | cons a l=>simpa [rowsFit] using hr a (by simp)
 by_cases h:rows=[]
 ·subst h; simp [app,srcRows,rowsFit,cloD,cloH]
 ·have hne:rows.isEmpty=false:=by cases rows with
   | nil=>exact absurd rfl h
   | cons a l=>rfl
  simp [app,srcRows,hfit,hne,hl,cloD,cloH,h]
theorem AccR.keep {lv esz:Nat} {H H':Heap} {d:D} {ts:Rows} (h:AccR lv esz H d ts) (hl:H.length≤H'.length) (hf:∀ b,b < H.length→getBlk H' b=getBlk H b):AccR lv esz H' d ts:=by
 obtain ⟨rows,B,h1,h2,h3⟩:=h
 refine ⟨rows,B,⟨h1.1,?_⟩,h2.frame fun c hc=>hf c (h3 c hc).1,fun c hc=>⟨by have:=(h3 c hc).1; omega,(h3 c hc).2⟩⟩
 rcases h1.2 with ⟨e,f⟩ | ⟨e,b,f,hb⟩
 ·exact .inl ⟨e,f⟩
 ·exact .inr ⟨e,b,f,(hf b (getBlk_lt' hb)).trans hb⟩
theorem AccR.base {lv esz:Nat} {H:Heap} {d:D} {ts:Rows} (h:AccR lv esz H d ts) {b o n:Nat} (e:d = .sl b o n):b < H.length:=by
 obtain ⟨rows,B,h1,h2,h3⟩:=h
 rcases h1.2 with ⟨-,f⟩ | ⟨-,b',f,hb⟩
 ·rw [e] at f; cases f
 ·rw [e] at f; cases f; exact getBlk_lt' hb
theorem c64_3 (l:List SLoader) (hl:LoadersFit l):∀ i,i≤l.length→∀ (H:Heap) (d:D),AccR 1 3 H d ((l.take i).map SLoader.row)→∃ d' H',J E 64 3 [.list (l.map SLoader.row),d,.int .i64 i] H=some (d',H')∧AccR 1 3 H' d' (l.map SLoader.row):=by
 apply loop_up
 ·intro H d A
  rw [j64_3]
  simp only [lnL_list,List.length_map,Option.bind_some,bI_lss,Int.lt_irrefl,decide_false,asB_bool,cond_false,ret_one]
  exact ⟨d,H,rfl,by simpa using A⟩
 ·intro i hi ih H d A
  obtain ⟨f1,f2⟩:=hl.2 _ (List.getElem_mem hi)
  have hl1:=hl.1
  have hia:=fun H=>ia_nat (row:=SLoader.row) SLoader.len (H:=H) hi
  have hn:(l.take (i + 1)).map SLoader.row=(l.take i).map SLoader.row++[(l[i]).row]:=by rw [take_next hi,List.map_append]; rfl
  have hw:=nat_succ64 hi (by omega)
  rw [hn] at ih
  rw [j64_3]
  simp only [lnL_list,List.length_map,Option.bind_some,bI_lss,lt64 hi,asB_bool,cond_true,hia,ld_el,SLoader.all]
  generalize l[i]=x at *
  rw [alloc_eq _ _ _ rfl,put_loc (z:=3) H [.sl0,.sl0,.int .i64 0] x.row rfl rfl rfl]
  simp only [Option.bind_some,bsl_zero _ _ _ (show [D.str [],.str []].all D.isCell=true from rfl),fa_ptr]
  have A1:=A.frame [some [x.row]]
  have g0:getBlk (H++[some [x.row]]) H.length=some [x.row]:=getBlk_self _ _ []
  rw [ld_in0 g0,show x.row[0 + 0]? = some (.list (x.Files.map SFile.row)) from rfl]
  simp only [Option.bind_some]
  rw [app_clone (fun r hr=>by obtain ⟨y,_,rfl⟩:=List.mem_map.mp hr; rfl) (by simp [maxLen]; omega)]
  simp only [Option.bind_some]
  have k1:=And.intro (clo_cells (H++[some [x.row]]) (x.Files.map SFile.row)) (clo_cell (H++[some [x.row]]) (x.Files.map SFile.row))
  have r1:=clo_flat (o:=false) (H:=H++[some [x.row]]) 0 (SFile.scalar x.Files)
  have c1:=clo_fresh (H++[some [x.row]]) (x.Files.map SFile.row)
  have A2:=A1.frame (cloH (x.Files.map SFile.row))
  have g1:=getBlk_app g0 (K:=cloH (x.Files.map SFile.row))
  have e1:(H++[some [x.row]]).length=H.length + 1:=by simp
  have l1:(H++[some [x.row]]).length≤(H++[some [x.row]]++cloH (x.Files.map SFile.row)).length:=by simp
  have f1':∀ b,b < H.length→getBlk (H++[some [x.row]]++cloH (x.Files.map SFile.row)) b=getBlk H b:=fun b hb=>by rw [List.append_assoc]; exact getBlk_left hb
  generalize cloD (H++[some [x.row]]) (x.Files.map SFile.row)=d1 at *
  generalize H++[some [x.row]]++cloH (x.Files.map SFile.row)=H1 at *
  have s1:=st_ptr (z:=1) (f:=0 + 0) (v:=d1) g1 (i:=0) (row:=x.row) rfl (by rw [k1.1]; rfl) (by rw [k1.1]; simp [k1.2]) (by simp)
  have hr1:x.row.take (0 + 0)++d1.cells++x.row.drop (0 + 0 + 1)=[d1,.list (x.Ways.map SWay.row),.int .i64 x.Parent]:=by rw [k1.1]; rfl
  rw [hr1,show [x.row].set 0 [d1,.list (x.Ways.map SWay.row),.int .i64 x.Parent]=[[d1,.list (x.Ways.map SWay.row),.int .i64 x.Parent]] from rfl] at s1
  rw [s1]
  have hlt1:H.length < H1.length:=by omega
  have g2:=getBlk_set_self (x:=some [[d1,.list (x.Ways.map SWay.row),.int .i64 x.Parent]]) hlt1
  have n2:=fun (c:Nat) (hc:c ≠ H.length)=>getBlk_ne (H:=H1) (b:=c) (c:=H.length) (x:=some [[d1,.list (x.Ways.map SWay.row),.int .i64 x.Parent]]) hc
  have l2:(H1.set H.length (some [[d1,.list (x.Ways.map SWay.row),.int .i64 x.Parent]])).length=H1.length:=by simp
  generalize H1.set H.length (some [[d1,.list (x.Ways.map SWay.row),.int .i64 x.Parent]])=H2 at *
  simp only [Option.bind_some,bsl_zero _ _ _ (show [D.str [],.int .i64 0].all D.isCell=true from rfl),ld_in0 g2,show [d1,.list (x.Ways.map SWay.row),.int .i64 x.Parent][0 + 1]? = some (.list (x.Ways.map SWay.row)) from rfl]
  rw [app_clone (fun r hr=>by obtain ⟨y,_,rfl⟩:=List.mem_map.mp hr; rfl) (by simp [maxLen]; omega)]
  simp only [Option.bind_some]
  have k2:=And.intro (clo_cells H2 (x.Ways.map SWay.row)) (clo_cell H2 (x.Ways.map SWay.row))
  have r2:=clo_flat (o:=false) (H:=H2) 0 (SWay.scalar x.Ways)
  have c2:=clo_fresh H2 (x.Ways.map SWay.row)
  have g3:=getBlk_app g2 (K:=cloH (x.Ways.map SWay.row))
  have l3:H2.length≤(H2++cloH (x.Ways.map SWay.row)).length:=by simp
  have f3:∀ b,b < H2.length→getBlk (H2++cloH (x.Ways.map SWay.row)) b=getBlk H2 b:=fun b hb=>getBlk_left hb
  generalize cloD H2 (x.Ways.map SWay.row)=d2 at *
  generalize H2++cloH (x.Ways.map SWay.row)=H3 at *
  have s2:=st_ptr (z:=1) (f:=0 + 1) (v:=d2) g3 (i:=0) (row:=[d1,.list (x.Ways.map SWay.row),.int .i64 x.Parent]) rfl (by rw [k2.1]; rfl) (by rw [k2.1]; simp [k2.2]) (by simp)
  have hr2:[d1,.list (x.Ways.map SWay.row),.int .i64 x.Parent].take (0 + 1)++d2.cells++[d1,.list (x.Ways.map SWay.row),.int .i64 x.Parent].drop (0 + 1 + 1)=[d1,d2,.int .i64 x.Parent]:=by rw [k2.1]; rfl
  rw [hr2,show [[d1,.list (x.Ways.map SWay.row),.int .i64 x.Parent]].set 0 [d1,d2,.int .i64 x.Parent]=[[d1,d2,.int .i64 x.Parent]] from rfl] at s2
  rw [s2]
  have hlt3:H.length < H3.length:=by omega
  have g4:=getBlk_set_self (x:=some [[d1,d2,.int .i64 x.Parent]]) hlt3
  have n4:=fun (c:Nat) (hc:c ≠ H.length)=>getBlk_ne (H:=H3) (b:=c) (c:=H.length) (x:=some [[d1,d2,.int .i64 x.Parent]]) hc
  have l4:(H3.set H.length (some [[d1,d2,.int .i64 x.Parent]])).length=H3.length:=by simp
  generalize H3.set H.length (some [[d1,d2,.int .i64 x.Parent]])=H4 at *
  simp only [Option.bind_some]
  rw [ld_ptr g4 rfl]
  have A4:AccR 1 3 H4 d ((l.take i).map SLoader.row):=AccR.keep A (by omega) fun b hb=>(n4 b (by omega)).trans ((f3 b (by omega)).trans ((n2 b (by omega)).trans (f1' b hb)))
  have q1:=r1.frame (H':=H4) fun c hc=>by have:=c1.rng c hc; exact (n4 c (by omega)).trans ((f3 c (by omega)).trans (n2 c (by omega)))
  have q2:=r2.frame (H':=H4) fun c hc=>by have:=c2.rng c hc; exact n4 c (by omega)
  have hR:RepR false H4 1 [d1,d2,.int .i64 x.Parent] x.row (cloB (H++[some [x.row]]) (x.Files.map SFile.row)++(cloB H2 (x.Ways.map SWay.row)++([]++[]))):=.cons q1 (.cons q2 (.cons (.sc rfl) .nil))
  obtain ⟨d',H',e,A',-⟩:=A4.app (eb:=56) hR (fun c hc=>by
   have hc':H.length < c∧c < H4.length:=by
    simp only [List.append_nil,List.mem_append] at hc
    rcases hc with hc | hc
    ·have:=c1.rng c hc; omega
    ·have:=c2.rng c hc; omega
   exact ⟨hc'.2,fun o n e=>by have:=AccR.base A e; omega⟩) (SLoader.len x) (by simp [maxLen]; omega)
  have hp:part [d1,d2,.int .i64 x.Parent] (0,3,true)=some (.agg [d1,d2,.int .i64 x.Parent]):=rfl
  rw [hp]
  simp only [Option.bind_some]
  rw [bsl_one (esz:=3) (v:=.agg [d1,d2,.int .i64 x.Parent]) (by decide) rfl rfl (by simp [D.cells,k1.2,k2.2])]
  rw [show (D.agg [d1,d2,D.int .i64 x.Parent]).cells=[d1,d2,.int .i64 x.Parent] from rfl]
  simp only [Option.bind_some,e,bI_add,hw]
  exact ih H' d' A'
theorem c64 (l:List SLoader) (hl:LoadersFit l):run E (exec E) true 64 [.list (l.map SLoader.row)]=some (.list (l.map SLoader.row)):=by
 rw [run_ent,e64]
 simp only [bsl_zero _ _ _ (show [D.sl0,.sl0,.int .i64 0].all D.isCell=true from rfl),Option.bind_some]
 obtain ⟨d,H,e,A⟩:=c64_3 l hl 0 (Nat.zero_le _) [] .sl0 (AccR.nil _ _ _)
 have e:J E 64 3 [.list (l.map SLoader.row),.sl0,.int .i64 0] []=some (d,H):=e
 rw [e]
 exact A.read (by decide)
theorem c21 (l:List SLoader) (hl:LoadersFit l):run E (exec E) true 21 [.list (l.map SLoader.row)]=some (newM l).d:=by
 rw [run_ent,e21,alloc_eq _ _ _ rfl,call_view]
 simp only [readA_int,readA_bool,readA_str,readA_list,readA_sl0,readA_sl,readA_agg,readA_tup,optAll_cons,optAll_nil,readT_list9,Option.bind_some,c64 l hl]
 rfl
theorem c6 (l:List SLoader) (w:LoadersWf l):run E (exec E) true 6 [.list (l.map SLoader.row)]=some (worldNewM l).d:=by
 rw [run_ent,e6,alloc_eq _ _ _ rfl,pure_call (ts:=[.list (l.map SLoader.row)]) (by simp) (c20 l w)]
 simp only [readA_int,readA_bool,readA_str,readA_list,readA_sl0,readA_sl,readA_agg,readA_tup,call_view,optAll_cons,optAll_nil,readT_list9,Option.bind_some,unOp_not,asB_bool,List.nil_append,List.length_nil,worldNewM]
 cases hk:loadersOk l with
 | false=>rfl
 | true=>
  simp only [c21 l (loadersOk_fit hk),Option.bind_some,Bool.not_true,cond_false,if_true]
  rfl
theorem worldNewM_fit {l:List SLoader} (w:LoadersWf l):(worldNewM l).fit:=by
 have hfit:∀ x ∈ l,x.fit:=fun x hx=>⟨(w.2 x hx).1.1,(w.2 x hx).2.1.1⟩
 have h2:∀ z ∈ firstM,z.fit:=by
  intro z hz
  simp only [firstM,List.mem_cons,List.not_mem_nil,or_false] at hz
  rcases hz with rfl | rfl <;> simp [SCls.fit,objM,errM]
 have w1:=w.1
 unfold worldNewM
 split
 ·exact ⟨by simp only [newM]; omega,hfit,by simp [newM,firstM],h2,by simp [newM],by simp [newM],by simp [newM]⟩
 ·simp [SWorld.fit]
theorem worldNewM_sz (l:List SLoader):(worldNewM l).sz≤szL SLoader.sz l + 1000:=by
 have h:szL SCls.sz firstM≤900:=by decide
 unfold worldNewM
 split
 ·simp only [newM,SWorld.sz,show szL SKnown.sz []=0 from rfl,show szL SBond.sz []=0 from rfl]; omega
 ·simp [SWorld.sz,szL]
end Go.Ev.YtmljkoieihaomaaGreat
