import Derived.Test.YtmljkoieihaomaaGreatYa
import Derived.Test.YtmljkoieihaomaaGreatZz
namespace Go.Ev
set_option linter.unusedVariables false
theorem rInt_of (d:List D) (h:RowOk [.int .i64] d):∃ x,d=rInt x∧i64 x:=by
 obtain ⟨y,rfl,g⟩:=h.one
 obtain ⟨n,rfl,w⟩:=g.toInt
 exact ⟨n,rfl,w⟩
theorem rList_of {α:Type} {r:List Shp} {f:α→List D} {q:α→Prop} (hf:∀ d,RowOk r d→∃ x,d=f x∧q x) (d:List D) (h:RowOk [.list r] d):∃ x:List α,d=[.list (x.map f)]∧(x.length≤140737488351232∧∀ z ∈ x,q z):=by
 obtain ⟨y,rfl,g⟩:=h.one
 obtain ⟨rows,rfl,w,hr⟩:=g.toList
 obtain ⟨xs,rfl,hq⟩:=RowsOk.map hf hr
 exact ⟨xs,rfl,by simpa using w,hq⟩
theorem SConst.of {ds:List D} (t0:RowOk SConst.shp ds):∃ x:SConst,ds=x.row∧x.wf:=by
 obtain ⟨d0,s1,rfl,h0,t1⟩:=t0.inv
 obtain ⟨v0,rfl,w0⟩:=h0.toInt
 obtain ⟨d1,s2,rfl,h1,t2⟩:=t1.inv
 obtain ⟨v1,rfl,w1⟩:=h1.toStr
 obtain ⟨d2,s3,rfl,h2,t3⟩:=t2.inv
 obtain ⟨v2,rfl,w2⟩:=h2.toInt
 obtain ⟨d3,s4,rfl,h3,t4⟩:=t3.inv
 obtain ⟨v3,rfl,w3⟩:=h3.toInt
 cases t4
 exact ⟨⟨v0,v1,v2,v3⟩,rfl,⟨w0,w1,w2,w3⟩⟩
theorem SField.of {ds:List D} (t0:RowOk SField.shp ds):∃ x:SField,ds=x.row∧x.wf:=by
 obtain ⟨d0,s1,rfl,h0,t1⟩:=t0.inv
 obtain ⟨v0,rfl,w0⟩:=h0.toInt
 obtain ⟨d1,s2,rfl,h1,t2⟩:=t1.inv
 obtain ⟨v1,rfl,w1⟩:=h1.toInt
 obtain ⟨d2,s3,rfl,h2,t3⟩:=t2.inv
 obtain ⟨v2,rfl,w2⟩:=h2.toInt
 cases t3
 exact ⟨⟨v0,v1,v2⟩,rfl,⟨w0,w1,w2⟩⟩
theorem STrap.of {ds:List D} (t0:RowOk STrap.shp ds):∃ x:STrap,ds=x.row∧x.wf:=by
 obtain ⟨d0,s1,rfl,h0,t1⟩:=t0.inv
 obtain ⟨v0,rfl,w0⟩:=h0.toInt
 obtain ⟨d1,s2,rfl,h1,t2⟩:=t1.inv
 obtain ⟨v1,rfl,w1⟩:=h1.toInt
 obtain ⟨d2,s3,rfl,h2,t3⟩:=t2.inv
 obtain ⟨v2,rfl,w2⟩:=h2.toInt
 obtain ⟨d3,s4,rfl,h3,t4⟩:=t3.inv
 obtain ⟨v3,rfl,w3⟩:=h3.toInt
 cases t4
 exact ⟨⟨v0,v1,v2,v3⟩,rfl,⟨w0,w1,w2,w3⟩⟩
theorem SKind.of {ds:List D} (t0:RowOk SKind.shp ds):∃ x:SKind,ds=x.row∧x.wf:=by
 obtain ⟨d0,s1,rfl,h0,t1⟩:=t0.inv
 obtain ⟨v0,rfl,w0⟩:=h0.toInt
 obtain ⟨d1,s2,rfl,h1,t2⟩:=t1.inv
 obtain ⟨v1,rfl,w1⟩:=h1.toInt
 cases t2
 exact ⟨⟨v0,v1⟩,rfl,⟨w0,w1⟩⟩
theorem SFrame.of {ds:List D} (t0:RowOk SFrame.shp ds):∃ x:SFrame,ds=x.row∧x.wf:=by
 obtain ⟨d0,s1,rfl,h0,t1⟩:=t0.inv
 obtain ⟨v0,rfl,w0⟩:=h0.toInt
 obtain ⟨d1,s2,rfl,h1,t2⟩:=t1.inv
 obtain ⟨l1,rfl,w1,r1⟩:=h1.toList
 obtain ⟨v1,rfl,q1⟩:=RowsOk.map (fun d h=>SKind.of h) r1
 obtain ⟨d2,s3,rfl,h2,t3⟩:=t2.inv
 obtain ⟨l2,rfl,w2,r2⟩:=h2.toList
 obtain ⟨v2,rfl,q2⟩:=RowsOk.map (fun d h=>SKind.of h) r2
 cases t3
 exact ⟨⟨v0,v1,v2⟩,rfl,⟨w0,⟨by simpa using w1,q1⟩,⟨by simpa using w2,q2⟩⟩⟩
theorem SMethod.of {ds:List D} (t0:RowOk SMethod.shp ds):∃ x:SMethod,ds=x.row∧x.wf:=by
 obtain ⟨d0,s1,rfl,h0,t1⟩:=t0.inv
 obtain ⟨v0,rfl,w0⟩:=h0.toInt
 obtain ⟨d1,s2,rfl,h1,t2⟩:=t1.inv
 obtain ⟨v1,rfl,w1⟩:=h1.toInt
 obtain ⟨d2,s3,rfl,h2,t3⟩:=t2.inv
 obtain ⟨v2,rfl,w2⟩:=h2.toInt
 obtain ⟨d3,s4,rfl,h3,t4⟩:=t3.inv
 obtain ⟨v3,rfl,w3⟩:=h3.toInt
 obtain ⟨d4,s5,rfl,h4,t5⟩:=t4.inv
 obtain ⟨v4,rfl,w4⟩:=h4.toInt
 obtain ⟨d5,s6,rfl,h5,t6⟩:=t5.inv
 obtain ⟨v5,rfl,w5⟩:=h5.toStr
 obtain ⟨d6,s7,rfl,h6,t7⟩:=t6.inv
 obtain ⟨l6,rfl,w6,r6⟩:=h6.toList
 obtain ⟨v6,rfl,q6⟩:=RowsOk.map (fun d h=>STrap.of h) r6
 obtain ⟨d7,s8,rfl,h7,t8⟩:=t7.inv
 obtain ⟨l7,rfl,w7,r7⟩:=h7.toList
 obtain ⟨v7,rfl,q7⟩:=RowsOk.map (fun d h=>SFrame.of h) r7
 cases t8
 exact ⟨⟨v0,v1,v2,v3,v4,v5,v6,v7⟩,rfl,⟨w0,w1,w2,w3,w4,w5,⟨by simpa using w6,q6⟩,⟨by simpa using w7,q7⟩⟩⟩
theorem SClass.of {ds:List D} (t0:RowOk SClass.shp ds):∃ x:SClass,ds=x.row∧x.wf:=by
 obtain ⟨d0,s1,rfl,h0,t1⟩:=t0.inv
 obtain ⟨l0,rfl,w0,r0⟩:=h0.toList
 obtain ⟨v0,rfl,q0⟩:=RowsOk.map (fun d h=>SConst.of h) r0
 obtain ⟨d1,s2,rfl,h1,t2⟩:=t1.inv
 obtain ⟨v1,rfl,w1⟩:=h1.toInt
 obtain ⟨d2,s3,rfl,h2,t3⟩:=t2.inv
 obtain ⟨v2,rfl,w2⟩:=h2.toInt
 obtain ⟨d3,s4,rfl,h3,t4⟩:=t3.inv
 obtain ⟨v3,rfl,w3⟩:=h3.toInt
 obtain ⟨d4,s5,rfl,h4,t5⟩:=t4.inv
 obtain ⟨l4,rfl,w4,r4⟩:=h4.toList
 obtain ⟨v4,rfl,q4⟩:=RowsOk.map rInt_of r4
 obtain ⟨d5,s6,rfl,h5,t6⟩:=t5.inv
 obtain ⟨l5,rfl,w5,r5⟩:=h5.toList
 obtain ⟨v5,rfl,q5⟩:=RowsOk.map (fun d h=>SField.of h) r5
 obtain ⟨d6,s7,rfl,h6,t7⟩:=t6.inv
 obtain ⟨l6,rfl,w6,r6⟩:=h6.toList
 obtain ⟨v6,rfl,q6⟩:=RowsOk.map (fun d h=>SMethod.of h) r6
 cases t7
 exact ⟨⟨v0,v1,v2,v3,v4,v5,v6⟩,rfl,⟨⟨by simpa using w0,q0⟩,w1,w2,w3,⟨by simpa using w4,q4⟩,⟨by simpa using w5,q5⟩,⟨by simpa using w6,q6⟩⟩⟩
theorem SIns.of {ds:List D} (t0:RowOk SIns.shp ds):∃ x:SIns,ds=x.row∧x.wf:=by
 obtain ⟨d0,s1,rfl,h0,t1⟩:=t0.inv
 obtain ⟨v0,rfl,w0⟩:=h0.toInt
 obtain ⟨d1,s2,rfl,h1,t2⟩:=t1.inv
 obtain ⟨v1,rfl,w1⟩:=h1.toInt
 obtain ⟨d2,s3,rfl,h2,t3⟩:=t2.inv
 obtain ⟨v2,rfl,w2⟩:=h2.toInt
 cases t3
 exact ⟨⟨v0,v1,v2⟩,rfl,⟨w0,w1,w2⟩⟩
theorem SFile.of {ds:List D} (t0:RowOk SFile.shp ds):∃ x:SFile,ds=x.row∧x.wf:=by
 obtain ⟨d0,s1,rfl,h0,t1⟩:=t0.inv
 obtain ⟨v0,rfl,w0⟩:=h0.toStr
 obtain ⟨d1,s2,rfl,h1,t2⟩:=t1.inv
 obtain ⟨v1,rfl,w1⟩:=h1.toStr
 cases t2
 exact ⟨⟨v0,v1⟩,rfl,⟨w0,w1⟩⟩
theorem SWay.of {ds:List D} (t0:RowOk SWay.shp ds):∃ x:SWay,ds=x.row∧x.wf:=by
 obtain ⟨d0,s1,rfl,h0,t1⟩:=t0.inv
 obtain ⟨v0,rfl,w0⟩:=h0.toStr
 obtain ⟨d1,s2,rfl,h1,t2⟩:=t1.inv
 obtain ⟨v1,rfl,w1⟩:=h1.toInt
 cases t2
 exact ⟨⟨v0,v1⟩,rfl,⟨w0,w1⟩⟩
theorem SLoader.of {ds:List D} (t0:RowOk SLoader.shp ds):∃ x:SLoader,ds=x.row∧x.wf:=by
 obtain ⟨d0,s1,rfl,h0,t1⟩:=t0.inv
 obtain ⟨l0,rfl,w0,r0⟩:=h0.toList
 obtain ⟨v0,rfl,q0⟩:=RowsOk.map (fun d h=>SFile.of h) r0
 obtain ⟨d1,s2,rfl,h1,t2⟩:=t1.inv
 obtain ⟨l1,rfl,w1,r1⟩:=h1.toList
 obtain ⟨v1,rfl,q1⟩:=RowsOk.map (fun d h=>SWay.of h) r1
 obtain ⟨d2,s3,rfl,h2,t3⟩:=t2.inv
 obtain ⟨v2,rfl,w2⟩:=h2.toInt
 cases t3
 exact ⟨⟨v0,v1,v2⟩,rfl,⟨⟨by simpa using w0,q0⟩,⟨by simpa using w1,q1⟩,w2⟩⟩
theorem SKnown.of {ds:List D} (t0:RowOk SKnown.shp ds):∃ x:SKnown,ds=x.row∧x.wf:=by
 obtain ⟨d0,s1,rfl,h0,t1⟩:=t0.inv
 obtain ⟨v0,rfl,w0⟩:=h0.toInt
 obtain ⟨d1,s2,rfl,h1,t2⟩:=t1.inv
 obtain ⟨v1,rfl,w1⟩:=h1.toStr
 obtain ⟨d2,s3,rfl,h2,t3⟩:=t2.inv
 obtain ⟨v2,rfl,w2⟩:=h2.toInt
 cases t3
 exact ⟨⟨v0,v1,v2⟩,rfl,⟨w0,w1,w2⟩⟩
theorem SBond.of {ds:List D} (t0:RowOk SBond.shp ds):∃ x:SBond,ds=x.row∧x.wf:=by
 obtain ⟨d0,s1,rfl,h0,t1⟩:=t0.inv
 obtain ⟨v0,rfl,w0⟩:=h0.toStr
 obtain ⟨d1,s2,rfl,h1,t2⟩:=t1.inv
 obtain ⟨l1,rfl,w1,r1⟩:=h1.toList
 obtain ⟨v1,rfl,q1⟩:=RowsOk.map rInt_of r1
 obtain ⟨d2,s3,rfl,h2,t3⟩:=t2.inv
 obtain ⟨v2,rfl,w2⟩:=h2.toInt
 cases t3
 exact ⟨⟨v0,v1,v2⟩,rfl,⟨w0,⟨by simpa using w1,q1⟩,w2⟩⟩
theorem SSlot.of {ds:List D} (t0:RowOk SSlot.shp ds):∃ x:SSlot,ds=x.row∧x.wf:=by
 obtain ⟨d0,s1,rfl,h0,t1⟩:=t0.inv
 obtain ⟨v0,rfl,w0⟩:=h0.toInt
 obtain ⟨d1,s2,rfl,h1,t2⟩:=t1.inv
 obtain ⟨v1,rfl,w1⟩:=h1.toInt
 cases t2
 exact ⟨⟨v0,v1⟩,rfl,⟨w0,w1⟩⟩
theorem SRow.of {ds:List D} (t0:RowOk SRow.shp ds):∃ x:SRow,ds=x.row∧x.wf:=by
 obtain ⟨d0,s1,rfl,h0,t1⟩:=t0.inv
 obtain ⟨v0,rfl,w0⟩:=h0.toStr
 obtain ⟨d1,s2,rfl,h1,t2⟩:=t1.inv
 obtain ⟨v1,rfl,w1⟩:=h1.toStr
 obtain ⟨d2,s3,rfl,h2,t3⟩:=t2.inv
 obtain ⟨v2,rfl,w2⟩:=h2.toInt
 obtain ⟨d3,s4,rfl,h3,t4⟩:=t3.inv
 obtain ⟨v3,rfl,w3⟩:=h3.toInt
 cases t4
 exact ⟨⟨v0,v1,v2,v3⟩,rfl,⟨w0,w1,w2,w3⟩⟩
theorem SVal.of {ds:List D} (t0:RowOk SVal.shp ds):∃ x:SVal,ds=x.row∧x.wf:=by
 obtain ⟨d0,s1,rfl,h0,t1⟩:=t0.inv
 obtain ⟨v0,rfl,w0⟩:=h0.toInt
 obtain ⟨d1,s2,rfl,h1,t2⟩:=t1.inv
 obtain ⟨v1,rfl,w1⟩:=h1.toInt
 cases t2
 exact ⟨⟨v0,v1⟩,rfl,⟨w0,w1⟩⟩
theorem SCls.of {ds:List D} (t0:RowOk SCls.shp ds):∃ x:SCls,ds=x.row∧x.wf:=by
 obtain ⟨d0,s1,rfl,h0,t1⟩:=t0.inv
 obtain ⟨v0,rfl,w0⟩:=h0.toStr
 obtain ⟨d1,s2,rfl,h1,t2⟩:=t1.inv
 obtain ⟨v1,rfl,w1⟩:=h1.toInt
 obtain ⟨d2,s3,rfl,h2,t3⟩:=t2.inv
 obtain ⟨l2,rfl,w2,r2⟩:=h2.toList
 obtain ⟨v2,rfl,q2⟩:=RowsOk.map (fun d h=>SConst.of h) r2
 obtain ⟨d3,s4,rfl,h3,t4⟩:=t3.inv
 obtain ⟨v3,rfl,w3⟩:=h3.toInt
 obtain ⟨d4,s5,rfl,h4,t5⟩:=t4.inv
 obtain ⟨v4,rfl,w4⟩:=h4.toInt
 obtain ⟨d5,s6,rfl,h5,t6⟩:=t5.inv
 obtain ⟨v5,rfl,w5⟩:=h5.toInt
 obtain ⟨d6,s7,rfl,h6,t7⟩:=t6.inv
 obtain ⟨l6,rfl,w6,r6⟩:=h6.toList
 obtain ⟨v6,rfl,q6⟩:=RowsOk.map rInt_of r6
 obtain ⟨d7,s8,rfl,h7,t8⟩:=t7.inv
 obtain ⟨l7,rfl,w7,r7⟩:=h7.toList
 obtain ⟨v7,rfl,q7⟩:=RowsOk.map (fun d h=>SField.of h) r7
 obtain ⟨d8,s9,rfl,h8,t9⟩:=t8.inv
 obtain ⟨l8,rfl,w8,r8⟩:=h8.toList
 obtain ⟨v8,rfl,q8⟩:=RowsOk.map (fun d h=>SMethod.of h) r8
 obtain ⟨d9,s10,rfl,h9,t10⟩:=t9.inv
 obtain ⟨v9,rfl,w9⟩:=h9.toInt
 obtain ⟨d10,s11,rfl,h10,t11⟩:=t10.inv
 obtain ⟨l10,rfl,w10,r10⟩:=h10.toList
 obtain ⟨v10,rfl,q10⟩:=RowsOk.map rInt_of r10
 obtain ⟨d11,s12,rfl,h11,t12⟩:=t11.inv
 obtain ⟨v11,rfl,w11⟩:=h11.toInt
 obtain ⟨d12,s13,rfl,h12,t13⟩:=t12.inv
 obtain ⟨v12,rfl,w12⟩:=h12.toInt
 obtain ⟨d13,s14,rfl,h13,t14⟩:=t13.inv
 obtain ⟨l13,rfl,w13,r13⟩:=h13.toList
 obtain ⟨v13,rfl,q13⟩:=RowsOk.map (fun d h=>SSlot.of h) r13
 obtain ⟨d14,s15,rfl,h14,t15⟩:=t14.inv
 obtain ⟨l14,rfl,w14,r14⟩:=h14.toList
 obtain ⟨v14,rfl,q14⟩:=RowsOk.map (fun d h=>SRow.of h) r14
 obtain ⟨d15,s16,rfl,h15,t16⟩:=t15.inv
 obtain ⟨l15,rfl,w15,r15⟩:=h15.toList
 obtain ⟨v15,rfl,q15⟩:=RowsOk.map (fun d h=>SVal.of h) r15
 cases t16
 exact ⟨⟨v0,v1,⟨v2,v3,v4,v5,v6,v7,v8⟩,v9,v10,v11,v12,v13,v14,v15⟩,rfl,⟨w0,w1,⟨by simpa using w2,q2⟩,w3,w4,w5,⟨by simpa using w6,q6⟩,⟨by simpa using w7,q7⟩,⟨by simpa using w8,q8⟩,w9,⟨by simpa using w10,q10⟩,w11,w12,⟨by simpa using w13,q13⟩,⟨by simpa using w14,q14⟩,⟨by simpa using w15,q15⟩⟩⟩
theorem SWorld.of {ds:List D} (t0:RowOk SWorld.shp ds):∃ x:SWorld,ds=x.row∧x.wf:=by
 obtain ⟨d0,s1,rfl,h0,t1⟩:=t0.inv
 obtain ⟨l0,rfl,w0,r0⟩:=h0.toList
 obtain ⟨v0,rfl,q0⟩:=RowsOk.map (fun d h=>SLoader.of h) r0
 obtain ⟨d1,s2,rfl,h1,t2⟩:=t1.inv
 obtain ⟨l1,rfl,w1,r1⟩:=h1.toList
 obtain ⟨v1,rfl,q1⟩:=RowsOk.map (fun d h=>SCls.of h) r1
 obtain ⟨d2,s3,rfl,h2,t3⟩:=t2.inv
 obtain ⟨l2,rfl,w2,r2⟩:=h2.toList
 obtain ⟨v2,rfl,q2⟩:=RowsOk.map (fun d h=>SKnown.of h) r2
 obtain ⟨d3,s4,rfl,h3,t4⟩:=t3.inv
 obtain ⟨l3,rfl,w3,r3⟩:=h3.toList
 obtain ⟨v3,rfl,q3⟩:=RowsOk.map (fun d h=>SBond.of h) r3
 cases t4
 exact ⟨⟨v0,v1,v2,v3⟩,rfl,⟨⟨by simpa using w0,q0⟩,⟨by simpa using w1,q1⟩,⟨by simpa using w2,q2⟩,⟨by simpa using w3,q3⟩⟩⟩
end Go.Ev
