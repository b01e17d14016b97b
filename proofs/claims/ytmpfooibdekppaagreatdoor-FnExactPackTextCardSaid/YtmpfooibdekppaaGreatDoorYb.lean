import Derived.Test.YtmpfooibdekppaaGreatDoorYa
import Derived.Test.YtmpfooibdekppaaGreatDoorZz
namespace Go.Ev
set_option linter.unusedVariables false
theorem rInt_of (d:List D) (h:RowOk [.int .i64] d):∃ x,d=rInt x∧i64 x:=by
 obtain ⟨y,rfl,g⟩:=h.one
 obtain ⟨n,rfl,w⟩:=g.toInt
 exact ⟨n,rfl,w⟩
theorem SConst.of {ds:List D} (t0:RowOk SConst.shp ds):∃ x:SConst,ds=x.row∧x.wf:=by
 obtain ⟨d0,s1,rfl,h0,t1⟩:=t0.inv
 obtain ⟨v0,rfl,w0⟩:=h0.toInt
 obtain ⟨d1,s2,rfl,h1,t2⟩:=t1.inv
 obtain ⟨v1,rfl,w1⟩:=h1.toStr
 obtain ⟨d2,s3,rfl,h2,t3⟩:=t2.inv
 obtain ⟨v2,rfl,w2⟩:=h2.toInt
 obtain ⟨d3,s4,rfl,h3,t4⟩:=t3.inv
 obtain ⟨v3,rfl,w3⟩:=h3.toInt
 cases t4
 exact ⟨⟨v0,v1,v2,v3⟩,rfl,⟨w0,w1,w2,w3⟩⟩
theorem SField.of {ds:List D} (t0:RowOk SField.shp ds):∃ x:SField,ds=x.row∧x.wf:=by
 obtain ⟨d0,s1,rfl,h0,t1⟩:=t0.inv
 obtain ⟨v0,rfl,w0⟩:=h0.toInt
 obtain ⟨d1,s2,rfl,h1,t2⟩:=t1.inv
 obtain ⟨v1,rfl,w1⟩:=h1.toInt
 obtain ⟨d2,s3,rfl,h2,t3⟩:=t2.inv
 obtain ⟨v2,rfl,w2⟩:=h2.toInt
 cases t3
 exact ⟨⟨v0,v1,v2⟩,rfl,⟨w0,w1,w2⟩⟩
theorem STrap.of {ds:List D} (t0:RowOk STrap.shp ds):∃ x:STrap,ds=x.row∧x.wf:=by
 obtain ⟨d0,s1,rfl,h0,t1⟩:=t0.inv
 obtain ⟨v0,rfl,w0⟩:=h0.toInt
 obtain ⟨d1,s2,rfl,h1,t2⟩:=t1.inv
 obtain ⟨v1,rfl,w1⟩:=h1.toInt
 obtain ⟨d2,s3,rfl,h2,t3⟩:=t2.inv
 obtain ⟨v2,rfl,w2⟩:=h2.toInt
 obtain ⟨d3,s4,rfl,h3,t4⟩:=t3.inv
 obtain ⟨v3,rfl,w3⟩:=h3.toInt
 cases t4
 exact ⟨⟨v0,v1,v2,v3⟩,rfl,⟨w0,w1,w2,w3⟩⟩
theorem SKind.of {ds:List D} (t0:RowOk SKind.shp ds):∃ x:SKind,ds=x.row∧x.wf:=by
 obtain ⟨d0,s1,rfl,h0,t1⟩:=t0.inv
 obtain ⟨v0,rfl,w0⟩:=h0.toInt
 obtain ⟨d1,s2,rfl,h1,t2⟩:=t1.inv
 obtain ⟨v1,rfl,w1⟩:=h1.toInt
 cases t2
 exact ⟨⟨v0,v1⟩,rfl,⟨w0,w1⟩⟩
theorem SFrame.of {ds:List D} (t0:RowOk SFrame.shp ds):∃ x:SFrame,ds=x.row∧x.wf:=by
 obtain ⟨d0,s1,rfl,h0,t1⟩:=t0.inv
 obtain ⟨v0,rfl,w0⟩:=h0.toInt
 obtain ⟨d1,s2,rfl,h1,t2⟩:=t1.inv
 obtain ⟨l1,rfl,w1,r1⟩:=h1.toList
 obtain ⟨v1,rfl,q1⟩:=RowsOk.map (fun d h=>SKind.of h) r1
 obtain ⟨d2,s3,rfl,h2,t3⟩:=t2.inv
 obtain ⟨l2,rfl,w2,r2⟩:=h2.toList
 obtain ⟨v2,rfl,q2⟩:=RowsOk.map (fun d h=>SKind.of h) r2
 cases t3
 exact ⟨⟨v0,v1,v2⟩,rfl,⟨w0,⟨by simpa using w1,q1⟩,⟨by simpa using w2,q2⟩⟩⟩
theorem SMethod.of {ds:List D} (t0:RowOk SMethod.shp ds):∃ x:SMethod,ds=x.row∧x.wf:=by
 obtain ⟨d0,s1,rfl,h0,t1⟩:=t0.inv
 obtain ⟨v0,rfl,w0⟩:=h0.toInt
 obtain ⟨d1,s2,rfl,h1,t2⟩:=t1.inv
 obtain ⟨v1,rfl,w1⟩:=h1.toInt
 obtain ⟨d2,s3,rfl,h2,t3⟩:=t2.inv
 obtain ⟨v2,rfl,w2⟩:=h2.toInt
 obtain ⟨d3,s4,rfl,h3,t4⟩:=t3.inv
 obtain ⟨v3,rfl,w3⟩:=h3.toInt
 obtain ⟨d4,s5,rfl,h4,t5⟩:=t4.inv
 obtain ⟨v4,rfl,w4⟩:=h4.toInt
 obtain ⟨d5,s6,rfl,h5,t6⟩:=t5.inv
 obtain ⟨v5,rfl,w5⟩:=h5.toStr
 obtain ⟨d6,s7,rfl,h6,t7⟩:=t6.inv
 obtain ⟨l6,rfl,w6,r6⟩:=h6.toList
 obtain ⟨v6,rfl,q6⟩:=RowsOk.map (fun d h=>STrap.of h) r6
 obtain ⟨d7,s8,rfl,h7,t8⟩:=t7.inv
 obtain ⟨l7,rfl,w7,r7⟩:=h7.toList
 obtain ⟨v7,rfl,q7⟩:=RowsOk.map (fun d h=>SFrame.of h) r7
 cases t8
 exact ⟨⟨v0,v1,v2,v3,v4,v5,v6,v7⟩,rfl,⟨w0,w1,w2,w3,w4,w5,⟨by simpa using w6,q6⟩,⟨by simpa using w7,q7⟩⟩⟩
theorem SClass.of {ds:List D} (t0:RowOk SClass.shp ds):∃ x:SClass,ds=x.row∧x.wf:=by
 obtain ⟨d0,s1,rfl,h0,t1⟩:=t0.inv
 obtain ⟨l0,rfl,w0,r0⟩:=h0.toList
 obtain ⟨v0,rfl,q0⟩:=RowsOk.map (fun d h=>SConst.of h) r0
 obtain ⟨d1,s2,rfl,h1,t2⟩:=t1.inv
 obtain ⟨v1,rfl,w1⟩:=h1.toInt
 obtain ⟨d2,s3,rfl,h2,t3⟩:=t2.inv
 obtain ⟨v2,rfl,w2⟩:=h2.toInt
 obtain ⟨d3,s4,rfl,h3,t4⟩:=t3.inv
 obtain ⟨v3,rfl,w3⟩:=h3.toInt
 obtain ⟨d4,s5,rfl,h4,t5⟩:=t4.inv
 obtain ⟨l4,rfl,w4,r4⟩:=h4.toList
 obtain ⟨v4,rfl,q4⟩:=RowsOk.map rInt_of r4
 obtain ⟨d5,s6,rfl,h5,t6⟩:=t5.inv
 obtain ⟨l5,rfl,w5,r5⟩:=h5.toList
 obtain ⟨v5,rfl,q5⟩:=RowsOk.map (fun d h=>SField.of h) r5
 obtain ⟨d6,s7,rfl,h6,t7⟩:=t6.inv
 obtain ⟨l6,rfl,w6,r6⟩:=h6.toList
 obtain ⟨v6,rfl,q6⟩:=RowsOk.map (fun d h=>SMethod.of h) r6
 cases t7
 exact ⟨⟨v0,v1,v2,v3,v4,v5,v6⟩,rfl,⟨⟨by simpa using w0,q0⟩,w1,w2,w3,⟨by simpa using w4,q4⟩,⟨by simpa using w5,q5⟩,⟨by simpa using w6,q6⟩⟩⟩
theorem SIns.of {ds:List D} (t0:RowOk SIns.shp ds):∃ x:SIns,ds=x.row∧x.wf:=by
 obtain ⟨d0,s1,rfl,h0,t1⟩:=t0.inv
 obtain ⟨v0,rfl,w0⟩:=h0.toInt
 obtain ⟨d1,s2,rfl,h1,t2⟩:=t1.inv
 obtain ⟨v1,rfl,w1⟩:=h1.toInt
 obtain ⟨d2,s3,rfl,h2,t3⟩:=t2.inv
 obtain ⟨v2,rfl,w2⟩:=h2.toInt
 cases t3
 exact ⟨⟨v0,v1,v2⟩,rfl,⟨w0,w1,w2⟩⟩
end Go.Ev
