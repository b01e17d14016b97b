import Derived.Test.YtmljkoieihaomaaGreatQ0
namespace Go.Ev.YtmljkoieihaomaaGreat
set_option maxRecDepth 100000
set_option linter.unusedVariables false
theorem e196 (x0 x1:D) (H:Heap) :
  ent E 196 [x0,x1] H =
  (callFn E (exec E) .pure 133 [x0,x1] H).bind fun r1=>alloc_ r1.2 [.int .i64 0,.str [],.int .i64 0,.int .i64 0] fun p2 H2=>(st 4 H2 p2 r1.1).bind fun H3=>(fa 0 p2).bind fun v4=>(ld false 1 H3 v4).bind fun v5=>(bI .eql v5 (D.int .i64 2)).bind fun v6=>asB v6 fun t=>bif t then ((fa 2 p2).bind fun v7=>(ld false 1 H3 v7).bind fun v8=>(callFn E (exec E) .raw 120 [x0,v8,(D.fn 121 [])] H3).bind fun r9=>ret_ r9.2 [some r9.1]) else (ret_ H3 [some (D.bool false)]):=
 (ent_seg E 196 [] 400 [x0,x1] H).trans (by kernel_rfl)
theorem e197 (x0 x1:D) (H:Heap) :
  ent E 197 [x0,x1] H =
  (lnL x0).bind fun v1=>J E 197 2 [x0,x1,v1,(D.int .i64 0)] H:=
 (ent_seg E 197 [2] 400 [x0,x1] H).trans (by kernel_rfl)
theorem j197_2 (x0 x1 x7 x8:D) (H:Heap) :
  J E 197 2 [x0,x1,x7,x8] H =
  (bI .lss x8 x7).bind fun v2=>asB v2 fun t=>bif t then ((ia 1 H x0 x8).bind fun v3=>(ld false 1 H v3).bind fun v4=>asFn x1 fun gq5 cq5=>(callFn E (exec E) (modeT 197 gq5) gq5 ([v4]++cq5) H).bind fun r6=>asB r6.1 fun t=>bif t then (ret_ r6.2 [some x8]) else ((bI .add x8 (D.int .i64 1)).bind fun v7=>J E 197 2 [x0,x1,x7,v7] r6.2)) else (ret_ H [some (D.int .i64 (-1))]):=
 (J_seg E 197 2 [2] 400 [x0,x1,x7,x8] H).trans (by kernel_rfl)
theorem e198 (x0:D) (H:Heap) :
  ent E 198 [x0] H =
  (callFn E (exec E) .pure 203 [x0,(D.str [76])] H).bind fun r1=>(extract r1.1 0).bind fun v2=>(extract r1.1 1).bind fun v3=>(callFn E (exec E) .pure 243 [v2,(D.str [59])] r1.2).bind fun r4=>(extract r4.1 0).bind fun v5=>(extract r4.1 1).bind fun v6=>asB v3 fun t=>bif t then (asB v6 fun t=>bif t then ((callFn E (exec E) .pure 121 [v5] r4.2).bind fun r7=>ret_ r7.2 [some v5,some r7.1]) else (ret_ r4.2 [some v5,some (D.bool false)])) else (ret_ r4.2 [some v5,some (D.bool false)]):=
 (ent_seg E 198 [] 400 [x0] H).trans (by kernel_rfl)
theorem e199 (x0 x1:D) (H:Heap) :
  ent E 199 [x0,x1] H =
  (lnL x0).bind fun v1=>J E 199 2 [x0,x1,v1,(D.int .i64 0)] H:=
 (ent_seg E 199 [2] 400 [x0,x1] H).trans (by kernel_rfl)
theorem j199_2 (x0 x1 x7 x8:D) (H:Heap) :
  J E 199 2 [x0,x1,x7,x8] H =
  (bI .lss x8 x7).bind fun v2=>asB v2 fun t=>bif t then ((ia 3 H x0 x8).bind fun v3=>(ld true 3 H v3).bind fun v4=>asFn x1 fun gq5 cq5=>(callFn E (exec E) (modeT 199 gq5) gq5 ([v4]++cq5) H).bind fun r6=>asB r6.1 fun t=>bif t then (ret_ r6.2 [some x8]) else ((bI .add x8 (D.int .i64 1)).bind fun v7=>J E 199 2 [x0,x1,x7,v7] r6.2)) else (ret_ H [some (D.int .i64 (-1))]):=
 (J_seg E 199 2 [2] 400 [x0,x1,x7,x8] H).trans (by kernel_rfl)
theorem e200 (x0 x1:D) (H:Heap) :
  ent E 200 [x0,x1] H =
  (lnL x0).bind fun v1=>J E 200 2 [x0,x1,v1,(D.int .i64 0)] H:=
 (ent_seg E 200 [2] 400 [x0,x1] H).trans (by kernel_rfl)
theorem j200_2 (x0 x1 x7 x8:D) (H:Heap) :
  J E 200 2 [x0,x1,x7,x8] H =
  (bI .lss x8 x7).bind fun v2=>asB v2 fun t=>bif t then ((ia 8 H x0 x8).bind fun v3=>(ld true 8 H v3).bind fun v4=>asFn x1 fun gq5 cq5=>(callFn E (exec E) (modeT 200 gq5) gq5 ([v4]++cq5) H).bind fun r6=>asB r6.1 fun t=>bif t then (ret_ r6.2 [some x8]) else ((bI .add x8 (D.int .i64 1)).bind fun v7=>J E 200 2 [x0,x1,x7,v7] r6.2)) else (ret_ H [some (D.int .i64 (-1))]):=
 (J_seg E 200 2 [2] 400 [x0,x1,x7,x8] H).trans (by kernel_rfl)
theorem e201 (x0:D) (H:Heap) :
  ent E 201 [x0] H =
  (callFn E (exec E) .pure 67 [x0,(D.int .i64 3),(D.int .i64 6)] H).bind fun r1=>asB r1.1 fun t=>bif t then (ret_ r1.2 [some (D.int .i64 1)]) else ((bI .eql x0 (D.int .i64 1)).bind fun v2=>asB v2 fun t=>bif t then (ret_ r1.2 [some (D.int .i64 2)]) else ((callFn E (exec E) .pure 67 [x0,(D.int .i64 14),(D.int .i64 29)] r1.2).bind fun r3=>asB r3.1 fun t=>bif t then (ret_ r3.2 [some (D.int .i64 2)]) else ((callFn E (exec E) .pure 67 [x0,(D.int .i64 0),(D.int .i64 34)] r3.2).bind fun r4=>asB r4.1 fun t=>bif t then (ret_ r4.2 [some (D.int .i64 0)]) else (ret_ r4.2 [some (D.int .i64 (-1))])))):=
 (ent_seg E 201 [] 400 [x0] H).trans (by kernel_rfl)
theorem e202 (x0 x1:D) (H:Heap) :
  ent E 202 [x0,x1] H =
  (callFn E (exec E) .pure 244 [x0,x1] H).bind fun r1=>(extract r1.1 0).bind fun v2=>(extract r1.1 1).bind fun v3=>(extract r1.1 2).bind fun v4=>ret_ r1.2 [some v2,some v3,some v4]:=
 (ent_seg E 202 [] 400 [x0,x1] H).trans (by kernel_rfl)
theorem e203 (x0 x1:D) (H:Heap) :
  ent E 203 [x0,x1] H =
  (callFn E (exec E) .pure 245 [x0,x1] H).bind fun r1=>(extract r1.1 0).bind fun v2=>(extract r1.1 1).bind fun v3=>ret_ r1.2 [some v2,some v3]:=
 (ent_seg E 203 [] 400 [x0,x1] H).trans (by kernel_rfl)
theorem e204 (x0 x1:D) (H:Heap) :
  ent E 204 [x0,x1] H =
  (callFn E (exec E) .pure 246 [x0,x1] H).bind fun r1=>ret_ r1.2 [some r1.1]:=
 (ent_seg E 204 [] 400 [x0,x1] H).trans (by kernel_rfl)
theorem e205 (x0 x1:D) (H:Heap) :
  ent E 205 [x0,x1] H =
  (lnL x0).bind fun v1=>J E 205 2 [x0,x1,v1,(D.int .i64 0)] H:=
 (ent_seg E 205 [2] 400 [x0,x1] H).trans (by kernel_rfl)
theorem j205_2 (x0 x1 x7 x8:D) (H:Heap) :
  J E 205 2 [x0,x1,x7,x8] H =
  (bI .lss x8 x7).bind fun v2=>asB v2 fun t=>bif t then ((ia 3 H x0 x8).bind fun v3=>(ld true 3 H v3).bind fun v4=>asFn x1 fun gq5 cq5=>(callFn E (exec E) (modeT 205 gq5) gq5 ([v4]++cq5) H).bind fun r6=>asB r6.1 fun t=>bif t then (ret_ r6.2 [some x8]) else ((bI .add x8 (D.int .i64 1)).bind fun v7=>J E 205 2 [x0,x1,x7,v7] r6.2)) else (ret_ H [some (D.int .i64 (-1))]):=
 (J_seg E 205 2 [2] 400 [x0,x1,x7,x8] H).trans (by kernel_rfl)
theorem e206 (x0 x1:D) (H:Heap) :
  ent E 206 [x0,x1] H =
  alloc_ H (D.cells x0) fun p1 H1=>(fa 0 p1).bind fun v2=>(ld false 1 H1 v2).bind fun v3=>(ld false 1 H1 x1).bind fun v4=>(bI .eql v3 v4).bind fun v5=>ret_ H1 [some v5]:=
 (ent_seg E 206 [] 400 [x0,x1] H).trans (by kernel_rfl)
theorem e207 (x0 x1:D) (H:Heap) :
  ent E 207 [x0,x1] H =
  (callFn E (exec E) .raw 247 [x0,x1] H).bind fun r1=>(bI .geq r1.1 (D.int .i64 0)).bind fun v2=>ret_ r1.2 [some v2]:=
 (ent_seg E 207 [] 400 [x0,x1] H).trans (by kernel_rfl)
theorem e208 (x0 x1:D) (H:Heap) :
  ent E 208 [x0,x1] H =
  alloc_ H (D.cells x0) fun p1 H1=>(fa 0 p1).bind fun v2=>(ld false 1 H1 v2).bind fun v3=>(bI .eql v3 (D.int .i64 3)).bind fun v4=>asB v4 fun t=>bif t then ((ld true 7 H1 x1).bind fun v5=>(fa 1 p1).bind fun v6=>(ld false 1 H1 v6).bind fun v7=>(callFn E (exec E) .pure 115 [v5,v7] H1).bind fun r8=>(unOp .not r8.1).bind fun v9=>asB v9 fun t=>bif t then (ret_ r8.2 [some (D.bool true)]) else ((fa 0 p1).bind fun v10=>(ld false 1 r8.2 v10).bind fun v11=>(bI .neq v11 (D.int .i64 3)).bind fun v12=>asB v12 fun t=>bif t then ((fa 1 p1).bind fun v13=>(ld false 1 r8.2 v13).bind fun v14=>(bI .neq v14 (D.int .i64 0)).bind fun v15=>ret_ r8.2 [some v15]) else (ret_ r8.2 [some (D.bool false)]))) else ((fa 0 p1).bind fun v16=>(ld false 1 H1 v16).bind fun v17=>(bI .neq v17 (D.int .i64 3)).bind fun v18=>asB v18 fun t=>bif t then ((fa 1 p1).bind fun v19=>(ld false 1 H1 v19).bind fun v20=>(bI .neq v20 (D.int .i64 0)).bind fun v21=>ret_ H1 [some v21]) else (ret_ H1 [some (D.bool false)])):=
 (ent_seg E 208 [] 400 [x0,x1] H).trans (by kernel_rfl)
theorem e209 (x0 x1:D) (H:Heap) :
  ent E 209 [x0,x1] H =
  (lnL x0).bind fun v1=>(lnL x1).bind fun v2=>(bI .neq v1 v2).bind fun v3=>asB v3 fun t=>bif t then (ret_ H [some (D.bool false)]) else (J E 209 4 [x0,x1,(D.int .i64 0)] H):=
 (ent_seg E 209 [4] 400 [x0,x1] H).trans (by kernel_rfl)
theorem j209_4 (x0 x1 x5:D) (H:Heap) :
  J E 209 4 [x0,x1,x5] H =
  (lnL x0).bind fun v4=>(bI .lss x5 v4).bind fun v5=>asB v5 fun t=>bif t then ((ia 4 H x0 x5).bind fun v6=>(ld true 4 H v6).bind fun v7=>(ia 4 H x1 x5).bind fun v8=>(ld true 4 H v8).bind fun v9=>(callFn E (exec E) .pure 248 [v7,v9] H).bind fun r10=>(unOp .not r10.1).bind fun v11=>asB v11 fun t=>bif t then (ret_ r10.2 [some (D.bool false)]) else ((bI .add x5 (D.int .i64 1)).bind fun v12=>J E 209 4 [x0,x1,v12] r10.2)) else (ret_ H [some (D.bool true)]):=
 (J_seg E 209 4 [4] 400 [x0,x1,x5] H).trans (by kernel_rfl)
theorem e210 (x0 x1:D) (H:Heap) :
  ent E 210 [x0,x1] H =
  (lnL x0).bind fun v1=>(lnL x1).bind fun v2=>(bI .neq v1 v2).bind fun v3=>asB v3 fun t=>bif t then (ret_ H [some (D.bool false)]) else (J E 210 4 [x0,x1,(D.int .i64 0)] H):=
 (ent_seg E 210 [4] 400 [x0,x1] H).trans (by kernel_rfl)
theorem j210_4 (x0 x1 x5:D) (H:Heap) :
  J E 210 4 [x0,x1,x5] H =
  (lnL x0).bind fun v4=>(bI .lss x5 v4).bind fun v5=>asB v5 fun t=>bif t then ((ia 3 H x0 x5).bind fun v6=>(ld true 3 H v6).bind fun v7=>(ia 3 H x1 x5).bind fun v8=>(ld true 3 H v8).bind fun v9=>(callFn E (exec E) .pure 249 [v7,v9] H).bind fun r10=>(unOp .not r10.1).bind fun v11=>asB v11 fun t=>bif t then (ret_ r10.2 [some (D.bool false)]) else ((bI .add x5 (D.int .i64 1)).bind fun v12=>J E 210 4 [x0,x1,v12] r10.2)) else (ret_ H [some (D.bool true)]):=
 (J_seg E 210 4 [4] 400 [x0,x1,x5] H).trans (by kernel_rfl)
theorem e211 (x0:D) (H:Heap) :
  ent E 211 [x0] H =
  (bI .geq x0 (D.int .u8 97)).bind fun v1=>asB v1 fun t=>bif t then ((bI .leq x0 (D.int .u8 122)).bind fun v2=>asB v2 fun t=>bif t then (ret_ H [some (D.bool true)]) else ((bI .geq x0 (D.int .u8 65)).bind fun v3=>asB v3 fun t=>bif t then ((bI .leq x0 (D.int .u8 90)).bind fun v4=>ret_ H [some v4]) else (ret_ H [some (D.bool false)]))) else ((bI .geq x0 (D.int .u8 65)).bind fun v5=>asB v5 fun t=>bif t then ((bI .leq x0 (D.int .u8 90)).bind fun v6=>ret_ H [some v6]) else (ret_ H [some (D.bool false)])):=
 (ent_seg E 211 [] 400 [x0] H).trans (by kernel_rfl)
theorem e218 (x0 x1:D) (H:Heap) :
  ent E 218 [x0,x1] H =
  alloc_ H (D.cells x0) fun p1 H1=>(fa 1 p1).bind fun v2=>(ld false 1 H1 v2).bind fun v3=>(callFn E (exec E) .pure 250 [v3,x1] H1).bind fun r4=>(bI .lss r4.1 (D.int .i64 0)).bind fun v5=>asB v5 fun t=>bif t then (ret_ r4.2 [some (D.int .i64 (-1))]) else ((fa 2 p1).bind fun v6=>(ld false 1 r4.2 v6).bind fun v7=>(callFn E (exec E) .pure 250 [v7,r4.1] r4.2).bind fun r8=>(bI .lss r8.1 (D.int .i64 0)).bind fun v9=>asB v9 fun t=>bif t then (ret_ r8.2 [some (D.int .i64 (-1))]) else (ret_ r8.2 [some r8.1])):=
 (ent_seg E 218 [] 400 [x0,x1] H).trans (by kernel_rfl)
theorem e219 (x0:D) (H:Heap) :
  ent E 219 [x0] H =
  (lnL x0).bind fun v1=>(callFn E (exec E) .pure 159 [v1] H).bind fun r2=>J E 219 3 [x0,r2.1,(D.int .i64 0)] r2.2:=
 (ent_seg E 219 [3,4] 400 [x0] H).trans (by kernel_rfl)
theorem j219_3 (x0 x3 x4:D) (H:Heap) :
  J E 219 3 [x0,x3,x4] H =
  (lnL x0).bind fun v3=>(bI .lss x4 v3).bind fun v4=>asB v4 fun t=>bif t then ((ia 2 H x0 x4).bind fun v5=>(fa 0 v5).bind fun v6=>(ld false 1 H v6).bind fun v7=>(callFn E (exec E) .pure 159 [v7] H).bind fun r8=>(bS .add x3 r8.1).bind fun v9=>(ia 2 r8.2 x0 x4).bind fun v10=>(fa 0 v10).bind fun v11=>(ld false 1 r8.2 v11).bind fun v12=>(bI .eql v12 (D.int .i64 3)).bind fun v13=>asB v13 fun t=>bif t then ((ia 2 r8.2 x0 x4).bind fun v14=>(fa 1 v14).bind fun v15=>(ld false 1 r8.2 v15).bind fun v16=>(callFn E (exec E) .pure 161 [v16] r8.2).bind fun r17=>(bS .add v9 r17.1).bind fun v18=>J E 219 4 [x0,v18,x4] r17.2) else (J E 219 4 [x0,v9,x4] r8.2)) else (ret_ H [some x3]):=
 (J_seg E 219 3 [3,4] 400 [x0,x3,x4] H).trans (by kernel_rfl)
theorem j219_4 (x0 x3 x4:D) (H:Heap) :
  J E 219 4 [x0,x3,x4] H =
  (bI .add x4 (D.int .i64 1)).bind fun v19=>J E 219 3 [x0,x3,v19] H:=
 (J_seg E 219 4 [3,4] 400 [x0,x3,x4] H).trans (by kernel_rfl)
theorem e220 (x0 x1:D) (H:Heap) :
  ent E 220 [x0,x1] H =
  (nilCheck x0).bind fun v1=>(fa 2 v1).bind fun v2=>(ld false 1 H v2).bind fun v3=>asB v3 fun t=>bif t then ((nilCheck x0).bind fun v4=>(fa 2 v4).bind fun v5=>(st 1 H v5 (D.bool true)).bind fun H6=>ret_ H6 [some (D.str [])]) else ((nilCheck x0).bind fun v7=>(fa 1 v7).bind fun v8=>(ld false 1 H v8).bind fun v9=>(bI .add v9 x1).bind fun v10=>(nilCheck x0).bind fun v11=>(fa 0 v11).bind fun v12=>(ld false 1 H v12).bind fun v13=>(lnS v13).bind fun v14=>(bI .gtr v10 v14).bind fun v15=>asB v15 fun t=>bif t then ((nilCheck x0).bind fun v16=>(fa 2 v16).bind fun v17=>(st 1 H v17 (D.bool true)).bind fun H18=>ret_ H18 [some (D.str [])]) else ((nilCheck x0).bind fun v19=>(fa 1 v19).bind fun v20=>(ld false 1 H v20).bind fun v21=>(bI .add v21 x1).bind fun v22=>(nilCheck x0).bind fun v23=>(fa 1 v23).bind fun v24=>(st 1 H v24 v22).bind fun H25=>(nilCheck x0).bind fun v26=>(fa 0 v26).bind fun v27=>(ld false 1 H25 v27).bind fun v28=>(nilCheck x0).bind fun v29=>(fa 1 v29).bind fun v30=>(ld false 1 H25 v30).bind fun v31=>(bI .sub v31 x1).bind fun v32=>(nilCheck x0).bind fun v33=>(fa 1 v33).bind fun v34=>(ld false 1 H25 v34).bind fun v35=>(slS v28 (some v32) (some v35) none).bind fun v36=>ret_ H25 [some v36])):=
 (ent_seg E 220 [] 400 [x0,x1] H).trans (by kernel_rfl)
theorem e221 (x0:D) (H:Heap) :
  ent E 221 [x0] H =
  (bsl 4 [.int .i64 0,.str [],.int .i64 0,.int .i64 0] H 0 []).bind fun r1=>(callFn E (exec E) .raw 222 [x0] r1.2).bind fun r2=>(bI .gtr r2.1 (D.int .i64 60)).bind fun v3=>asB v3 fun t=>bif t then ((nilCheck x0).bind fun v4=>(fa 2 v4).bind fun v5=>(st 1 r2.2 v5 (D.bool true)).bind fun H6=>J E 221 5 [x0,r1.1,r2.1] H6) else (J E 221 5 [x0,r1.1,r2.1] r2.2):=
 (ent_seg E 221 [5,6] 400 [x0] H).trans (by kernel_rfl)
theorem j221_5 (x0 x3 x4:D) (H:Heap) :
  J E 221 5 [x0,x3,x4] H =
  J E 221 6 [x0,x3,x4,(D.int .i64 0)] H:=
 (J_seg E 221 5 [5,6] 400 [x0,x3,x4] H).trans (by kernel_rfl)
theorem j221_6 (x0 x3 x4 x5:D) (H:Heap) :
  J E 221 6 [x0,x3,x4,x5] H =
  (bI .lss x5 x4).bind fun v7=>asB v7 fun t=>bif t then ((nilCheck x0).bind fun v8=>(fa 2 v8).bind fun v9=>(ld false 1 H v9).bind fun v10=>(unOp .not v10).bind fun v11=>asB v11 fun t=>bif t then ((callFn E (exec E) .raw 251 [x0] H).bind fun r12=>(bsl 4 [.int .i64 0,.str [],.int .i64 0,.int .i64 0] r12.2 1 [(0,r12.1)]).bind fun r13=>(app 4 40 r13.2 x3 r13.1).bind fun r14=>(bI .add x5 (D.int .i64 1)).bind fun v15=>J E 221 6 [x0,r14.1,x4,v15] r14.2) else (ret_ H [some x3])) else (ret_ H [some x3]):=
 (J_seg E 221 6 [5,6] 400 [x0,x3,x4,x5] H).trans (by kernel_rfl)
theorem e222 (x0:D) (H:Heap) :
  ent E 222 [x0] H =
  (nilCheck x0).bind fun v1=>(fa 2 v1).bind fun v2=>(ld false 1 H v2).bind fun v3=>asB v3 fun t=>bif t then ((nilCheck x0).bind fun v4=>(fa 2 v4).bind fun v5=>(st 1 H v5 (D.bool true)).bind fun H6=>ret_ H6 [some (D.int .i64 0)]) else ((nilCheck x0).bind fun v7=>(fa 1 v7).bind fun v8=>(ld false 1 H v8).bind fun v9=>(nilCheck x0).bind fun v10=>(fa 0 v10).bind fun v11=>(ld false 1 H v11).bind fun v12=>(lnS v12).bind fun v13=>(bI .geq v9 v13).bind fun v14=>asB v14 fun t=>bif t then ((nilCheck x0).bind fun v15=>(fa 2 v15).bind fun v16=>(st 1 H v16 (D.bool true)).bind fun H17=>ret_ H17 [some (D.int .i64 0)]) else ((nilCheck x0).bind fun v18=>(fa 1 v18).bind fun v19=>(ld false 1 H v19).bind fun v20=>(bI .add v20 (D.int .i64 1)).bind fun v21=>(nilCheck x0).bind fun v22=>(fa 1 v22).bind fun v23=>(st 1 H v23 v21).bind fun H24=>(nilCheck x0).bind fun v25=>(fa 0 v25).bind fun v26=>(ld false 1 H24 v26).bind fun v27=>(nilCheck x0).bind fun v28=>(fa 1 v28).bind fun v29=>(ld false 1 H24 v29).bind fun v30=>(bI .sub v30 (D.int .i64 1)).bind fun v31=>(ix v27 v31).bind fun v32=>(cI .i64 v32).bind fun v33=>ret_ H24 [some v33])):=
 (ent_seg E 222 [] 400 [x0] H).trans (by kernel_rfl)
theorem e223 (x0:D) (H:Heap) :
  ent E 223 [x0] H =
  (callFn E (exec E) .raw 222 [x0] H).bind fun r1=>(callFn E (exec E) .raw 222 [x0] r1.2).bind fun r2=>(bI .mul r1.1 (D.int .i64 256)).bind fun v3=>(bI .add v3 r2.1).bind fun v4=>ret_ r2.2 [some v4]:=
 (ent_seg E 223 [] 400 [x0] H).trans (by kernel_rfl)
theorem e224 (x0:D) (H:Heap) :
  ent E 224 [x0] H =
  alloc_ H [.int .i64 0,.int .i64 0,.int .i64 0,.int .i64 0,.int .i64 0,.str [],.sl0,.sl0] fun p1 H1=>(callFn E (exec E) .raw 222 [x0] H1).bind fun r2=>(callFn E (exec E) .raw 223 [x0] r2.2).bind fun r3=>(callFn E (exec E) .raw 223 [x0] r3.2).bind fun r4=>(bld [.int .i64 0,.int .i64 0,.int .i64 0,.int .i64 0,.int .i64 0,.str [],.sl0,.sl0] [(0,1,false),(1,1,false),(2,1,false),(3,1,false),(4,1,false),(5,1,false),(6,1,false),(7,1,false)] [(0,r2.1),(1,r3.1),(2,r4.1)]).bind fun v5=>alloc_ r4.2 [.int .i64 0,.int .i64 0,.int .i64 0,.int .i64 0,.int .i64 0,.str [],.sl0,.sl0] fun p6 H6=>(st 8 H6 p6 v5).bind fun H7=>(fa 0 p6).bind fun v8=>(ld false 1 H7 v8).bind fun v9=>(bI .rem v9 (D.int .i64 16)).bind fun v10=>(bI .quo v10 (D.int .i64 8)).bind fun v11=>(bI .eql v11 (D.int .i64 1)).bind fun v12=>asB v12 fun t=>bif t then ((ld true 8 H7 p6).bind fun v13=>(st 8 H7 p1 v13).bind fun H14=>ret_ H14 [ld true 8 H14 p1]) else ((ld true 8 H7 p6).bind fun v15=>(callFn E (exec E) .raw 252 [x0,v15] H7).bind fun r16=>(st 8 r16.2 p1 r16.1).bind fun H17=>ret_ H17 [ld true 8 H17 p1]):=
 (ent_seg E 224 [] 400 [x0] H).trans (by kernel_rfl)
theorem e225 (x0 x1:D) (H:Heap) :
  ent E 225 [x0,x1] H =
  (lnL x0).bind fun v1=>(lnL x1).bind fun v2=>(bI .neq v1 v2).bind fun v3=>asB v3 fun t=>bif t then (ret_ H [some (D.bool false)]) else (J E 225 4 [x0,x1,(D.int .i64 0)] H):=
 (ent_seg E 225 [4,6] 400 [x0,x1] H).trans (by kernel_rfl)
theorem j225_4 (x0 x1 x5:D) (H:Heap) :
  J E 225 4 [x0,x1,x5] H =
  (lnL x0).bind fun v4=>(bI .lss x5 v4).bind fun v5=>asB v5 fun t=>bif t then (J E 225 6 [x0,x1,x5] H) else (ret_ H [some (D.bool true)]):=
 (J_seg E 225 4 [4,6] 400 [x0,x1,x5] H).trans (by kernel_rfl)
theorem j225_6 (x0 x1 x5:D) (H:Heap) :
  J E 225 6 [x0,x1,x5] H =
  (ia 3 H x0 x5).bind fun v6=>(fa 0 v6).bind fun v7=>(ld false 1 H v7).bind fun v8=>(ia 3 H x1 x5).bind fun v9=>(fa 0 v9).bind fun v10=>(ld false 1 H v10).bind fun v11=>(bI .neq v8 v11).bind fun v12=>asB v12 fun t=>bif t then (ret_ H [some (D.bool false)]) else ((ia 3 H x0 x5).bind fun v13=>(fa 1 v13).bind fun v14=>(ld false 1 H v14).bind fun v15=>(ia 3 H x1 x5).bind fun v16=>(fa 1 v16).bind fun v17=>(ld false 1 H v17).bind fun v18=>(callFn E (exec E) .pure 253 [v15,v18] H).bind fun r19=>(unOp .not r19.1).bind fun v20=>asB v20 fun t=>bif t then (ret_ r19.2 [some (D.bool false)]) else ((ia 3 r19.2 x0 x5).bind fun v21=>(fa 2 v21).bind fun v22=>(ld false 1 r19.2 v22).bind fun v23=>(ia 3 r19.2 x1 x5).bind fun v24=>(fa 2 v24).bind fun v25=>(ld false 1 r19.2 v25).bind fun v26=>(callFn E (exec E) .pure 253 [v23,v26] r19.2).bind fun r27=>(unOp .not r27.1).bind fun v28=>asB v28 fun t=>bif t then (ret_ r27.2 [some (D.bool false)]) else ((bI .add x5 (D.int .i64 1)).bind fun v29=>J E 225 4 [x0,x1,v29] r27.2))):=
 (J_seg E 225 6 [4,6] 400 [x0,x1,x5] H).trans (by kernel_rfl)
theorem e226 (x0 x1:D) (H:Heap) :
  ent E 226 [x0,x1] H =
  (callFn E (exec E) .pure 228 [x0,x1] H).bind fun r1=>alloc_ r1.2 [.int .i64 0,.str [],.int .i64 0,.int .i64 0] fun p2 H2=>(st 4 H2 p2 r1.1).bind fun H3=>(fa 3 p2).bind fun v4=>(ld false 1 H3 v4).bind fun v5=>(callFn E (exec E) .pure 228 [x0,v5] H3).bind fun r6=>alloc_ r6.2 [.int .i64 0,.str [],.int .i64 0,.int .i64 0] fun p7 H7=>(st 4 H7 p7 r6.1).bind fun H8=>(fa 2 p2).bind fun v9=>(ld false 1 H8 v9).bind fun v10=>(callFn E (exec E) .pure 167 [x0,v10] H8).bind fun r11=>(fa 2 p7).bind fun v12=>(ld false 1 r11.2 v12).bind fun v13=>(callFn E (exec E) .pure 169 [x0,v13] r11.2).bind fun r14=>(fa 3 p7).bind fun v15=>(ld false 1 r14.2 v15).bind fun v16=>(callFn E (exec E) .pure 169 [x0,v16] r14.2).bind fun r17=>ret_ r17.2 [some r11.1,some r14.1,some r17.1]:=
 (ent_seg E 226 [] 400 [x0,x1] H).trans (by kernel_rfl)
theorem e227 (x0 x1 x2:D) (H:Heap) :
  ent E 227 [x0,x1,x2] H =
  (callFn E (exec E) .pure 228 [x0,x1] H).bind fun r1=>(fd (0,1,false) r1.1).bind fun v2=>(bI .eql v2 x2).bind fun v3=>ret_ r1.2 [some v3]:=
 (ent_seg E 227 [] 400 [x0,x1,x2] H).trans (by kernel_rfl)
theorem e228 (x0 x1:D) (H:Heap) :
  ent E 228 [x0,x1] H =
  alloc_ H [.int .i64 0,.str [],.int .i64 0,.int .i64 0] fun p1 H1=>(lnL x0).bind fun v2=>(callFn E (exec E) .pure 63 [x1,(D.int .i64 1),v2] H1).bind fun r3=>asB r3.1 fun t=>bif t then ((bI .sub x1 (D.int .i64 1)).bind fun v4=>(ia 4 r3.2 x0 v4).bind fun v5=>(ld true 4 r3.2 v5).bind fun v6=>(st 4 r3.2 p1 v6).bind fun H7=>ret_ H7 [ld true 4 H7 p1]) else ((bld [.int .i64 0,.str [],.int .i64 0,.int .i64 0] [(0,1,false),(1,1,false),(2,1,false),(3,1,false)] []).bind fun v8=>(st 4 r3.2 p1 v8).bind fun H9=>ret_ H9 [ld true 4 H9 p1]):=
 (ent_seg E 228 [] 400 [x0,x1] H).trans (by kernel_rfl)
theorem e229 (x0 x1:D) (H:Heap) :
  ent E 229 [x0,x1] H =
  (lnS x0).bind fun v1=>(bI .lss x1 v1).bind fun v2=>asB v2 fun t=>bif t then ((ix x0 x1).bind fun v3=>(bI .eql v3 (D.int .u8 73)).bind fun v4=>asB v4 fun t=>bif t then ((bI .add x1 (D.int .i64 1)).bind fun v5=>ret_ H [some v5]) else ((lnS x0).bind fun v6=>(bI .geq x1 v6).bind fun v7=>asB v7 fun t=>bif t then (ret_ H [some (D.int .i64 (-1))]) else ((ix x0 x1).bind fun v8=>(bI .neq v8 (D.int .u8 76)).bind fun v9=>asB v9 fun t=>bif t then (ret_ H [some (D.int .i64 (-1))]) else ((bI .add x1 (D.int .i64 1)).bind fun v10=>J E 229 6 [x0,x1,v10] H)))) else ((lnS x0).bind fun v11=>(bI .geq x1 v11).bind fun v12=>asB v12 fun t=>bif t then (ret_ H [some (D.int .i64 (-1))]) else ((ix x0 x1).bind fun v13=>(bI .neq v13 (D.int .u8 76)).bind fun v14=>asB v14 fun t=>bif t then (ret_ H [some (D.int .i64 (-1))]) else ((bI .add x1 (D.int .i64 1)).bind fun v15=>J E 229 6 [x0,x1,v15] H))):=
 (ent_seg E 229 [6] 400 [x0,x1] H).trans (by kernel_rfl)
theorem j229_6 (x0 x1 x5:D) (H:Heap) :
  J E 229 6 [x0,x1,x5] H =
  (lnS x0).bind fun v16=>(bI .lss x5 v16).bind fun v17=>asB v17 fun t=>bif t then ((ix x0 x5).bind fun v18=>(bI .eql v18 (D.int .u8 59)).bind fun v19=>asB v19 fun t=>bif t then ((bI .add x1 (D.int .i64 1)).bind fun v20=>(slS x0 (some v20) (some x5) none).bind fun v21=>(callFn E (exec E) .pure 140 [v21] H).bind fun r22=>asB r22.1 fun t=>bif t then ((bI .add x5 (D.int .i64 1)).bind fun v23=>ret_ r22.2 [some v23]) else (ret_ r22.2 [some (D.int .i64 (-1))])) else ((bI .add x5 (D.int .i64 1)).bind fun v24=>J E 229 6 [x0,x1,v24] H)) else (ret_ H [some (D.int .i64 (-1))]):=
 (J_seg E 229 6 [6] 400 [x0,x1,x5] H).trans (by kernel_rfl)
theorem e230 (x0:D) (H:Heap) :
  ent E 230 [x0] H =
  (bsl 1 [.str []] H 0 []).bind fun r1=>(lnS x0).bind fun v2=>(bI .eql v2 (D.int .i64 0)).bind fun v3=>asB v3 fun t=>bif t then (ret_ r1.2 [some D.sl0,some (D.str []),some (D.bool false)]) else ((ix x0 (D.int .i64 0)).bind fun v4=>(bI .neq v4 (D.int .u8 40)).bind fun v5=>asB v5 fun t=>bif t then (ret_ r1.2 [some D.sl0,some (D.str []),some (D.bool false)]) else (J E 230 5 [x0,r1.1,(D.int .i64 1)] r1.2)):=
 (ent_seg E 230 [5] 400 [x0] H).trans (by kernel_rfl)
theorem j230_5 (x0 x5 x6:D) (H:Heap) :
  J E 230 5 [x0,x5,x6] H =
  (lnS x0).bind fun v6=>(bI .lss x6 v6).bind fun v7=>asB v7 fun t=>bif t then ((ix x0 x6).bind fun v8=>(bI .neq v8 (D.int .u8 41)).bind fun v9=>asB v9 fun t=>bif t then ((callFn E (exec E) .pure 229 [x0,x6] H).bind fun r10=>(bI .lss r10.1 (D.int .i64 0)).bind fun v11=>asB v11 fun t=>bif t then (ret_ r10.2 [some D.sl0,some (D.str []),some (D.bool false)]) else ((lnL x5).bind fun v12=>(bI .geq v12 (D.int .i64 4)).bind fun v13=>asB v13 fun t=>bif t then (ret_ r10.2 [some D.sl0,some (D.str []),some (D.bool false)]) else ((slS x0 (some x6) (some r10.1) none).bind fun v14=>(bsl 1 [.str []] r10.2 1 [(0,v14)]).bind fun r15=>(app 1 16 r15.2 x5 r15.1).bind fun r16=>J E 230 5 [x0,r16.1,r10.1] r16.2))) else ((lnS x0).bind fun v17=>(bI .geq x6 v17).bind fun v18=>asB v18 fun t=>bif t then (ret_ H [some D.sl0,some (D.str []),some (D.bool false)]) else ((bI .add x6 (D.int .i64 1)).bind fun v19=>(slS x0 (some v19) none none).bind fun v20=>(bS .neq v20 (D.str [86])).bind fun v21=>asB v21 fun t=>bif t then ((callFn E (exec E) .pure 170 [v20] H).bind fun r22=>(unOp .not r22.1).bind fun v23=>asB v23 fun t=>bif t then (ret_ r22.2 [some D.sl0,some (D.str []),some (D.bool false)]) else (ret_ r22.2 [some x5,some v20,some (D.bool true)])) else (ret_ H [some x5,some v20,some (D.bool true)])))) else ((lnS x0).bind fun v24=>(bI .geq x6 v24).bind fun v25=>asB v25 fun t=>bif t then (ret_ H [some D.sl0,some (D.str []),some (D.bool false)]) else ((bI .add x6 (D.int .i64 1)).bind fun v26=>(slS x0 (some v26) none none).bind fun v27=>(bS .neq v27 (D.str [86])).bind fun v28=>asB v28 fun t=>bif t then ((callFn E (exec E) .pure 170 [v27] H).bind fun r29=>(unOp .not r29.1).bind fun v30=>asB v30 fun t=>bif t then (ret_ r29.2 [some D.sl0,some (D.str []),some (D.bool false)]) else (ret_ r29.2 [some x5,some v27,some (D.bool true)])) else (ret_ H [some x5,some v27,some (D.bool true)]))):=
 (J_seg E 230 5 [5] 400 [x0,x5,x6] H).trans (by kernel_rfl)
theorem e231 (x0:D) (H:Heap) :
  ent E 231 [x0] H =
  (bI .eql x0 (D.int .i64 1)).bind fun v1=>asB v1 fun t=>bif t then (ret_ H [some (D.int .i64 2)]) else ((bI .eql x0 (D.int .i64 3)).bind fun v2=>asB v2 fun t=>bif t then (asB v2 fun t=>bif t then (J E 231 8 [] H) else (J E 231 9 [x0] H)) else ((bI .eql x0 (D.int .i64 4)).bind fun v3=>asB v3 fun t=>bif t then (asB v3 fun t=>bif t then (J E 231 8 [] H) else (J E 231 9 [x0] H)) else ((bI .eql x0 (D.int .i64 5)).bind fun v4=>asB v4 fun t=>bif t then (asB v4 fun t=>bif t then (J E 231 8 [] H) else (J E 231 9 [x0] H)) else ((bI .eql x0 (D.int .i64 6)).bind fun v5=>asB v5 fun t=>bif t then (J E 231 8 [] H) else (J E 231 9 [x0] H))))):=
 (ent_seg E 231 [8,9] 400 [x0] H).trans (by kernel_rfl)
theorem j231_8 (H:Heap) :
  J E 231 8 [] H =
  ret_ H [some (D.int .i64 1)]:=
 (J_seg E 231 8 [8,9] 400 [] H).trans (by kernel_rfl)
theorem j231_9 (x0:D) (H:Heap) :
  J E 231 9 [x0] H =
  (callFn E (exec E) .pure 63 [x0,(D.int .i64 14),(D.int .i64 18)] H).bind fun r6=>asB r6.1 fun t=>bif t then (ret_ r6.2 [some (D.int .i64 2)]) else ((callFn E (exec E) .pure 63 [x0,(D.int .i64 19),(D.int .i64 29)] r6.2).bind fun r7=>asB r7.1 fun t=>bif t then (ret_ r7.2 [some (D.int .i64 2)]) else ((callFn E (exec E) .pure 63 [x0,(D.int .i64 0),(D.int .i64 34)] r7.2).bind fun r8=>asB r8.1 fun t=>bif t then (ret_ r8.2 [some (D.int .i64 0)]) else (ret_ r8.2 [some (D.int .i64 (-1))]))):=
 (J_seg E 231 9 [8,9] 400 [x0] H).trans (by kernel_rfl)
theorem e232 (x0 x1:D) (H:Heap) :
  ent E 232 [x0,x1] H =
  (lnS x0).bind fun v1=>(bI .eql v1 (D.int .i64 0)).bind fun v2=>asB v2 fun t=>bif t then (ret_ H [some (D.int .i64 0)]) else ((ix x0 (D.int .i64 0)).bind fun v3=>(cI .i64 v3).bind fun v4=>(lnS x0).bind fun v5=>(bI .eql v5 (D.int .i64 2)).bind fun v6=>asB v6 fun t=>bif t then ((bI .mul v4 (D.int .i64 256)).bind fun v7=>(ix x0 (D.int .i64 1)).bind fun v8=>(cI .i64 v8).bind fun v9=>(bI .add v7 v9).bind fun v10=>J E 232 6 [x1,v10] H) else (J E 232 6 [x1,v4] H)):=
 (ent_seg E 232 [6] 400 [x0,x1] H).trans (by kernel_rfl)
theorem j232_6 (x1 x5:D) (H:Heap) :
  J E 232 6 [x1,x5] H =
  (bI .eql x1 (D.int .i64 1)).bind fun v11=>asB v11 fun t=>bif t then ((bI .geq x5 (D.int .i64 32768)).bind fun v12=>asB v12 fun t=>bif t then ((bI .sub x5 (D.int .i64 65536)).bind fun v13=>ret_ H [some v13]) else (ret_ H [some x5])) else (ret_ H [some x5]):=
 (J_seg E 232 6 [6] 400 [x1,x5] H).trans (by kernel_rfl)
theorem e233 (x0 x1:D) (H:Heap) :
  ent E 233 [x0,x1] H =
  J E 233 2 [x0,x1,(D.int .i64 0)] H:=
 (ent_seg E 233 [2] 400 [x0,x1] H).trans (by kernel_rfl)
theorem j233_2 (x0 x1 x5:D) (H:Heap) :
  J E 233 2 [x0,x1,x5] H =
  (lnL x0).bind fun v1=>(bI .lss x5 v1).bind fun v2=>asB v2 fun t=>bif t then ((ia 3 H x0 x5).bind fun v3=>(fa 0 v3).bind fun v4=>(ld false 1 H v4).bind fun v5=>(bI .eql v5 x1).bind fun v6=>asB v6 fun t=>bif t then (ret_ H [some x5]) else ((bI .add x5 (D.int .i64 1)).bind fun v7=>J E 233 2 [x0,x1,v7] H)) else (ret_ H [some (D.int .i64 (-1))]):=
 (J_seg E 233 2 [2] 400 [x0,x1,x5] H).trans (by kernel_rfl)
theorem e234 (x0:D) (H:Heap) :
  ent E 234 [x0] H =
  (bI .eql x0 (D.int .i64 19)).bind fun v1=>asB v1 fun t=>bif t then (asB v1 fun t=>bif t then (J E 234 5 [] H) else (J E 234 6 [x0] H)) else ((bI .eql x0 (D.int .i64 28)).bind fun v2=>asB v2 fun t=>bif t then (asB v2 fun t=>bif t then (J E 234 5 [] H) else (J E 234 6 [x0] H)) else ((bI .eql x0 (D.int .i64 29)).bind fun v3=>asB v3 fun t=>bif t then (J E 234 5 [] H) else (J E 234 6 [x0] H))):=
 (ent_seg E 234 [5,6,10,11,14,15] 400 [x0] H).trans (by kernel_rfl)
theorem j234_5 (H:Heap) :
  J E 234 5 [] H =
  ret_ H [some (D.int .i64 2)]:=
 (J_seg E 234 5 [5,6,10,11,14,15] 400 [] H).trans (by kernel_rfl)
theorem j234_6 (x3:D) (H:Heap) :
  J E 234 6 [x3] H =
  (bI .eql x3 (D.int .i64 20)).bind fun v4=>asB v4 fun t=>bif t then (asB v4 fun t=>bif t then (J E 234 10 [] H) else (J E 234 11 [x3] H)) else ((bI .eql x3 (D.int .i64 21)).bind fun v5=>asB v5 fun t=>bif t then (asB v5 fun t=>bif t then (J E 234 10 [] H) else (J E 234 11 [x3] H)) else ((bI .eql x3 (D.int .i64 22)).bind fun v6=>asB v6 fun t=>bif t then (asB v6 fun t=>bif t then (J E 234 10 [] H) else (J E 234 11 [x3] H)) else ((bI .eql x3 (D.int .i64 23)).bind fun v7=>asB v7 fun t=>bif t then (J E 234 10 [] H) else (J E 234 11 [x3] H)))):=
 (J_seg E 234 6 [5,6,10,11,14,15] 400 [x3] H).trans (by kernel_rfl)
theorem j234_10 (H:Heap) :
  J E 234 10 [] H =
  ret_ H [some (D.int .i64 4)]:=
 (J_seg E 234 10 [5,6,10,11,14,15] 400 [] H).trans (by kernel_rfl)
theorem j234_11 (x3:D) (H:Heap) :
  J E 234 11 [x3] H =
  (bI .eql x3 (D.int .i64 24)).bind fun v8=>asB v8 fun t=>bif t then (asB v8 fun t=>bif t then (J E 234 14 [] H) else (J E 234 15 [x3] H)) else ((bI .eql x3 (D.int .i64 25)).bind fun v9=>asB v9 fun t=>bif t then (asB v9 fun t=>bif t then (J E 234 14 [] H) else (J E 234 15 [x3] H)) else ((bI .eql x3 (D.int .i64 26)).bind fun v10=>asB v10 fun t=>bif t then (J E 234 14 [] H) else (J E 234 15 [x3] H))):=
 (J_seg E 234 11 [5,6,10,11,14,15] 400 [x3] H).trans (by kernel_rfl)
theorem j234_14 (H:Heap) :
  J E 234 14 [] H =
  ret_ H [some (D.int .i64 5)]:=
 (J_seg E 234 14 [5,6,10,11,14,15] 400 [] H).trans (by kernel_rfl)
theorem j234_15 (x3:D) (H:Heap) :
  J E 234 15 [x3] H =
  (bI .eql x3 (D.int .i64 27)).bind fun v11=>asB v11 fun t=>bif t then (ret_ H [some (D.int .i64 6)]) else (ret_ H [some (D.int .i64 0)]):=
 (J_seg E 234 15 [5,6,10,11,14,15] 400 [x3] H).trans (by kernel_rfl)
theorem e235 (x0 x1:D) (H:Heap) :
  ent E 235 [x0,x1] H =
  alloc_ H (D.cells x0) fun p1 H1=>J E 235 2 [x1,p1,(D.int .i64 0)] H1:=
 (ent_seg E 235 [2,4] 400 [x0,x1] H).trans (by kernel_rfl)
theorem j235_2 (x1 x2 x5:D) (H:Heap) :
  J E 235 2 [x1,x2,x5] H =
  (lnL x1).bind fun v2=>(bI .lss x5 v2).bind fun v3=>asB v3 fun t=>bif t then (J E 235 4 [x1,x2,x5] H) else (ret_ H [some (D.bool true)]):=
 (J_seg E 235 2 [2,4] 400 [x1,x2,x5] H).trans (by kernel_rfl)
theorem j235_4 (x1 x2 x5:D) (H:Heap) :
  J E 235 4 [x1,x2,x5] H =
  (ia 2 H x1 x5).bind fun v4=>(fa 0 v4).bind fun v5=>(ld false 1 H v5).bind fun v6=>(callFn E (exec E) .pure 63 [v6,(D.int .i64 0),(D.int .i64 3)] H).bind fun r7=>(unOp .not r7.1).bind fun v8=>asB v8 fun t=>bif t then (ret_ r7.2 [some (D.bool false)]) else ((ia 2 r7.2 x1 x5).bind fun v9=>(fa 0 v9).bind fun v10=>(ld false 1 r7.2 v10).bind fun v11=>(bI .eql v11 (D.int .i64 3)).bind fun v12=>asB v12 fun t=>bif t then ((fa 0 x2).bind fun v13=>(ld false 1 r7.2 v13).bind fun v14=>(ia 2 r7.2 x1 x5).bind fun v15=>(fa 1 v15).bind fun v16=>(ld false 1 r7.2 v16).bind fun v17=>(callFn E (exec E) .pure 167 [v14,v17] r7.2).bind fun r18=>(bS .eql r18.1 (D.str [])).bind fun v19=>asB v19 fun t=>bif t then (ret_ r18.2 [some (D.bool false)]) else ((ia 2 r18.2 x1 x5).bind fun v20=>(fa 0 v20).bind fun v21=>(ld false 1 r18.2 v21).bind fun v22=>(bI .neq v22 (D.int .i64 3)).bind fun v23=>asB v23 fun t=>bif t then ((ia 2 r18.2 x1 x5).bind fun v24=>(fa 1 v24).bind fun v25=>(ld false 1 r18.2 v25).bind fun v26=>(bI .neq v26 (D.int .i64 0)).bind fun v27=>asB v27 fun t=>bif t then (ret_ r18.2 [some (D.bool false)]) else ((bI .add x5 (D.int .i64 1)).bind fun v28=>J E 235 2 [x1,x2,v28] r18.2)) else ((bI .add x5 (D.int .i64 1)).bind fun v29=>J E 235 2 [x1,x2,v29] r18.2))) else ((ia 2 r7.2 x1 x5).bind fun v30=>(fa 0 v30).bind fun v31=>(ld false 1 r7.2 v31).bind fun v32=>(bI .neq v32 (D.int .i64 3)).bind fun v33=>asB v33 fun t=>bif t then ((ia 2 r7.2 x1 x5).bind fun v34=>(fa 1 v34).bind fun v35=>(ld false 1 r7.2 v35).bind fun v36=>(bI .neq v36 (D.int .i64 0)).bind fun v37=>asB v37 fun t=>bif t then (ret_ r7.2 [some (D.bool false)]) else ((bI .add x5 (D.int .i64 1)).bind fun v38=>J E 235 2 [x1,x2,v38] r7.2)) else ((bI .add x5 (D.int .i64 1)).bind fun v39=>J E 235 2 [x1,x2,v39] r7.2))):=
 (J_seg E 235 4 [2,4] 400 [x1,x2,x5] H).trans (by kernel_rfl)
theorem e236 (x0:D) (H:Heap) :
  ent E 236 [x0] H =
  alloc_ H (D.cells x0) fun p1 H1=>alloc_ H1 [.int .i64 0,.int .i64 0,.int .i64 0,.int .i64 0] fun p2 H2=>alloc_ H2 [.int .i64 0,.int .i64 0,.int .i64 0,.int .i64 0] fun p3 H3=>(fa 0 p1).bind fun v4=>(ld false 1 H3 v4).bind fun v5=>(fa 0 p3).bind fun v6=>(st 1 H3 v6 v5).bind fun H7=>(fa 1 p1).bind fun v8=>(ld false 1 H7 v8).bind fun v9=>(fa 1 p3).bind fun v10=>(st 1 H7 v10 v9).bind fun H11=>(fa 2 p1).bind fun v12=>(ld false 1 H11 v12).bind fun v13=>(fa 2 p3).bind fun v14=>(st 1 H11 v14 v13).bind fun H15=>(fa 3 p1).bind fun v16=>(ld false 1 H15 v16).bind fun v17=>(fa 3 p3).bind fun v18=>(st 1 H15 v18 v17).bind fun H19=>(ld true 4 H19 p3).bind fun v20=>(st 4 H19 p2 v20).bind fun H21=>ret_ H21 [ld true 4 H21 p2]:=
 (ent_seg E 236 [] 400 [x0] H).trans (by kernel_rfl)
theorem e237 (x0:D) (H:Heap) :
  ent E 237 [x0] H =
  alloc_ H (D.cells x0) fun p1 H1=>alloc_ H1 [.int .i64 0,.sl0,.sl0] fun p2 H2=>alloc_ H2 [.int .i64 0,.sl0,.sl0] fun p3 H3=>(fa 0 p1).bind fun v4=>(ld false 1 H3 v4).bind fun v5=>(fa 0 p3).bind fun v6=>(st 1 H3 v6 v5).bind fun H7=>(fa 1 p1).bind fun v8=>(ld false 1 H7 v8).bind fun v9=>(callFn E (exec E) .own 254 [v9] H7).bind fun r10=>(fa 1 p3).bind fun v11=>(st 1 r10.2 v11 r10.1).bind fun H12=>(fa 2 p1).bind fun v13=>(ld false 1 H12 v13).bind fun v14=>(callFn E (exec E) .own 254 [v14] H12).bind fun r15=>(fa 2 p3).bind fun v16=>(st 1 r15.2 v16 r15.1).bind fun H17=>(ld true 3 H17 p3).bind fun v18=>(st 3 H17 p2 v18).bind fun H19=>ret_ H19 [ld true 3 H19 p2]:=
 (ent_seg E 237 [] 400 [x0] H).trans (by kernel_rfl)
theorem e238 (x0:D) (H:Heap) :
  ent E 238 [x0] H =
  (callFn E (exec E) .raw 185 [x0] H).bind fun r1=>(callFn E (exec E) .raw 184 [x0,r1.1,(D.int .i64 8)] r1.2).bind fun r2=>J E 238 3 [x0,D.sl0,r2.1] r2.2:=
 (ent_seg E 238 [3,8] 400 [x0] H).trans (by kernel_rfl)
theorem j238_3 (x0 x3 x4:D) (H:Heap) :
  J E 238 3 [x0,x3,x4] H =
  (bI .gtr x4 (D.int .i64 0)).bind fun v3=>asB v3 fun t=>bif t then ((nilCheck x0).bind fun v4=>(fa 1 v4).bind fun v5=>(ld false 1 H v5).bind fun v6=>(unOp .not v6).bind fun v7=>asB v7 fun t=>bif t then ((callFn E (exec E) .raw 185 [x0] H).bind fun r8=>(callFn E (exec E) .raw 184 [x0,r8.1,(D.int .i64 3)] r8.2).bind fun r9=>(bld [.int .i64 0,.int .i64 0] [(0,1,false),(1,1,false)] [(0,r9.1)]).bind fun v10=>alloc_ r9.2 [.int .i64 0,.int .i64 0] fun p11 H11=>(st 2 H11 p11 v10).bind fun H12=>(fa 0 p11).bind fun v13=>(ld false 1 H12 v13).bind fun v14=>(bI .eql v14 (D.int .i64 3)).bind fun v15=>asB v15 fun t=>bif t then ((callFn E (exec E) .raw 187 [x0] H12).bind fun r16=>(fa 1 p11).bind fun v17=>(st 1 r16.2 v17 r16.1).bind fun H18=>J E 238 8 [x0,x3,x4,p11] H18) else (J E 238 8 [x0,x3,x4,p11] H12)) else (ret_ H [some x3])) else (ret_ H [some x3]):=
 (J_seg E 238 3 [3,8] 400 [x0,x3,x4] H).trans (by kernel_rfl)
theorem j238_8 (x0 x3 x4 x5:D) (H:Heap) :
  J E 238 8 [x0,x3,x4,x5] H =
  (ld true 2 H x5).bind fun v19=>(bsl 2 [.int .i64 0,.int .i64 0] H 1 [(0,v19)]).bind fun r20=>(app 2 16 r20.2 x3 r20.1).bind fun r21=>(bI .sub x4 (D.int .i64 1)).bind fun v22=>J E 238 3 [x0,r21.1,v22] r21.2:=
 (J_seg E 238 8 [3,8] 400 [x0,x3,x4,x5] H).trans (by kernel_rfl)
theorem e239 (x0 x1:D) (H:Heap) :
  ent E 239 [x0,x1] H =
  (lnL x0).bind fun v1=>(lnL x1).bind fun v2=>(bI .neq v1 v2).bind fun v3=>asB v3 fun t=>bif t then (ret_ H [some (D.bool false)]) else ((lnL x0).bind fun v4=>J E 239 4 [x0,x1,v4,(D.int .i64 0)] H):=
 (ent_seg E 239 [4] 400 [x0,x1] H).trans (by kernel_rfl)
theorem j239_4 (x0 x1 x12 x13:D) (H:Heap) :
  J E 239 4 [x0,x1,x12,x13] H =
  (bI .lss x13 x12).bind fun v5=>asB v5 fun t=>bif t then ((ia 4 H x0 x13).bind fun v6=>(ld true 4 H v6).bind fun v7=>(ia 4 H x1 x13).bind fun v8=>(ld true 4 H v8).bind fun v9=>(bA [.int .i64,.int .i64,.int .i64,.int .i64] .neq v7 v9).bind fun v10=>asB v10 fun t=>bif t then (ret_ H [some (D.bool false)]) else ((bI .add x13 (D.int .i64 1)).bind fun v11=>J E 239 4 [x0,x1,x12,v11] H)) else (ret_ H [some (D.bool true)]):=
 (J_seg E 239 4 [4] 400 [x0,x1,x12,x13] H).trans (by kernel_rfl)
theorem e240 (x0 x1 x2:D) (H:Heap) :
  ent E 240 [x0,x1,x2] H =
  (lnL x0).bind fun v1=>(lnL x1).bind fun v2=>(bI .neq v1 v2).bind fun v3=>asB v3 fun t=>bif t then (ret_ H [some (D.bool false)]) else ((lnL x0).bind fun v4=>J E 240 4 [x1,x2,x0,v4,(D.int .i64 0)] H):=
 (ent_seg E 240 [4] 400 [x0,x1,x2] H).trans (by kernel_rfl)
theorem j240_4 (x1 x2 x15 x16 x17:D) (H:Heap) :
  J E 240 4 [x1,x2,x15,x16,x17] H =
  (bI .lss x17 x16).bind fun v5=>asB v5 fun t=>bif t then ((ia 3 H x15 x17).bind fun v6=>(ld true 3 H v6).bind fun v7=>alloc_ H [.int .i64 0,.sl0,.sl0] fun p8 H8=>(st 3 H8 p8 v7).bind fun H9=>(ia 3 H9 x1 x17).bind fun v10=>(ld true 3 H9 v10).bind fun v11=>alloc_ H9 [.int .i64 0,.sl0,.sl0] fun p12 H12=>(st 3 H12 p12 v11).bind fun H13=>(ld true 3 H13 p8).bind fun v14=>(ld true 3 H13 p12).bind fun v15=>asFn x2 fun gq16 cq16=>(callFn E (exec E) (modeT 240 gq16) gq16 ([v14,v15]++cq16) H13).bind fun r17=>(unOp .not r17.1).bind fun v18=>asB v18 fun t=>bif t then (ret_ r17.2 [some (D.bool false)]) else ((bI .add x17 (D.int .i64 1)).bind fun v19=>J E 240 4 [x1,x2,x15,x16,v19] r17.2)) else (ret_ H [some (D.bool true)]):=
 (J_seg E 240 4 [4] 400 [x1,x2,x15,x16,x17] H).trans (by kernel_rfl)
theorem e241 (x0 x1:D) (H:Heap) :
  ent E 241 [x0,x1] H =
  alloc_ H (D.cells x0) fun p1 H1=>alloc_ H1 (D.cells x1) fun p2 H2=>(fa 0 p1).bind fun v3=>(ld false 1 H2 v3).bind fun v4=>(fa 0 p2).bind fun v5=>(ld false 1 H2 v5).bind fun v6=>(bI .eql v4 v6).bind fun v7=>asB v7 fun t=>bif t then ((fa 1 p1).bind fun v8=>(ld false 1 H2 v8).bind fun v9=>(fa 1 p2).bind fun v10=>(ld false 1 H2 v10).bind fun v11=>(callFn E (exec E) .pure 242 [v9,v11] H2).bind fun r12=>asB r12.1 fun t=>bif t then ((fa 2 p1).bind fun v13=>(ld false 1 r12.2 v13).bind fun v14=>(fa 2 p2).bind fun v15=>(ld false 1 r12.2 v15).bind fun v16=>(callFn E (exec E) .pure 242 [v14,v16] r12.2).bind fun r17=>ret_ r17.2 [some r17.1]) else (ret_ r12.2 [some (D.bool false)])) else (ret_ H2 [some (D.bool false)]):=
 (ent_seg E 241 [] 400 [x0,x1] H).trans (by kernel_rfl)
theorem e242 (x0 x1:D) (H:Heap) :
  ent E 242 [x0,x1] H =
  (lnL x0).bind fun v1=>(lnL x1).bind fun v2=>(bI .neq v1 v2).bind fun v3=>asB v3 fun t=>bif t then (ret_ H [some (D.bool false)]) else ((lnL x0).bind fun v4=>J E 242 4 [x0,x1,v4,(D.int .i64 0)] H):=
 (ent_seg E 242 [4] 400 [x0,x1] H).trans (by kernel_rfl)
theorem j242_4 (x0 x1 x12 x13:D) (H:Heap) :
  J E 242 4 [x0,x1,x12,x13] H =
  (bI .lss x13 x12).bind fun v5=>asB v5 fun t=>bif t then ((ia 2 H x0 x13).bind fun v6=>(ld true 2 H v6).bind fun v7=>(ia 2 H x1 x13).bind fun v8=>(ld true 2 H v8).bind fun v9=>(bA [.int .i64,.int .i64] .neq v7 v9).bind fun v10=>asB v10 fun t=>bif t then (ret_ H [some (D.bool false)]) else ((bI .add x13 (D.int .i64 1)).bind fun v11=>J E 242 4 [x0,x1,x12,v11] H)) else (ret_ H [some (D.bool true)]):=
 (J_seg E 242 4 [4] 400 [x0,x1,x12,x13] H).trans (by kernel_rfl)
theorem e243 (x0 x1:D) (H:Heap) :
  ent E 243 [x0,x1] H =
  (callFn E (exec E) .pure 255 [x0,x1] H).bind fun r1=>(extract r1.1 0).bind fun v2=>(extract r1.1 1).bind fun v3=>ret_ r1.2 [some v2,some v3]:=
 (ent_seg E 243 [] 400 [x0,x1] H).trans (by kernel_rfl)
theorem e244 (x0 x1:D) (H:Heap) :
  ent E 244 [x0,x1] H =
  (callFn E (exec E) .pure 256 [x0,x1] H).bind fun r1=>(bI .geq r1.1 (D.int .i64 0)).bind fun v2=>asB v2 fun t=>bif t then ((slS x0 none (some r1.1) none).bind fun v3=>(lnS x1).bind fun v4=>(bI .add r1.1 v4).bind fun v5=>(slS x0 (some v5) none none).bind fun v6=>ret_ r1.2 [some v3,some v6,some (D.bool true)]) else (ret_ r1.2 [some x0,some (D.str []),some (D.bool false)]):=
 (ent_seg E 244 [] 400 [x0,x1] H).trans (by kernel_rfl)
theorem e245 (x0 x1:D) (H:Heap) :
  ent E 245 [x0,x1] H =
  (callFn E (exec E) .pure 257 [x0,x1] H).bind fun r1=>(unOp .not r1.1).bind fun v2=>asB v2 fun t=>bif t then (ret_ r1.2 [some x0,some (D.bool false)]) else ((lnS x1).bind fun v3=>(slS x0 (some v3) none none).bind fun v4=>ret_ r1.2 [some v4,some (D.bool true)]):=
 (ent_seg E 245 [] 400 [x0,x1] H).trans (by kernel_rfl)
theorem e246 (x0 x1:D) (H:Heap) :
  ent E 246 [x0,x1] H =
  (callFn E (exec E) .ext 258 [x0,x1] H).bind fun r1=>ret_ r1.2 [some r1.1]:=
 (ent_seg E 246 [] 400 [x0,x1] H).trans (by kernel_rfl)
theorem e247 (x0 x1:D) (H:Heap) :
  ent E 247 [x0,x1] H =
  (lnL x0).bind fun v1=>J E 247 2 [x0,x1,v1,(D.int .i64 0)] H:=
 (ent_seg E 247 [2] 400 [x0,x1] H).trans (by kernel_rfl)
theorem j247_2 (x0 x1 x7 x8:D) (H:Heap) :
  J E 247 2 [x0,x1,x7,x8] H =
  (bI .lss x8 x7).bind fun v2=>asB v2 fun t=>bif t then ((ia 2 H x0 x8).bind fun v3=>(ld true 2 H v3).bind fun v4=>asFn x1 fun gq5 cq5=>(callFn E (exec E) (modeT 247 gq5) gq5 ([v4]++cq5) H).bind fun r6=>asB r6.1 fun t=>bif t then (ret_ r6.2 [some x8]) else ((bI .add x8 (D.int .i64 1)).bind fun v7=>J E 247 2 [x0,x1,x7,v7] r6.2)) else (ret_ H [some (D.int .i64 (-1))]):=
 (J_seg E 247 2 [2] 400 [x0,x1,x7,x8] H).trans (by kernel_rfl)
theorem e248 (x0 x1:D) (H:Heap) :
  ent E 248 [x0,x1] H =
  alloc_ H (D.cells x0) fun p1 H1=>alloc_ H1 (D.cells x1) fun p2 H2=>(fa 0 p1).bind fun v3=>(ld false 1 H2 v3).bind fun v4=>(fa 0 p2).bind fun v5=>(ld false 1 H2 v5).bind fun v6=>(bI .neq v4 v6).bind fun v7=>asB v7 fun t=>bif t then (ret_ H2 [some (D.bool false)]) else ((fa 1 p1).bind fun v8=>(ld false 1 H2 v8).bind fun v9=>(fa 1 p2).bind fun v10=>(ld false 1 H2 v10).bind fun v11=>(bI .neq v9 v11).bind fun v12=>asB v12 fun t=>bif t then (ret_ H2 [some (D.bool false)]) else ((fa 2 p1).bind fun v13=>(ld false 1 H2 v13).bind fun v14=>(fa 2 p2).bind fun v15=>(ld false 1 H2 v15).bind fun v16=>(bI .neq v14 v16).bind fun v17=>asB v17 fun t=>bif t then (ret_ H2 [some (D.bool false)]) else ((fa 3 p1).bind fun v18=>(ld false 1 H2 v18).bind fun v19=>(fa 3 p2).bind fun v20=>(ld false 1 H2 v20).bind fun v21=>(bI .neq v19 v21).bind fun v22=>asB v22 fun t=>bif t then (ret_ H2 [some (D.bool false)]) else (ret_ H2 [some (D.bool true)])))):=
 (ent_seg E 248 [] 400 [x0,x1] H).trans (by kernel_rfl)
theorem e249 (x0 x1:D) (H:Heap) :
  ent E 249 [x0,x1] H =
  alloc_ H (D.cells x0) fun p1 H1=>alloc_ H1 (D.cells x1) fun p2 H2=>(fa 0 p1).bind fun v3=>(ld false 1 H2 v3).bind fun v4=>(fa 0 p2).bind fun v5=>(ld false 1 H2 v5).bind fun v6=>(bI .neq v4 v6).bind fun v7=>asB v7 fun t=>bif t then (ret_ H2 [some (D.bool false)]) else ((fa 1 p1).bind fun v8=>(ld false 1 H2 v8).bind fun v9=>(fa 1 p2).bind fun v10=>(ld false 1 H2 v10).bind fun v11=>(callFn E (exec E) .pure 259 [v9,v11] H2).bind fun r12=>(unOp .not r12.1).bind fun v13=>asB v13 fun t=>bif t then (ret_ r12.2 [some (D.bool false)]) else ((fa 2 p1).bind fun v14=>(ld false 1 r12.2 v14).bind fun v15=>(fa 2 p2).bind fun v16=>(ld false 1 r12.2 v16).bind fun v17=>(callFn E (exec E) .pure 259 [v15,v17] r12.2).bind fun r18=>(unOp .not r18.1).bind fun v19=>asB v19 fun t=>bif t then (ret_ r18.2 [some (D.bool false)]) else (ret_ r18.2 [some (D.bool true)]))):=
 (ent_seg E 249 [] 400 [x0,x1] H).trans (by kernel_rfl)
theorem e250 (x0 x1:D) (H:Heap) :
  ent E 250 [x0,x1] H =
  (lnL x0).bind fun v1=>(bI .sub x1 v1).bind fun v2=>(bI .lss v2 (D.int .i64 0)).bind fun v3=>asB v3 fun t=>bif t then (ret_ H [some (D.int .i64 (-1))]) else (ret_ H [some v2]):=
 (ent_seg E 250 [] 400 [x0,x1] H).trans (by kernel_rfl)
theorem e251 (x0:D) (H:Heap) :
  ent E 251 [x0] H =
  alloc_ H [.int .i64 0,.str [],.int .i64 0,.int .i64 0] fun p1 H1=>(callFn E (exec E) .raw 222 [x0] H1).bind fun r2=>(bld [.int .i64 0,.str [],.int .i64 0,.int .i64 0] [(0,1,false),(1,1,false),(2,1,false),(3,1,false)] [(0,r2.1)]).bind fun v3=>alloc_ r2.2 [.int .i64 0,.str [],.int .i64 0,.int .i64 0] fun p4 H4=>(st 4 H4 p4 v3).bind fun H5=>(fa 0 p4).bind fun v6=>(ld false 1 H5 v6).bind fun v7=>(bI .eql v7 (D.int .i64 1)).bind fun v8=>asB v8 fun t=>bif t then ((callFn E (exec E) .raw 222 [x0] H5).bind fun r9=>(callFn E (exec E) .raw 220 [x0,r9.1] r9.2).bind fun r10=>(fa 1 p4).bind fun v11=>(st 1 r10.2 v11 r10.1).bind fun H12=>J E 251 14 [p1,p4] H12) else ((bI .eql v7 (D.int .i64 2)).bind fun v13=>asB v13 fun t=>bif t then ((callFn E (exec E) .raw 223 [x0] H5).bind fun r14=>(fa 2 p4).bind fun v15=>(st 1 r14.2 v15 r14.1).bind fun H16=>J E 251 14 [p1,p4] H16) else ((bI .eql v7 (D.int .i64 3)).bind fun v17=>asB v17 fun t=>bif t then (asB v17 fun t=>bif t then (J E 251 12 [x0,p1,p4] H5) else (J E 251 3 [x0,p1,p4] H5)) else ((bI .eql v7 (D.int .i64 4)).bind fun v18=>asB v18 fun t=>bif t then (asB v18 fun t=>bif t then (J E 251 12 [x0,p1,p4] H5) else (J E 251 3 [x0,p1,p4] H5)) else ((bI .eql v7 (D.int .i64 5)).bind fun v19=>asB v19 fun t=>bif t then (asB v19 fun t=>bif t then (J E 251 12 [x0,p1,p4] H5) else (J E 251 3 [x0,p1,p4] H5)) else ((bI .eql v7 (D.int .i64 6)).bind fun v20=>asB v20 fun t=>bif t then (J E 251 12 [x0,p1,p4] H5) else (J E 251 3 [x0,p1,p4] H5)))))):=
 (ent_seg E 251 [3,12,14] 400 [x0] H).trans (by kernel_rfl)
theorem j251_3 (x0 x2 x3:D) (H:Heap) :
  J E 251 3 [x0,x2,x3] H =
  (nilCheck x0).bind fun v21=>(fa 2 v21).bind fun v22=>(st 1 H v22 (D.bool true)).bind fun H23=>J E 251 14 [x2,x3] H23:=
 (J_seg E 251 3 [3,12,14] 400 [x0,x2,x3] H).trans (by kernel_rfl)
theorem j251_12 (x0 x2 x3:D) (H:Heap) :
  J E 251 12 [x0,x2,x3] H =
  (callFn E (exec E) .raw 223 [x0] H).bind fun r24=>(fa 2 x3).bind fun v25=>(st 1 r24.2 v25 r24.1).bind fun H26=>(callFn E (exec E) .raw 223 [x0] H26).bind fun r27=>(fa 3 x3).bind fun v28=>(st 1 r27.2 v28 r27.1).bind fun H29=>J E 251 14 [x2,x3] H29:=
 (J_seg E 251 12 [3,12,14] 400 [x0,x2,x3] H).trans (by kernel_rfl)
theorem j251_14 (x2 x3:D) (H:Heap) :
  J E 251 14 [x2,x3] H =
  (ld true 4 H x3).bind fun v30=>(st 4 H x2 v30).bind fun H31=>ret_ H31 [ld true 4 H31 x2]:=
 (J_seg E 251 14 [3,12,14] 400 [x2,x3] H).trans (by kernel_rfl)
theorem e252 (x0 x1:D) (H:Heap) :
  ent E 252 [x0,x1] H =
  alloc_ H (D.cells x1) fun p1 H1=>alloc_ H1 [.int .i64 0,.int .i64 0,.int .i64 0,.int .i64 0,.int .i64 0,.str [],.sl0,.sl0] fun p2 H2=>(callFn E (exec E) .raw 222 [x0] H2).bind fun r3=>(fa 3 p1).bind fun v4=>(st 1 r3.2 v4 r3.1).bind fun H5=>(callFn E (exec E) .raw 222 [x0] H5).bind fun r6=>(fa 4 p1).bind fun v7=>(st 1 r6.2 v7 r6.1).bind fun H8=>(callFn E (exec E) .raw 223 [x0] H8).bind fun r9=>(bI .gtr r9.1 (D.int .i64 120)).bind fun v10=>asB v10 fun t=>bif t then ((nilCheck x0).bind fun v11=>(fa 2 v11).bind fun v12=>(st 1 r9.2 v12 (D.bool true)).bind fun H13=>J E 252 6 [x0,p1,p2,r9.1] H13) else (J E 252 6 [x0,p1,p2,r9.1] r9.2):=
 (ent_seg E 252 [6,10,11,17,18] 400 [x0,x1] H).trans (by kernel_rfl)
theorem j252_6 (x0 x3 x4 x5:D) (H:Heap) :
  J E 252 6 [x0,x3,x4,x5] H =
  (callFn E (exec E) .raw 220 [x0,x5] H).bind fun r14=>(fa 5 x3).bind fun v15=>(st 1 r14.2 v15 r14.1).bind fun H16=>(callFn E (exec E) .raw 222 [x0] H16).bind fun r17=>(bI .gtr r17.1 (D.int .i64 3)).bind fun v18=>asB v18 fun t=>bif t then ((nilCheck x0).bind fun v19=>(fa 2 v19).bind fun v20=>(st 1 r17.2 v20 (D.bool true)).bind fun H21=>J E 252 10 [x0,x3,x4,r17.1] H21) else (J E 252 10 [x0,x3,x4,r17.1] r17.2):=
 (J_seg E 252 6 [6,10,11,17,18] 400 [x0,x3,x4,x5] H).trans (by kernel_rfl)
theorem j252_10 (x0 x3 x4 x6:D) (H:Heap) :
  J E 252 10 [x0,x3,x4,x6] H =
  J E 252 11 [x0,x3,x4,x6,(D.int .i64 0)] H:=
 (J_seg E 252 10 [6,10,11,17,18] 400 [x0,x3,x4,x6] H).trans (by kernel_rfl)
theorem j252_11 (x0 x3 x4 x6 x7:D) (H:Heap) :
  J E 252 11 [x0,x3,x4,x6,x7] H =
  (bI .lss x7 x6).bind fun v22=>asB v22 fun t=>bif t then ((nilCheck x0).bind fun v23=>(fa 2 v23).bind fun v24=>(ld false 1 H v24).bind fun v25=>(unOp .not v25).bind fun v26=>asB v26 fun t=>bif t then ((fa 6 x3).bind fun v27=>(ld false 1 H v27).bind fun v28=>(callFn E (exec E) .raw 223 [x0] H).bind fun r29=>(ld false 1 r29.2 v27).bind fun w30=>again w30 v28 ((callFn E (exec E) .raw 223 [x0] r29.2).bind fun r31=>(ld false 1 r31.2 v27).bind fun w32=>again w32 v28 ((callFn E (exec E) .raw 223 [x0] r31.2).bind fun r33=>(ld false 1 r33.2 v27).bind fun w34=>again w34 v28 ((callFn E (exec E) .raw 223 [x0] r33.2).bind fun r35=>(ld false 1 r35.2 v27).bind fun w36=>again w36 v28 ((bld [.int .i64 0,.int .i64 0,.int .i64 0,.int .i64 0] [(0,1,false),(1,1,false),(2,1,false),(3,1,false)] [(0,r29.1),(1,r31.1),(2,r33.1),(3,r35.1)]).bind fun v37=>(bsl 4 [.int .i64 0,.int .i64 0,.int .i64 0,.int .i64 0] r35.2 1 [(0,v37)]).bind fun r38=>(app 4 32 r38.2 v28 r38.1).bind fun r39=>(fa 6 x3).bind fun v40=>(st 1 r39.2 v40 r39.1).bind fun H41=>(bI .add x7 (D.int .i64 1)).bind fun v42=>J E 252 11 [x0,x3,x4,x6,v42] H41))))) else ((callFn E (exec E) .raw 222 [x0] H).bind fun r43=>(bI .gtr r43.1 (D.int .i64 8)).bind fun v44=>asB v44 fun t=>bif t then ((nilCheck x0).bind fun v45=>(fa 2 v45).bind fun v46=>(st 1 r43.2 v46 (D.bool true)).bind fun H47=>J E 252 17 [x0,x3,x4,r43.1] H47) else (J E 252 17 [x0,x3,x4,r43.1] r43.2))) else ((callFn E (exec E) .raw 222 [x0] H).bind fun r48=>(bI .gtr r48.1 (D.int .i64 8)).bind fun v49=>asB v49 fun t=>bif t then ((nilCheck x0).bind fun v50=>(fa 2 v50).bind fun v51=>(st 1 r48.2 v51 (D.bool true)).bind fun H52=>J E 252 17 [x0,x3,x4,r48.1] H52) else (J E 252 17 [x0,x3,x4,r48.1] r48.2)):=
 (J_seg E 252 11 [6,10,11,17,18] 400 [x0,x3,x4,x6,x7] H).trans (by kernel_rfl)
theorem j252_17 (x0 x3 x4 x6:D) (H:Heap) :
  J E 252 17 [x0,x3,x4,x6] H =
  J E 252 18 [x0,x3,x4,x6,(D.int .i64 0)] H:=
 (J_seg E 252 17 [6,10,11,17,18] 400 [x0,x3,x4,x6] H).trans (by kernel_rfl)
theorem j252_18 (x0 x3 x4 x6 x8:D) (H:Heap) :
  J E 252 18 [x0,x3,x4,x6,x8] H =
  (bI .lss x8 x6).bind fun v53=>asB v53 fun t=>bif t then ((nilCheck x0).bind fun v54=>(fa 2 v54).bind fun v55=>(ld false 1 H v55).bind fun v56=>(unOp .not v56).bind fun v57=>asB v57 fun t=>bif t then ((fa 7 x3).bind fun v58=>(ld false 1 H v58).bind fun v59=>(callFn E (exec E) .raw 223 [x0] H).bind fun r60=>(ld false 1 r60.2 v58).bind fun w61=>again w61 v59 ((callFn E (exec E) .raw 260 [x0] r60.2).bind fun r62=>(ld false 1 r62.2 v58).bind fun w63=>again w63 v59 ((callFn E (exec E) .raw 260 [x0] r62.2).bind fun r64=>(ld false 1 r64.2 v58).bind fun w65=>again w65 v59 ((bld [.int .i64 0,.sl0,.sl0] [(0,1,false),(1,1,false),(2,1,false)] [(0,r60.1),(1,r62.1),(2,r64.1)]).bind fun v66=>(bsl 3 [.int .i64 0,.sl0,.sl0] r64.2 1 [(0,v66)]).bind fun r67=>(app 3 56 r67.2 v59 r67.1).bind fun r68=>(fa 7 x3).bind fun v69=>(st 1 r68.2 v69 r68.1).bind fun H70=>(bI .add x8 (D.int .i64 1)).bind fun v71=>J E 252 18 [x0,x3,x4,x6,v71] H70)))) else ((ld true 8 H x3).bind fun v72=>(st 8 H x4 v72).bind fun H73=>ret_ H73 [ld true 8 H73 x4])) else ((ld true 8 H x3).bind fun v74=>(st 8 H x4 v74).bind fun H75=>ret_ H75 [ld true 8 H75 x4]):=
 (J_seg E 252 18 [6,10,11,17,18] 400 [x0,x3,x4,x6,x8] H).trans (by kernel_rfl)
theorem e253 (x0 x1:D) (H:Heap) :
  ent E 253 [x0,x1] H =
  (lnL x0).bind fun v1=>(lnL x1).bind fun v2=>(bI .neq v1 v2).bind fun v3=>asB v3 fun t=>bif t then (ret_ H [some (D.bool false)]) else (J E 253 4 [x0,x1,(D.int .i64 0)] H):=
 (ent_seg E 253 [4] 400 [x0,x1] H).trans (by kernel_rfl)
theorem j253_4 (x0 x1 x5:D) (H:Heap) :
  J E 253 4 [x0,x1,x5] H =
  (lnL x0).bind fun v4=>(bI .lss x5 v4).bind fun v5=>asB v5 fun t=>bif t then ((ia 2 H x0 x5).bind fun v6=>(ld true 2 H v6).bind fun v7=>(ia 2 H x1 x5).bind fun v8=>(ld true 2 H v8).bind fun v9=>(bA [.int .i64,.int .i64] .neq v7 v9).bind fun v10=>asB v10 fun t=>bif t then (ret_ H [some (D.bool false)]) else ((bI .add x5 (D.int .i64 1)).bind fun v11=>J E 253 4 [x0,x1,v11] H)) else (ret_ H [some (D.bool true)]):=
 (J_seg E 253 4 [4] 400 [x0,x1,x5] H).trans (by kernel_rfl)
theorem e254 (x0:D) (H:Heap) :
  ent E 254 [x0] H =
  (lnL x0).bind fun v1=>(mks 16 [.int .i64 0,.int .i64 0] H v1 v1).bind fun r2=>J E 254 3 [x0,r2.1,(D.int .i64 0)] r2.2:=
 (ent_seg E 254 [3] 400 [x0] H).trans (by kernel_rfl)
theorem j254_3 (x0 x3 x4:D) (H:Heap) :
  J E 254 3 [x0,x3,x4] H =
  (lnL x0).bind fun v3=>(bI .lss x4 v3).bind fun v4=>asB v4 fun t=>bif t then ((ia 2 H x0 x4).bind fun v5=>(ld true 2 H v5).bind fun v6=>(callFn E (exec E) .pure 261 [v6] H).bind fun r7=>(ia 2 r7.2 x3 x4).bind fun v8=>(st 2 r7.2 v8 r7.1).bind fun H9=>(bI .add x4 (D.int .i64 1)).bind fun v10=>J E 254 3 [x0,x3,v10] H9) else (ret_ H [some x3]):=
 (J_seg E 254 3 [3] 400 [x0,x3,x4] H).trans (by kernel_rfl)
theorem e255 (x0 x1:D) (H:Heap) :
  ent E 255 [x0,x1] H =
  (callFn E (exec E) .pure 262 [x0,x1] H).bind fun r1=>(unOp .not r1.1).bind fun v2=>asB v2 fun t=>bif t then (ret_ r1.2 [some x0,some (D.bool false)]) else ((lnS x0).bind fun v3=>(lnS x1).bind fun v4=>(bI .sub v3 v4).bind fun v5=>(slS x0 none (some v5) none).bind fun v6=>ret_ r1.2 [some v6,some (D.bool true)]):=
 (ent_seg E 255 [] 400 [x0,x1] H).trans (by kernel_rfl)
theorem e256 (x0 x1:D) (H:Heap) :
  ent E 256 [x0,x1] H =
  (lnS x1).bind fun v1=>(bI .eql v1 (D.int .i64 0)).bind fun v2=>asB v2 fun t=>bif t then (ret_ H [some (D.int .i64 0)]) else ((bS .eql x1 x0).bind fun v3=>asB v3 fun t=>bif t then (ret_ H [some (D.int .i64 0)]) else ((bI .eql v1 (D.int .i64 1)).bind fun v4=>asB v4 fun t=>bif t then ((ix x1 (D.int .i64 0)).bind fun v5=>(callFn E (exec E) .pure 246 [x0,v5] H).bind fun r6=>ret_ r6.2 [some r6.1]) else ((lnS x0).bind fun v7=>(bI .geq v1 v7).bind fun v8=>asB v8 fun t=>bif t then (ret_ H [some (D.int .i64 (-1))]) else ((ld false 1 H D.undef).bind fun v9=>(bI .leq v1 v9).bind fun v10=>asB v10 fun t=>bif t then ((lnS x0).bind fun v11=>(bI .leq v11 (D.int .i64 64)).bind fun v12=>asB v12 fun t=>bif t then ((callFn E (exec E) .ext 263 [x0,x1] H).bind fun r13=>ret_ r13.2 [some r13.1]) else ((ix x1 (D.int .i64 0)).bind fun v14=>(ix x1 (D.int .i64 1)).bind fun v15=>(lnS x0).bind fun v16=>(bI .sub v16 v1).bind fun v17=>(bI .add v17 (D.int .i64 1)).bind fun v18=>J E 256 15 [x0,x1,v1,v14,v15,(D.int .i64 0),v18,(D.int .i64 0)] H)) else ((ix x1 (D.int .i64 0)).bind fun v19=>(ix x1 (D.int .i64 1)).bind fun v20=>(lnS x0).bind fun v21=>(bI .sub v21 v1).bind fun v22=>(bI .add v22 (D.int .i64 1)).bind fun v23=>J E 256 15 [x0,x1,v1,v19,v20,(D.int .i64 0),v23,(D.int .i64 0)] H))))):=
 (ent_seg E 256 [15,21] 400 [x0,x1] H).trans (by kernel_rfl)
theorem j256_15 (x0 x1 x5 x6 x7 x8 x9 x10:D) (H:Heap) :
  J E 256 15 [x0,x1,x5,x6,x7,x8,x9,x10] H =
  (bI .lss x8 x9).bind fun v24=>asB v24 fun t=>bif t then ((ix x0 x8).bind fun v25=>(bI .neq v25 x6).bind fun v26=>asB v26 fun t=>bif t then ((bI .add x8 (D.int .i64 1)).bind fun v27=>(slS x0 (some v27) (some x9) none).bind fun v28=>(callFn E (exec E) .pure 246 [v28,x6] H).bind fun r29=>(bI .lss r29.1 (D.int .i64 0)).bind fun v30=>asB v30 fun t=>bif t then (ret_ r29.2 [some (D.int .i64 (-1))]) else ((bI .add r29.1 (D.int .i64 1)).bind fun v31=>(bI .add x8 v31).bind fun v32=>J E 256 21 [x0,x1,x5,x6,x7,v32,x9,x10] r29.2)) else (J E 256 21 [x0,x1,x5,x6,x7,x8,x9,x10] H)) else (ret_ H [some (D.int .i64 (-1))]):=
 (J_seg E 256 15 [15,21] 400 [x0,x1,x5,x6,x7,x8,x9,x10] H).trans (by kernel_rfl)
theorem j256_21 (x0 x1 x5 x6 x7 x8 x9 x10:D) (H:Heap) :
  J E 256 21 [x0,x1,x5,x6,x7,x8,x9,x10] H =
  (bI .add x8 (D.int .i64 1)).bind fun v33=>(ix x0 v33).bind fun v34=>(bI .eql v34 x7).bind fun v35=>asB v35 fun t=>bif t then ((bI .add x8 x5).bind fun v36=>(slS x0 (some x8) (some v36) none).bind fun v37=>(bS .eql v37 x1).bind fun v38=>asB v38 fun t=>bif t then (ret_ H [some x8]) else ((bI .add x8 (D.int .i64 1)).bind fun v39=>(bI .add x10 (D.int .i64 1)).bind fun v40=>(ld false 1 H D.undef).bind fun v41=>(bI .leq x5 v41).bind fun v42=>asB v42 fun t=>bif t then ((callFn E (exec E) .pure 264 [v39] H).bind fun r43=>(bI .gtr v40 r43.1).bind fun v44=>asB v44 fun t=>bif t then ((slS x0 (some v39) none none).bind fun v45=>(callFn E (exec E) .ext 263 [v45,x1] r43.2).bind fun r46=>(bI .geq r46.1 (D.int .i64 0)).bind fun v47=>asB v47 fun t=>bif t then ((bI .add r46.1 v39).bind fun v48=>ret_ r46.2 [some v48]) else (ret_ r46.2 [some (D.int .i64 (-1))])) else ((ld false 1 r43.2 D.undef).bind fun v49=>(bI .gtr x5 v49).bind fun v50=>asB v50 fun t=>bif t then ((bI .shr v39 (D.int .u64 4)).bind fun v51=>(bI .add (D.int .i64 4) v51).bind fun v52=>(bI .geq v40 v52).bind fun v53=>asB v53 fun t=>bif t then ((bI .lss v39 x9).bind fun v54=>asB v54 fun t=>bif t then ((slS x0 (some v39) none none).bind fun v55=>(callFn E (exec E) .pure 265 [v55,x1] r43.2).bind fun r56=>(bI .lss r56.1 (D.int .i64 0)).bind fun v57=>asB v57 fun t=>bif t then (ret_ r56.2 [some (D.int .i64 (-1))]) else ((bI .add v39 r56.1).bind fun v58=>ret_ r56.2 [some v58])) else (J E 256 15 [x0,x1,x5,x6,x7,v39,x9,v40] r43.2)) else (J E 256 15 [x0,x1,x5,x6,x7,v39,x9,v40] r43.2)) else (J E 256 15 [x0,x1,x5,x6,x7,v39,x9,v40] r43.2))) else ((ld false 1 H D.undef).bind fun v59=>(bI .gtr x5 v59).bind fun v60=>asB v60 fun t=>bif t then ((bI .shr v39 (D.int .u64 4)).bind fun v61=>(bI .add (D.int .i64 4) v61).bind fun v62=>(bI .geq v40 v62).bind fun v63=>asB v63 fun t=>bif t then ((bI .lss v39 x9).bind fun v64=>asB v64 fun t=>bif t then ((slS x0 (some v39) none none).bind fun v65=>(callFn E (exec E) .pure 265 [v65,x1] H).bind fun r66=>(bI .lss r66.1 (D.int .i64 0)).bind fun v67=>asB v67 fun t=>bif t then (ret_ r66.2 [some (D.int .i64 (-1))]) else ((bI .add v39 r66.1).bind fun v68=>ret_ r66.2 [some v68])) else (J E 256 15 [x0,x1,x5,x6,x7,v39,x9,v40] H)) else (J E 256 15 [x0,x1,x5,x6,x7,v39,x9,v40] H)) else (J E 256 15 [x0,x1,x5,x6,x7,v39,x9,v40] H)))) else ((bI .add x8 (D.int .i64 1)).bind fun v69=>(bI .add x10 (D.int .i64 1)).bind fun v70=>(ld false 1 H D.undef).bind fun v71=>(bI .leq x5 v71).bind fun v72=>asB v72 fun t=>bif t then ((callFn E (exec E) .pure 264 [v69] H).bind fun r73=>(bI .gtr v70 r73.1).bind fun v74=>asB v74 fun t=>bif t then ((slS x0 (some v69) none none).bind fun v75=>(callFn E (exec E) .ext 263 [v75,x1] r73.2).bind fun r76=>(bI .geq r76.1 (D.int .i64 0)).bind fun v77=>asB v77 fun t=>bif t then ((bI .add r76.1 v69).bind fun v78=>ret_ r76.2 [some v78]) else (ret_ r76.2 [some (D.int .i64 (-1))])) else ((ld false 1 r73.2 D.undef).bind fun v79=>(bI .gtr x5 v79).bind fun v80=>asB v80 fun t=>bif t then ((bI .shr v69 (D.int .u64 4)).bind fun v81=>(bI .add (D.int .i64 4) v81).bind fun v82=>(bI .geq v70 v82).bind fun v83=>asB v83 fun t=>bif t then ((bI .lss v69 x9).bind fun v84=>asB v84 fun t=>bif t then ((slS x0 (some v69) none none).bind fun v85=>(callFn E (exec E) .pure 265 [v85,x1] r73.2).bind fun r86=>(bI .lss r86.1 (D.int .i64 0)).bind fun v87=>asB v87 fun t=>bif t then (ret_ r86.2 [some (D.int .i64 (-1))]) else ((bI .add v69 r86.1).bind fun v88=>ret_ r86.2 [some v88])) else (J E 256 15 [x0,x1,x5,x6,x7,v69,x9,v70] r73.2)) else (J E 256 15 [x0,x1,x5,x6,x7,v69,x9,v70] r73.2)) else (J E 256 15 [x0,x1,x5,x6,x7,v69,x9,v70] r73.2))) else ((ld false 1 H D.undef).bind fun v89=>(bI .gtr x5 v89).bind fun v90=>asB v90 fun t=>bif t then ((bI .shr v69 (D.int .u64 4)).bind fun v91=>(bI .add (D.int .i64 4) v91).bind fun v92=>(bI .geq v70 v92).bind fun v93=>asB v93 fun t=>bif t then ((bI .lss v69 x9).bind fun v94=>asB v94 fun t=>bif t then ((slS x0 (some v69) none none).bind fun v95=>(callFn E (exec E) .pure 265 [v95,x1] H).bind fun r96=>(bI .lss r96.1 (D.int .i64 0)).bind fun v97=>asB v97 fun t=>bif t then (ret_ r96.2 [some (D.int .i64 (-1))]) else ((bI .add v69 r96.1).bind fun v98=>ret_ r96.2 [some v98])) else (J E 256 15 [x0,x1,x5,x6,x7,v69,x9,v70] H)) else (J E 256 15 [x0,x1,x5,x6,x7,v69,x9,v70] H)) else (J E 256 15 [x0,x1,x5,x6,x7,v69,x9,v70] H))):=
 (J_seg E 256 21 [15,21] 400 [x0,x1,x5,x6,x7,x8,x9,x10] H).trans (by kernel_rfl)
theorem e257 (x0 x1:D) (H:Heap) :
  ent E 257 [x0,x1] H =
  (lnS x0).bind fun v1=>(lnS x1).bind fun v2=>(bI .geq v1 v2).bind fun v3=>asB v3 fun t=>bif t then ((lnS x1).bind fun v4=>(slS x0 none (some v4) none).bind fun v5=>(bS .eql v5 x1).bind fun v6=>ret_ H [some v6]) else (ret_ H [some (D.bool false)]):=
 (ent_seg E 257 [] 400 [x0,x1] H).trans (by kernel_rfl)
theorem e259 (x0 x1:D) (H:Heap) :
  ent E 259 [x0,x1] H =
  (lnL x0).bind fun v1=>(lnL x1).bind fun v2=>(bI .neq v1 v2).bind fun v3=>asB v3 fun t=>bif t then (ret_ H [some (D.bool false)]) else (J E 259 4 [x0,x1,(D.int .i64 0)] H):=
 (ent_seg E 259 [4] 400 [x0,x1] H).trans (by kernel_rfl)
theorem j259_4 (x0 x1 x5:D) (H:Heap) :
  J E 259 4 [x0,x1,x5] H =
  (lnL x0).bind fun v4=>(bI .lss x5 v4).bind fun v5=>asB v5 fun t=>bif t then ((ia 2 H x0 x5).bind fun v6=>(ld true 2 H v6).bind fun v7=>(ia 2 H x1 x5).bind fun v8=>(ld true 2 H v8).bind fun v9=>(callFn E (exec E) .pure 266 [v7,v9] H).bind fun r10=>(unOp .not r10.1).bind fun v11=>asB v11 fun t=>bif t then (ret_ r10.2 [some (D.bool false)]) else ((bI .add x5 (D.int .i64 1)).bind fun v12=>J E 259 4 [x0,x1,v12] r10.2)) else (ret_ H [some (D.bool true)]):=
 (J_seg E 259 4 [4] 400 [x0,x1,x5] H).trans (by kernel_rfl)
theorem e260 (x0:D) (H:Heap) :
  ent E 260 [x0] H =
  (bsl 2 [.int .i64 0,.int .i64 0] H 0 []).bind fun r1=>(callFn E (exec E) .raw 222 [x0] r1.2).bind fun r2=>(bI .gtr r2.1 (D.int .i64 8)).bind fun v3=>asB v3 fun t=>bif t then ((nilCheck x0).bind fun v4=>(fa 2 v4).bind fun v5=>(st 1 r2.2 v5 (D.bool true)).bind fun H6=>J E 260 5 [x0,r1.1,r2.1] H6) else (J E 260 5 [x0,r1.1,r2.1] r2.2):=
 (ent_seg E 260 [5,6,11,13] 400 [x0] H).trans (by kernel_rfl)
theorem j260_5 (x0 x3 x4:D) (H:Heap) :
  J E 260 5 [x0,x3,x4] H =
  J E 260 6 [x0,x3,x4,(D.int .i64 0)] H:=
 (J_seg E 260 5 [5,6,11,13] 400 [x0,x3,x4] H).trans (by kernel_rfl)
theorem j260_6 (x0 x3 x4 x5:D) (H:Heap) :
  J E 260 6 [x0,x3,x4,x5] H =
  (bI .lss x5 x4).bind fun v7=>asB v7 fun t=>bif t then ((nilCheck x0).bind fun v8=>(fa 2 v8).bind fun v9=>(ld false 1 H v9).bind fun v10=>(unOp .not v10).bind fun v11=>asB v11 fun t=>bif t then ((callFn E (exec E) .raw 222 [x0] H).bind fun r12=>(bld [.int .i64 0,.int .i64 0] [(0,1,false),(1,1,false)] [(0,r12.1)]).bind fun v13=>alloc_ r12.2 [.int .i64 0,.int .i64 0] fun p14 H14=>(st 2 H14 p14 v13).bind fun H15=>(fa 0 p14).bind fun v16=>(ld false 1 H15 v16).bind fun v17=>(bI .eql v17 (D.int .i64 3)).bind fun v18=>asB v18 fun t=>bif t then ((callFn E (exec E) .raw 223 [x0] H15).bind fun r19=>(fa 1 p14).bind fun v20=>(st 1 r19.2 v20 r19.1).bind fun H21=>J E 260 11 [x0,x3,x4,x5,p14] H21) else (J E 260 11 [x0,x3,x4,x5,p14] H15)) else (ret_ H [some x3])) else (ret_ H [some x3]):=
 (J_seg E 260 6 [5,6,11,13] 400 [x0,x3,x4,x5] H).trans (by kernel_rfl)
theorem j260_11 (x0 x3 x4 x5 x6:D) (H:Heap) :
  J E 260 11 [x0,x3,x4,x5,x6] H =
  (fa 0 x6).bind fun v22=>(ld false 1 H v22).bind fun v23=>(bI .gtr v23 (D.int .i64 3)).bind fun v24=>asB v24 fun t=>bif t then ((nilCheck x0).bind fun v25=>(fa 2 v25).bind fun v26=>(st 1 H v26 (D.bool true)).bind fun H27=>J E 260 13 [x0,x3,x4,x5,x6] H27) else (J E 260 13 [x0,x3,x4,x5,x6] H):=
 (J_seg E 260 11 [5,6,11,13] 400 [x0,x3,x4,x5,x6] H).trans (by kernel_rfl)
theorem j260_13 (x0 x3 x4 x5 x6:D) (H:Heap) :
  J E 260 13 [x0,x3,x4,x5,x6] H =
  (ld true 2 H x6).bind fun v28=>(bsl 2 [.int .i64 0,.int .i64 0] H 1 [(0,v28)]).bind fun r29=>(app 2 16 r29.2 x3 r29.1).bind fun r30=>(bI .add x5 (D.int .i64 1)).bind fun v31=>J E 260 6 [x0,r30.1,x4,v31] r30.2:=
 (J_seg E 260 13 [5,6,11,13] 400 [x0,x3,x4,x5,x6] H).trans (by kernel_rfl)
theorem e261 (x0:D) (H:Heap) :
  ent E 261 [x0] H =
  alloc_ H (D.cells x0) fun p1 H1=>alloc_ H1 [.int .i64 0,.int .i64 0] fun p2 H2=>alloc_ H2 [.int .i64 0,.int .i64 0] fun p3 H3=>(fa 0 p1).bind fun v4=>(ld false 1 H3 v4).bind fun v5=>(fa 0 p3).bind fun v6=>(st 1 H3 v6 v5).bind fun H7=>(fa 1 p1).bind fun v8=>(ld false 1 H7 v8).bind fun v9=>(fa 1 p3).bind fun v10=>(st 1 H7 v10 v9).bind fun H11=>(ld true 2 H11 p3).bind fun v12=>(st 2 H11 p2 v12).bind fun H13=>ret_ H13 [ld true 2 H13 p2]:=
 (ent_seg E 261 [] 400 [x0] H).trans (by kernel_rfl)
theorem e262 (x0 x1:D) (H:Heap) :
  ent E 262 [x0,x1] H =
  (lnS x0).bind fun v1=>(lnS x1).bind fun v2=>(bI .geq v1 v2).bind fun v3=>asB v3 fun t=>bif t then ((lnS x0).bind fun v4=>(lnS x1).bind fun v5=>(bI .sub v4 v5).bind fun v6=>(slS x0 (some v6) none none).bind fun v7=>(bS .eql v7 x1).bind fun v8=>ret_ H [some v8]) else (ret_ H [some (D.bool false)]):=
 (ent_seg E 262 [] 400 [x0,x1] H).trans (by kernel_rfl)
theorem e264 (x0:D) (H:Heap) :
  ent E 264 [x0] H =
  (bI .add x0 (D.int .i64 16)).bind fun v1=>(bI .quo v1 (D.int .i64 8)).bind fun v2=>ret_ H [some v2]:=
 (ent_seg E 264 [] 400 [x0] H).trans (by kernel_rfl)
theorem e265 (x0 x1:D) (H:Heap) :
  ent E 265 [x0,x1] H =
  (callFn E (exec E) .pure 267 [x1] H).bind fun r1=>(extract r1.1 0).bind fun v2=>(extract r1.1 1).bind fun v3=>(lnS x1).bind fun v4=>J E 265 5 [x0,x1,v2,v3,v4,(D.int .u32 0),(D.int .i64 0)] r1.2:=
 (ent_seg E 265 [5,11] 400 [x0,x1] H).trans (by kernel_rfl)
theorem j265_5 (x0 x1 x5 x6 x7 x8 x9:D) (H:Heap) :
  J E 265 5 [x0,x1,x5,x6,x7,x8,x9] H =
  (bI .lss x9 x7).bind fun v5=>asB v5 fun t=>bif t then ((bI .mul x8 (D.int .u32 16777619)).bind fun v6=>(ix x0 x9).bind fun v7=>(cI .u32 v7).bind fun v8=>(bI .add v6 v8).bind fun v9=>(bI .add x9 (D.int .i64 1)).bind fun v10=>J E 265 5 [x0,x1,x5,x6,x7,v9,v10] H) else ((bI .eql x8 x5).bind fun v11=>asB v11 fun t=>bif t then ((slS x0 none (some x7) none).bind fun v12=>(bS .eql v12 x1).bind fun v13=>asB v13 fun t=>bif t then (ret_ H [some (D.int .i64 0)]) else (J E 265 11 [x0,x1,x5,x6,x7,x8,x7] H)) else (J E 265 11 [x0,x1,x5,x6,x7,x8,x7] H)):=
 (J_seg E 265 5 [5,11] 400 [x0,x1,x5,x6,x7,x8,x9] H).trans (by kernel_rfl)
theorem j265_11 (x0 x1 x5 x6 x7 x8 x10:D) (H:Heap) :
  J E 265 11 [x0,x1,x5,x6,x7,x8,x10] H =
  (lnS x0).bind fun v14=>(bI .lss x10 v14).bind fun v15=>asB v15 fun t=>bif t then ((bI .mul x8 (D.int .u32 16777619)).bind fun v16=>(ix x0 x10).bind fun v17=>(cI .u32 v17).bind fun v18=>(bI .add v16 v18).bind fun v19=>(bI .sub x10 x7).bind fun v20=>(ix x0 v20).bind fun v21=>(cI .u32 v21).bind fun v22=>(bI .mul x6 v22).bind fun v23=>(bI .sub v19 v23).bind fun v24=>(bI .add x10 (D.int .i64 1)).bind fun v25=>(bI .eql v24 x5).bind fun v26=>asB v26 fun t=>bif t then ((bI .sub v25 x7).bind fun v27=>(slS x0 (some v27) (some v25) none).bind fun v28=>(bS .eql v28 x1).bind fun v29=>asB v29 fun t=>bif t then ((bI .sub v25 x7).bind fun v30=>ret_ H [some v30]) else (J E 265 11 [x0,x1,x5,x6,x7,v24,v25] H)) else (J E 265 11 [x0,x1,x5,x6,x7,v24,v25] H)) else (ret_ H [some (D.int .i64 (-1))]):=
 (J_seg E 265 11 [5,11] 400 [x0,x1,x5,x6,x7,x8,x10] H).trans (by kernel_rfl)
theorem e266 (x0 x1:D) (H:Heap) :
  ent E 266 [x0,x1] H =
  alloc_ H (D.cells x0) fun p1 H1=>alloc_ H1 (D.cells x1) fun p2 H2=>(fa 0 p1).bind fun v3=>(ld false 1 H2 v3).bind fun v4=>(fa 0 p2).bind fun v5=>(ld false 1 H2 v5).bind fun v6=>(bI .neq v4 v6).bind fun v7=>asB v7 fun t=>bif t then (ret_ H2 [some (D.bool false)]) else ((fa 1 p1).bind fun v8=>(ld false 1 H2 v8).bind fun v9=>(fa 1 p2).bind fun v10=>(ld false 1 H2 v10).bind fun v11=>(bI .neq v9 v11).bind fun v12=>asB v12 fun t=>bif t then (ret_ H2 [some (D.bool false)]) else (ret_ H2 [some (D.bool true)])):=
 (ent_seg E 266 [] 400 [x0,x1] H).trans (by kernel_rfl)
theorem e267 (x0:D) (H:Heap) :
  ent E 267 [x0] H =
  J E 267 3 [x0,(D.int .u32 0),(D.int .i64 0)] H:=
 (ent_seg E 267 [3,8,12] 400 [x0] H).trans (by kernel_rfl)
theorem j267_3 (x0 x4 x5:D) (H:Heap) :
  J E 267 3 [x0,x4,x5] H =
  (lnS x0).bind fun v1=>(bI .lss x5 v1).bind fun v2=>asB v2 fun t=>bif t then ((bI .mul x4 (D.int .u32 16777619)).bind fun v3=>(ix x0 x5).bind fun v4=>(cI .u32 v4).bind fun v5=>(bI .add v3 v5).bind fun v6=>(bI .add x5 (D.int .i64 1)).bind fun v7=>J E 267 3 [x0,v6,v7] H) else ((lnS x0).bind fun v8=>J E 267 8 [x4,(D.int .u32 1),(D.int .u32 16777619),v8] H):=
 (J_seg E 267 3 [3,8,12] 400 [x0,x4,x5] H).trans (by kernel_rfl)
theorem j267_8 (x4 x6 x7 x8:D) (H:Heap) :
  J E 267 8 [x4,x6,x7,x8] H =
  (bI .gtr x8 (D.int .i64 0)).bind fun v9=>asB v9 fun t=>bif t then ((bI .and x8 (D.int .i64 1)).bind fun v10=>(bI .neq v10 (D.int .i64 0)).bind fun v11=>asB v11 fun t=>bif t then ((bI .mul x6 x7).bind fun v12=>J E 267 12 [x4,v12,x7,x8] H) else (J E 267 12 [x4,x6,x7,x8] H)) else (ret_ H [some x4,some x6]):=
 (J_seg E 267 8 [3,8,12] 400 [x4,x6,x7,x8] H).trans (by kernel_rfl)
theorem j267_12 (x4 x6 x7 x8:D) (H:Heap) :
  J E 267 12 [x4,x6,x7,x8] H =
  (bI .mul x7 x7).bind fun v13=>(bI .shr x8 (D.int .u64 1)).bind fun v14=>J E 267 8 [x4,x6,v13,v14] H:=
 (J_seg E 267 12 [3,8,12] 400 [x4,x6,x7,x8] H).trans (by kernel_rfl)
end Go.Ev.YtmljkoieihaomaaGreat
