import Derived.Test.YtmljkoieihaomaaGreatEn
namespace Go.Ev.YtmljkoieihaomaaGreat
set_option maxRecDepth 100000
set_option linter.unusedVariables false
theorem e3 (x0:D) (H:Heap) :
  ent E 3 [x0] H =
  (callFn E (exec E) .pure 5 [x0,(D.int .i64 1048576)] H).bind fun r1=>(bI .lss r1.1 (D.int .i64 0)).bind fun v2=>asB v2 fun t=>bif t then (ret_ r1.2 [some (D.bool true)]) else ((callFn E (exec E) .own 7 [x0] r1.2).bind fun r3=>(callFn E (exec E) .view 6 [r3.1] r3.2).bind fun r4=>alloc_ r4.2 [.sl0,.sl0,.sl0,.sl0] fun p5 H5=>(st 4 H5 p5 r4.1).bind fun H6=>(callFn E (exec E) .own 7 [x0] H6).bind fun r7=>(callFn E (exec E) .own 8 [r7.1] r7.2).bind fun r8=>alloc_ r8.2 [.sl0,.sl0,.sl0,.sl0] fun p9 H9=>(st 4 H9 p9 r8.1).bind fun H10=>(ld true 4 H10 p9).bind fun v11=>(ld true 4 H10 p5).bind fun v12=>(callFn E (exec E) .pure 9 [v11,v12] H10).bind fun r13=>(unOp .not r13.1).bind fun v14=>asB v14 fun t=>bif t then (ret_ r13.2 [some (D.bool false)]) else ((callFn E (exec E) .own 7 [x0] r13.2).bind fun r15=>(callFn E (exec E) .pure 10 [r7.1,r15.1] r15.2).bind fun r16=>(unOp .not r16.1).bind fun v17=>asB v17 fun t=>bif t then (ret_ r16.2 [some (D.bool false)]) else ((callFn E (exec E) .raw 11 [r7.1,(D.int .i64 1)] r16.2).bind fun r18=>(bI .lss r18.1 (D.int .i64 0)).bind fun v19=>asB v19 fun t=>bif t then (ret_ r18.2 [some (D.bool false)]) else ((ld true 4 r18.2 p9).bind fun v20=>(ld true 4 r18.2 p5).bind fun v21=>(callFn E (exec E) .pure 9 [v20,v21] r18.2).bind fun r22=>(unOp .not r22.1).bind fun v23=>asB v23 fun t=>bif t then (ret_ r22.2 [some (D.bool false)]) else ((ld true 4 r22.2 p9).bind fun v24=>(callFn E (exec E) .raw 12 [v24,(D.int .i64 1)] r22.2).bind fun r25=>(ld true 4 r25.2 p9).bind fun v26=>(callFn E (exec E) .pure 13 [v26,(D.int .i64 1)] r25.2).bind fun r27=>(bI .lss r27.1 (D.int .i64 0)).bind fun v28=>asB v28 fun t=>bif t then (ret_ r27.2 [some (D.bool false)]) else ((bI .neq r27.1 r25.1).bind fun v29=>asB v29 fun t=>bif t then (ret_ r27.2 [some (D.bool false)]) else ((callFn E (exec E) .own 7 [x0] r27.2).bind fun r30=>(callFn E (exec E) .own 8 [r30.1] r30.2).bind fun r31=>alloc_ r31.2 [.sl0,.sl0,.sl0,.sl0] fun p32 H32=>(st 4 H32 p32 r31.1).bind fun H33=>(ld true 4 H33 p32).bind fun v34=>(ld true 4 H33 p5).bind fun v35=>(callFn E (exec E) .pure 9 [v34,v35] H33).bind fun r36=>(unOp .not r36.1).bind fun v37=>asB v37 fun t=>bif t then (ret_ r36.2 [some (D.bool false)]) else ((ld true 4 r36.2 p9).bind fun v38=>(callFn E (exec E) .pure 13 [v38,(D.int .i64 1)] r36.2).bind fun r39=>(bI .lss r39.1 (D.int .i64 0)).bind fun v40=>asB v40 fun t=>bif t then (ret_ r39.2 [some (D.bool false)]) else ((bI .neq r39.1 r25.1).bind fun v41=>asB v41 fun t=>bif t then (ret_ r39.2 [some (D.bool false)]) else (ret_ r39.2 [some (D.bool true)])))))))))):=
 (ent_seg E 3 [] 400 [x0] H).trans (by kernel_rfl)
theorem e5 (x0 x1:D) (H:Heap) :
  ent E 5 [x0,x1] H =
  (lnL x0).bind fun v1=>(bI .sub x1 v1).bind fun v2=>(bI .lss v2 (D.int .i64 0)).bind fun v3=>asB v3 fun t=>bif t then (ret_ H [some (D.int .i64 (-1))]) else (J E 5 5 [x0,v2,(D.int .i64 0)] H):=
 (ent_seg E 5 [5] 400 [x0,x1] H).trans (by kernel_rfl)
theorem j5_5 (x0 x1 x5:D) (H:Heap) :
  J E 5 5 [x0,x1,x5] H =
  (lnL x0).bind fun v4=>(bI .lss x5 v4).bind fun v5=>asB v5 fun t=>bif t then ((ia 3 H x0 x5).bind fun v6=>(ld true 3 H v6).bind fun v7=>(callFn E (exec E) .pure 19 [v7,x1] H).bind fun r8=>(bI .lss r8.1 (D.int .i64 0)).bind fun v9=>asB v9 fun t=>bif t then (ret_ r8.2 [some (D.int .i64 (-1))]) else ((bI .add x5 (D.int .i64 1)).bind fun v10=>J E 5 5 [x0,r8.1,v10] r8.2)) else (ret_ H [some x1]):=
 (J_seg E 5 5 [5] 400 [x0,x1,x5] H).trans (by kernel_rfl)
theorem e6 (x0:D) (H:Heap) :
  ent E 6 [x0] H =
  alloc_ H [.sl0,.sl0,.sl0,.sl0] fun p1 H1=>(callFn E (exec E) .pure 20 [x0] H1).bind fun r2=>(unOp .not r2.1).bind fun v3=>asB v3 fun t=>bif t then ((bld [.sl0,.sl0,.sl0,.sl0] [(0,1,false),(1,1,false),(2,1,false),(3,1,false)] []).bind fun v4=>(st 4 r2.2 p1 v4).bind fun H5=>ret_ H5 [ld true 4 H5 p1]) else ((callFn E (exec E) .view 21 [x0] r2.2).bind fun r6=>(st 4 r6.2 p1 r6.1).bind fun H7=>ret_ H7 [ld true 4 H7 p1]):=
 (ent_seg E 6 [] 400 [x0] H).trans (by kernel_rfl)
theorem e7 (x0:D) (H:Heap) :
  ent E 7 [x0] H =
  (lnL x0).bind fun v1=>(mks 56 [.sl0,.sl0,.int .i64 0] H v1 v1).bind fun r2=>J E 7 3 [x0,r2.1,(D.int .i64 0)] r2.2:=
 (ent_seg E 7 [3] 400 [x0] H).trans (by kernel_rfl)
theorem j7_3 (x0 x3 x4:D) (H:Heap) :
  J E 7 3 [x0,x3,x4] H =
  (lnL x0).bind fun v3=>(bI .lss x4 v3).bind fun v4=>asB v4 fun t=>bif t then ((ia 3 H x0 x4).bind fun v5=>(ld true 3 H v5).bind fun v6=>(callFn E (exec E) .own 22 [v6] H).bind fun r7=>(ia 3 r7.2 x3 x4).bind fun v8=>(st 3 r7.2 v8 r7.1).bind fun H9=>(bI .add x4 (D.int .i64 1)).bind fun v10=>J E 7 3 [x0,x3,v10] H9) else (ret_ H [some x3]):=
 (J_seg E 7 3 [3] 400 [x0,x3,x4] H).trans (by kernel_rfl)
theorem e8 (x0:D) (H:Heap) :
  ent E 8 [x0] H =
  alloc_ H [.sl0,.sl0,.sl0,.sl0] fun p1 H1=>(callFn E (exec E) .pure 23 [x0] H1).bind fun r2=>(unOp .not r2.1).bind fun v3=>asB v3 fun t=>bif t then ((bld [.sl0,.sl0,.sl0,.sl0] [(0,1,false),(1,1,false),(2,1,false),(3,1,false)] []).bind fun v4=>(st 4 r2.2 p1 v4).bind fun H5=>ret_ H5 [ld true 4 H5 p1]) else ((callFn E (exec E) .own 24 [x0] r2.2).bind fun r6=>(callFn E (exec E) .own 25 [] r6.2).bind fun r7=>(bld [.sl0,.sl0,.sl0,.sl0] [(0,1,false),(1,1,false),(2,1,false),(3,1,false)] [(0,r6.1),(1,r7.1)]).bind fun v8=>(st 4 r7.2 p1 v8).bind fun H9=>ret_ H9 [ld true 4 H9 p1]):=
 (ent_seg E 8 [] 400 [x0] H).trans (by kernel_rfl)
theorem e9 (x0 x1:D) (H:Heap) :
  ent E 9 [x0,x1] H =
  alloc_ H (D.cells x0) fun p1 H1=>alloc_ H1 (D.cells x1) fun p2 H2=>(fa 0 p1).bind fun v3=>(ld false 1 H2 v3).bind fun v4=>(fa 0 p2).bind fun v5=>(ld false 1 H2 v5).bind fun v6=>(callFn E (exec E) .pure 10 [v4,v6] H2).bind fun r7=>(unOp .not r7.1).bind fun v8=>asB v8 fun t=>bif t then (ret_ r7.2 [some (D.bool false)]) else ((fa 1 p1).bind fun v9=>(ld false 1 r7.2 v9).bind fun v10=>(fa 1 p2).bind fun v11=>(ld false 1 r7.2 v11).bind fun v12=>(callFn E (exec E) .pure 26 [v10,v12] r7.2).bind fun r13=>(unOp .not r13.1).bind fun v14=>asB v14 fun t=>bif t then (ret_ r13.2 [some (D.bool false)]) else ((fa 2 p1).bind fun v15=>(ld false 1 r13.2 v15).bind fun v16=>(fa 2 p2).bind fun v17=>(ld false 1 r13.2 v17).bind fun v18=>(callFn E (exec E) .pure 27 [v16,v18] r13.2).bind fun r19=>(unOp .not r19.1).bind fun v20=>asB v20 fun t=>bif t then (ret_ r19.2 [some (D.bool false)]) else ((fa 3 p1).bind fun v21=>(ld false 1 r19.2 v21).bind fun v22=>(fa 3 p2).bind fun v23=>(ld false 1 r19.2 v23).bind fun v24=>(callFn E (exec E) .pure 28 [v22,v24] r19.2).bind fun r25=>(unOp .not r25.1).bind fun v26=>asB v26 fun t=>bif t then (ret_ r25.2 [some (D.bool false)]) else (ret_ r25.2 [some (D.bool true)])))):=
 (ent_seg E 9 [] 400 [x0,x1] H).trans (by kernel_rfl)
theorem e10 (x0 x1:D) (H:Heap) :
  ent E 10 [x0,x1] H =
  (lnL x0).bind fun v1=>(lnL x1).bind fun v2=>(bI .neq v1 v2).bind fun v3=>asB v3 fun t=>bif t then (ret_ H [some (D.bool false)]) else (J E 10 4 [x0,x1,(D.int .i64 0)] H):=
 (ent_seg E 10 [4] 400 [x0,x1] H).trans (by kernel_rfl)
theorem j10_4 (x0 x1 x5:D) (H:Heap) :
  J E 10 4 [x0,x1,x5] H =
  (lnL x0).bind fun v4=>(bI .lss x5 v4).bind fun v5=>asB v5 fun t=>bif t then ((ia 3 H x0 x5).bind fun v6=>(ld true 3 H v6).bind fun v7=>(ia 3 H x1 x5).bind fun v8=>(ld true 3 H v8).bind fun v9=>(callFn E (exec E) .pure 29 [v7,v9] H).bind fun r10=>(unOp .not r10.1).bind fun v11=>asB v11 fun t=>bif t then (ret_ r10.2 [some (D.bool false)]) else ((bI .add x5 (D.int .i64 1)).bind fun v12=>J E 10 4 [x0,x1,v12] r10.2)) else (ret_ H [some (D.bool true)]):=
 (J_seg E 10 4 [4] 400 [x0,x1,x5] H).trans (by kernel_rfl)
theorem e11 (x0 x1:D) (H:Heap) :
  ent E 11 [x0,x1] H =
  J E 11 2 [x0,x1,(D.int .i64 0)] H:=
 (ent_seg E 11 [2] 400 [x0,x1] H).trans (by kernel_rfl)
theorem j11_2 (x0 x1 x5:D) (H:Heap) :
  J E 11 2 [x0,x1,x5] H =
  (lnL x0).bind fun v1=>(bI .lss x5 v1).bind fun v2=>asB v2 fun t=>bif t then ((ia 3 H x0 x5).bind fun v3=>(fa 0 v3).bind fun v4=>(ld false 1 H v4).bind fun v5=>(callFn E (exec E) .raw 30 [v5,x1] H).bind fun r6=>(ia 3 r6.2 x0 x5).bind fun v7=>(fa 1 v7).bind fun v8=>(ld false 1 r6.2 v8).bind fun v9=>(callFn E (exec E) .raw 31 [v9,r6.1] r6.2).bind fun r10=>(ia 3 r10.2 x0 x5).bind fun v11=>(fa 2 v11).bind fun v12=>(st 1 r10.2 v12 r10.1).bind fun H13=>(bI .add r10.1 (D.int .i64 1)).bind fun v14=>(bI .add x5 (D.int .i64 1)).bind fun v15=>J E 11 2 [x0,v14,v15] H13) else (ret_ H [some x1]):=
 (J_seg E 11 2 [2] 400 [x0,x1,x5] H).trans (by kernel_rfl)
theorem e12 (x0 x1:D) (H:Heap) :
  ent E 12 [x0,x1] H =
  alloc_ H (D.cells x0) fun p1 H1=>(fa 0 p1).bind fun v2=>(ld false 1 H1 v2).bind fun v3=>(callFn E (exec E) .raw 11 [v3,x1] H1).bind fun r4=>(fa 1 p1).bind fun v5=>(ld false 1 r4.2 v5).bind fun v6=>(callFn E (exec E) .raw 32 [v6,r4.1] r4.2).bind fun r7=>(fa 2 p1).bind fun v8=>(ld false 1 r7.2 v8).bind fun v9=>(callFn E (exec E) .raw 33 [v9,r7.1] r7.2).bind fun r10=>(fa 3 p1).bind fun v11=>(ld false 1 r10.2 v11).bind fun v12=>(callFn E (exec E) .raw 34 [v12,r10.1] r10.2).bind fun r13=>ret_ r13.2 [some r13.1]:=
 (ent_seg E 12 [] 400 [x0,x1] H).trans (by kernel_rfl)
theorem e13 (x0 x1:D) (H:Heap) :
  ent E 13 [x0,x1] H =
  alloc_ H (D.cells x0) fun p1 H1=>(fa 0 p1).bind fun v2=>(ld false 1 H1 v2).bind fun v3=>(callFn E (exec E) .pure 35 [v3,x1] H1).bind fun r4=>(bI .lss r4.1 (D.int .i64 0)).bind fun v5=>asB v5 fun t=>bif t then (ret_ r4.2 [some (D.int .i64 (-1))]) else ((fa 1 p1).bind fun v6=>(ld false 1 r4.2 v6).bind fun v7=>(callFn E (exec E) .pure 36 [v7,r4.1] r4.2).bind fun r8=>(bI .lss r8.1 (D.int .i64 0)).bind fun v9=>asB v9 fun t=>bif t then (ret_ r8.2 [some (D.int .i64 (-1))]) else ((fa 2 p1).bind fun v10=>(ld false 1 r8.2 v10).bind fun v11=>(callFn E (exec E) .pure 37 [v11,r8.1] r8.2).bind fun r12=>(bI .lss r12.1 (D.int .i64 0)).bind fun v13=>asB v13 fun t=>bif t then (ret_ r12.2 [some (D.int .i64 (-1))]) else ((fa 3 p1).bind fun v14=>(ld false 1 r12.2 v14).bind fun v15=>(callFn E (exec E) .pure 38 [v15,r12.1] r12.2).bind fun r16=>(bI .lss r16.1 (D.int .i64 0)).bind fun v17=>asB v17 fun t=>bif t then (ret_ r16.2 [some (D.int .i64 (-1))]) else (ret_ r16.2 [some r16.1])))):=
 (ent_seg E 13 [] 400 [x0,x1] H).trans (by kernel_rfl)
theorem e18 (x0 x1:D) (H:Heap) :
  ent E 18 [x0,x1] H =
  alloc_ H (D.cells x0) fun p1 H1=>alloc_ H1 (D.cells x1) fun p2 H2=>(fa 0 p1).bind fun v3=>(ld false 1 H2 v3).bind fun v4=>(fa 0 p2).bind fun v5=>(ld false 1 H2 v5).bind fun v6=>(callFn E (exec E) .pure 56 [v4,v6] H2).bind fun r7=>(unOp .not r7.1).bind fun v8=>asB v8 fun t=>bif t then (ret_ r7.2 [some (D.bool false)]) else ((fa 1 p1).bind fun v9=>(ld false 1 r7.2 v9).bind fun v10=>(fa 1 p2).bind fun v11=>(ld false 1 r7.2 v11).bind fun v12=>(bI .neq v10 v12).bind fun v13=>asB v13 fun t=>bif t then (ret_ r7.2 [some (D.bool false)]) else ((fa 2 p1).bind fun v14=>(ld false 1 r7.2 v14).bind fun v15=>(fa 2 p2).bind fun v16=>(ld false 1 r7.2 v16).bind fun v17=>(bI .neq v15 v17).bind fun v18=>asB v18 fun t=>bif t then (ret_ r7.2 [some (D.bool false)]) else ((fa 3 p1).bind fun v19=>(ld false 1 r7.2 v19).bind fun v20=>(fa 3 p2).bind fun v21=>(ld false 1 r7.2 v21).bind fun v22=>(bI .neq v20 v22).bind fun v23=>asB v23 fun t=>bif t then (ret_ r7.2 [some (D.bool false)]) else ((fa 4 p1).bind fun v24=>(ld false 1 r7.2 v24).bind fun v25=>(fa 4 p2).bind fun v26=>(ld false 1 r7.2 v26).bind fun v27=>(callFn E (exec E) .pure 57 [v25,v27] r7.2).bind fun r28=>(unOp .not r28.1).bind fun v29=>asB v29 fun t=>bif t then (ret_ r28.2 [some (D.bool false)]) else ((fa 5 p1).bind fun v30=>(ld false 1 r28.2 v30).bind fun v31=>(fa 5 p2).bind fun v32=>(ld false 1 r28.2 v32).bind fun v33=>(callFn E (exec E) .pure 58 [v31,v33] r28.2).bind fun r34=>(unOp .not r34.1).bind fun v35=>asB v35 fun t=>bif t then (ret_ r34.2 [some (D.bool false)]) else ((fa 6 p1).bind fun v36=>(ld false 1 r34.2 v36).bind fun v37=>(fa 6 p2).bind fun v38=>(ld false 1 r34.2 v38).bind fun v39=>(callFn E (exec E) .pure 59 [v37,v39] r34.2).bind fun r40=>(unOp .not r40.1).bind fun v41=>asB v41 fun t=>bif t then (ret_ r40.2 [some (D.bool false)]) else (ret_ r40.2 [some (D.bool true)]))))))):=
 (ent_seg E 18 [] 400 [x0,x1] H).trans (by kernel_rfl)
theorem e19 (x0 x1:D) (H:Heap) :
  ent E 19 [x0,x1] H =
  alloc_ H (D.cells x0) fun p1 H1=>(fa 0 p1).bind fun v2=>(ld false 1 H1 v2).bind fun v3=>(callFn E (exec E) .pure 60 [v3,x1] H1).bind fun r4=>(bI .lss r4.1 (D.int .i64 0)).bind fun v5=>asB v5 fun t=>bif t then (ret_ r4.2 [some (D.int .i64 (-1))]) else ((fa 1 p1).bind fun v6=>(ld false 1 r4.2 v6).bind fun v7=>(callFn E (exec E) .pure 61 [v7,r4.1] r4.2).bind fun r8=>(bI .lss r8.1 (D.int .i64 0)).bind fun v9=>asB v9 fun t=>bif t then (ret_ r8.2 [some (D.int .i64 (-1))]) else (ret_ r8.2 [some r8.1])):=
 (ent_seg E 19 [] 400 [x0,x1] H).trans (by kernel_rfl)
theorem e20 (x0:D) (H:Heap) :
  ent E 20 [x0] H =
  J E 20 2 [x0,(D.int .i64 0)] H:=
 (ent_seg E 20 [2] 400 [x0] H).trans (by kernel_rfl)
theorem j20_2 (x0 x3:D) (H:Heap) :
  J E 20 2 [x0,x3] H =
  (lnL x0).bind fun v1=>(bI .lss x3 v1).bind fun v2=>asB v2 fun t=>bif t then ((bld [.sl0,.sl0,.sl0,.sl0] [(0,1,false),(1,1,false),(2,1,false),(3,1,false)] [(0,x0)]).bind fun v3=>(ia 3 H x0 x3).bind fun v4=>(ld true 3 H v4).bind fun v5=>(callFn E (exec E) .pure 62 [v3,v5] H).bind fun r6=>(unOp .not r6.1).bind fun v7=>asB v7 fun t=>bif t then (ret_ r6.2 [some (D.bool false)]) else ((bI .add x3 (D.int .i64 1)).bind fun v8=>J E 20 2 [x0,v8] r6.2)) else ((lnL x0).bind fun v9=>(callFn E (exec E) .pure 63 [v9,(D.int .i64 1),(D.int .i64 3)] H).bind fun r10=>ret_ r10.2 [some r10.1]):=
 (J_seg E 20 2 [2] 400 [x0,x3] H).trans (by kernel_rfl)
theorem e21 (x0:D) (H:Heap) :
  ent E 21 [x0] H =
  alloc_ H [.sl0,.sl0,.sl0,.sl0] fun p1 H1=>(callFn E (exec E) .view 64 [x0] H1).bind fun r2=>(bld [.sl0,.sl0,.sl0,.sl0] [(0,1,false),(1,1,false),(2,1,false),(3,1,false)] [(0,r2.1)]).bind fun v3=>alloc_ r2.2 [.sl0,.sl0,.sl0,.sl0] fun p4 H4=>(st 4 H4 p4 v3).bind fun H5=>(bld [.str [],.int .i64 0,.sl0,.int .i64 0,.int .i64 0,.int .i64 0,.sl0,.sl0,.sl0,.int .i64 0,.sl0,.int .i64 0,.int .i64 0,.sl0,.sl0,.sl0] [(0,1,false),(1,1,false),(2,7,true),(9,1,false),(10,1,false),(11,1,false),(12,1,false),(13,1,false),(14,1,false),(15,1,false)] [(0,(D.str [79,98,106])),(1,(D.int .i64 (-1))),(3,(D.int .i64 (-1))),(5,(D.int .i64 2)),(6,(D.int .i64 2))]).bind fun v6=>alloc_ H5 [.str [],.int .i64 0,.sl0,.int .i64 0,.int .i64 0,.int .i64 0,.sl0,.sl0,.sl0,.int .i64 0,.sl0,.int .i64 0,.int .i64 0,.sl0,.sl0,.sl0] fun p7 H7=>(st 16 H7 p7 v6).bind fun H8=>(bld [.str [],.int .i64 0,.sl0,.int .i64 0,.int .i64 0,.int .i64 0,.sl0,.sl0,.sl0,.int .i64 0,.sl0,.int .i64 0,.int .i64 0,.sl0,.sl0,.sl0] [(0,1,false),(1,1,false),(2,7,true),(9,1,false),(10,1,false),(11,1,false),(12,1,false),(13,1,false),(14,1,false),(15,1,false)] [(0,(D.str [69,114,114])),(1,(D.int .i64 (-1))),(3,(D.int .i64 0)),(5,(D.int .i64 2)),(6,(D.int .i64 2))]).bind fun v9=>alloc_ H8 [.str [],.int .i64 0,.sl0,.int .i64 0,.int .i64 0,.int .i64 0,.sl0,.sl0,.sl0,.int .i64 0,.sl0,.int .i64 0,.int .i64 0,.sl0,.sl0,.sl0] fun p10 H10=>(st 16 H10 p10 v9).bind fun H11=>(ld true 16 H11 p7).bind fun v12=>(ld true 16 H11 p10).bind fun v13=>(bsl 16 [.str [],.int .i64 0,.sl0,.int .i64 0,.int .i64 0,.int .i64 0,.sl0,.sl0,.sl0,.int .i64 0,.sl0,.int .i64 0,.int .i64 0,.sl0,.sl0,.sl0] H11 2 [(0,v12),(1,v13)]).bind fun r14=>(fa 1 p4).bind fun v15=>(st 1 r14.2 v15 r14.1).bind fun H16=>(ld true 4 H16 p4).bind fun v17=>(st 4 H16 p1 v17).bind fun H18=>ret_ H18 [ld true 4 H18 p1]:=
 (ent_seg E 21 [] 400 [x0] H).trans (by kernel_rfl)
theorem e22 (x0:D) (H:Heap) :
  ent E 22 [x0] H =
  alloc_ H (D.cells x0) fun p1 H1=>alloc_ H1 [.sl0,.sl0,.int .i64 0] fun p2 H2=>alloc_ H2 [.sl0,.sl0,.int .i64 0] fun p3 H3=>(fa 0 p1).bind fun v4=>(ld false 1 H3 v4).bind fun v5=>(callFn E (exec E) .own 65 [v5] H3).bind fun r6=>(fa 0 p3).bind fun v7=>(st 1 r6.2 v7 r6.1).bind fun H8=>(fa 1 p1).bind fun v9=>(ld false 1 H8 v9).bind fun v10=>(callFn E (exec E) .own 66 [v10] H8).bind fun r11=>(fa 1 p3).bind fun v12=>(st 1 r11.2 v12 r11.1).bind fun H13=>(fa 2 p1).bind fun v14=>(ld false 1 H13 v14).bind fun v15=>(fa 2 p3).bind fun v16=>(st 1 H13 v16 v15).bind fun H17=>(ld true 3 H17 p3).bind fun v18=>(st 3 H17 p2 v18).bind fun H19=>ret_ H19 [ld true 3 H19 p2]:=
 (ent_seg E 22 [] 400 [x0] H).trans (by kernel_rfl)
theorem e23 (x0:D) (H:Heap) :
  ent E 23 [x0] H =
  alloc_ H (D.cells x0) fun p1 H1=>(ld false 1 H1 p1).bind fun v2=>(lnL v2).bind fun v3=>(callFn E (exec E) .pure 67 [v3,(D.int .i64 1),(D.int .i64 3)] H1).bind fun r4=>asB r4.1 fun t=>bif t then ((ld false 1 r4.2 p1).bind fun v5=>(callFn E (exec E) .raw 68 [v5,(D.fn 69 [p1])] r4.2).bind fun r6=>(unOp .not r6.1).bind fun v7=>ret_ r6.2 [some v7]) else (ret_ r4.2 [some (D.bool false)]):=
 (ent_seg E 23 [] 400 [x0] H).trans (by kernel_rfl)
theorem e24 (x0:D) (H:Heap) :
  ent E 24 [x0] H =
  (callFn E (exec E) .shr 71 [x0] H).bind fun r1=>(lnL r1.1).bind fun v2=>J E 24 3 [r1.1,r1.1,v2,(D.int .i64 0)] r1.2:=
 (ent_seg E 24 [3] 400 [x0] H).trans (by kernel_rfl)
theorem j24_3 (x3 x8 x9 x10:D) (H:Heap) :
  J E 24 3 [x3,x8,x9,x10] H =
  (bI .lss x10 x9).bind fun v3=>asB v3 fun t=>bif t then ((ia 3 H x8 x10).bind fun v4=>(ld true 3 H v4).bind fun v5=>alloc_ H [.sl0,.sl0,.int .i64 0] fun p6 H6=>(st 3 H6 p6 v5).bind fun H7=>(fa 0 p6).bind fun v8=>(ld false 1 H7 v8).bind fun v9=>(callFn E (exec E) .own 72 [v9] H7).bind fun r10=>(fa 1 p6).bind fun v11=>(ld false 1 r10.2 v11).bind fun v12=>(callFn E (exec E) .own 73 [v12] r10.2).bind fun r13=>(ia 3 r13.2 x3 x10).bind fun v14=>(fa 0 v14).bind fun v15=>(st 1 r13.2 v15 r10.1).bind fun H16=>(ia 3 H16 x3 x10).bind fun v17=>(fa 1 v17).bind fun v18=>(st 1 H16 v18 r13.1).bind fun H19=>(bI .add x10 (D.int .i64 1)).bind fun v20=>J E 24 3 [x3,x8,x9,v20] H19) else (ret_ H [some x3]):=
 (J_seg E 24 3 [3] 400 [x3,x8,x9,x10] H).trans (by kernel_rfl)
theorem e25 (H:Heap) :
  ent E 25 [] H =
  (bld [.str [],.int .i64 0,.sl0,.int .i64 0,.int .i64 0,.int .i64 0,.sl0,.sl0,.sl0,.int .i64 0,.sl0,.int .i64 0,.int .i64 0,.sl0,.sl0,.sl0] [(0,1,false),(1,1,false),(2,7,true),(9,1,false),(10,1,false),(11,1,false),(12,1,false),(13,1,false),(14,1,false),(15,1,false)] [(0,(D.str [79,98,106])),(1,(D.int .i64 (-1))),(3,(D.int .i64 (-1))),(5,(D.int .i64 2)),(6,(D.int .i64 2))]).bind fun v1=>(bld [.str [],.int .i64 0,.sl0,.int .i64 0,.int .i64 0,.int .i64 0,.sl0,.sl0,.sl0,.int .i64 0,.sl0,.int .i64 0,.int .i64 0,.sl0,.sl0,.sl0] [(0,1,false),(1,1,false),(2,7,true),(9,1,false),(10,1,false),(11,1,false),(12,1,false),(13,1,false),(14,1,false),(15,1,false)] [(0,(D.str [69,114,114])),(1,(D.int .i64 (-1))),(3,(D.int .i64 0)),(5,(D.int .i64 2)),(6,(D.int .i64 2))]).bind fun v2=>(bsl 16 [.str [],.int .i64 0,.sl0,.int .i64 0,.int .i64 0,.int .i64 0,.sl0,.sl0,.sl0,.int .i64 0,.sl0,.int .i64 0,.int .i64 0,.sl0,.sl0,.sl0] H 2 [(0,v1),(1,v2)]).bind fun r3=>ret_ r3.2 [some r3.1]:=
 (ent_seg E 25 [] 400 [] H).trans (by kernel_rfl)
theorem e26 (x0 x1:D) (H:Heap) :
  ent E 26 [x0,x1] H =
  (lnL x0).bind fun v1=>(lnL x1).bind fun v2=>(bI .neq v1 v2).bind fun v3=>asB v3 fun t=>bif t then (ret_ H [some (D.bool false)]) else (J E 26 4 [x0,x1,(D.int .i64 0)] H):=
 (ent_seg E 26 [4] 400 [x0,x1] H).trans (by kernel_rfl)
theorem j26_4 (x0 x1 x5:D) (H:Heap) :
  J E 26 4 [x0,x1,x5] H =
  (lnL x0).bind fun v4=>(bI .lss x5 v4).bind fun v5=>asB v5 fun t=>bif t then ((ia 16 H x0 x5).bind fun v6=>(ld true 16 H v6).bind fun v7=>(ia 16 H x1 x5).bind fun v8=>(ld true 16 H v8).bind fun v9=>(callFn E (exec E) .pure 74 [v7,v9] H).bind fun r10=>(unOp .not r10.1).bind fun v11=>asB v11 fun t=>bif t then (ret_ r10.2 [some (D.bool false)]) else ((bI .add x5 (D.int .i64 1)).bind fun v12=>J E 26 4 [x0,x1,v12] r10.2)) else (ret_ H [some (D.bool true)]):=
 (J_seg E 26 4 [4] 400 [x0,x1,x5] H).trans (by kernel_rfl)
theorem e27 (x0 x1:D) (H:Heap) :
  ent E 27 [x0,x1] H =
  (lnL x0).bind fun v1=>(lnL x1).bind fun v2=>(bI .neq v1 v2).bind fun v3=>asB v3 fun t=>bif t then (ret_ H [some (D.bool false)]) else (J E 27 4 [x0,x1,(D.int .i64 0)] H):=
 (ent_seg E 27 [4] 400 [x0,x1] H).trans (by kernel_rfl)
theorem j27_4 (x0 x1 x5:D) (H:Heap) :
  J E 27 4 [x0,x1,x5] H =
  (lnL x0).bind fun v4=>(bI .lss x5 v4).bind fun v5=>asB v5 fun t=>bif t then ((ia 3 H x0 x5).bind fun v6=>(ld true 3 H v6).bind fun v7=>(ia 3 H x1 x5).bind fun v8=>(ld true 3 H v8).bind fun v9=>(callFn E (exec E) .pure 75 [v7,v9] H).bind fun r10=>(unOp .not r10.1).bind fun v11=>asB v11 fun t=>bif t then (ret_ r10.2 [some (D.bool false)]) else ((bI .add x5 (D.int .i64 1)).bind fun v12=>J E 27 4 [x0,x1,v12] r10.2)) else (ret_ H [some (D.bool true)]):=
 (J_seg E 27 4 [4] 400 [x0,x1,x5] H).trans (by kernel_rfl)
theorem e28 (x0 x1:D) (H:Heap) :
  ent E 28 [x0,x1] H =
  (lnL x0).bind fun v1=>(lnL x1).bind fun v2=>(bI .neq v1 v2).bind fun v3=>asB v3 fun t=>bif t then (ret_ H [some (D.bool false)]) else (J E 28 4 [x0,x1,(D.int .i64 0)] H):=
 (ent_seg E 28 [4] 400 [x0,x1] H).trans (by kernel_rfl)
theorem j28_4 (x0 x1 x5:D) (H:Heap) :
  J E 28 4 [x0,x1,x5] H =
  (lnL x0).bind fun v4=>(bI .lss x5 v4).bind fun v5=>asB v5 fun t=>bif t then ((ia 3 H x0 x5).bind fun v6=>(ld true 3 H v6).bind fun v7=>(ia 3 H x1 x5).bind fun v8=>(ld true 3 H v8).bind fun v9=>(callFn E (exec E) .pure 76 [v7,v9] H).bind fun r10=>(unOp .not r10.1).bind fun v11=>asB v11 fun t=>bif t then (ret_ r10.2 [some (D.bool false)]) else ((bI .add x5 (D.int .i64 1)).bind fun v12=>J E 28 4 [x0,x1,v12] r10.2)) else (ret_ H [some (D.bool true)]):=
 (J_seg E 28 4 [4] 400 [x0,x1,x5] H).trans (by kernel_rfl)
theorem e29 (x0 x1:D) (H:Heap) :
  ent E 29 [x0,x1] H =
  alloc_ H (D.cells x0) fun p1 H1=>alloc_ H1 (D.cells x1) fun p2 H2=>(fa 0 p1).bind fun v3=>(ld false 1 H2 v3).bind fun v4=>(fa 0 p2).bind fun v5=>(ld false 1 H2 v5).bind fun v6=>(callFn E (exec E) .pure 77 [v4,v6] H2).bind fun r7=>(unOp .not r7.1).bind fun v8=>asB v8 fun t=>bif t then (ret_ r7.2 [some (D.bool false)]) else ((fa 1 p1).bind fun v9=>(ld false 1 r7.2 v9).bind fun v10=>(fa 1 p2).bind fun v11=>(ld false 1 r7.2 v11).bind fun v12=>(callFn E (exec E) .pure 78 [v10,v12] r7.2).bind fun r13=>(unOp .not r13.1).bind fun v14=>asB v14 fun t=>bif t then (ret_ r13.2 [some (D.bool false)]) else ((fa 2 p1).bind fun v15=>(ld false 1 r13.2 v15).bind fun v16=>(fa 2 p2).bind fun v17=>(ld false 1 r13.2 v17).bind fun v18=>(bI .neq v16 v18).bind fun v19=>asB v19 fun t=>bif t then (ret_ r13.2 [some (D.bool false)]) else (ret_ r13.2 [some (D.bool true)]))):=
 (ent_seg E 29 [] 400 [x0,x1] H).trans (by kernel_rfl)
theorem e30 (x0 x1:D) (H:Heap) :
  ent E 30 [x0,x1] H =
  J E 30 2 [x0,x1,(D.int .i64 0)] H:=
 (ent_seg E 30 [2] 400 [x0,x1] H).trans (by kernel_rfl)
theorem j30_2 (x0 x1 x5:D) (H:Heap) :
  J E 30 2 [x0,x1,x5] H =
  (lnL x0).bind fun v1=>(bI .lss x5 v1).bind fun v2=>asB v2 fun t=>bif t then ((callFn E (exec E) .pure 79 [x1] H).bind fun r3=>(ia 2 r3.2 x0 x5).bind fun v4=>(fa 0 v4).bind fun v5=>(st 1 r3.2 v5 r3.1).bind fun H6=>(bI .add x1 (D.int .i64 1)).bind fun v7=>(callFn E (exec E) .pure 79 [v7] H6).bind fun r8=>(ia 2 r8.2 x0 x5).bind fun v9=>(fa 1 v9).bind fun v10=>(st 1 r8.2 v10 r8.1).bind fun H11=>(bI .add v7 (D.int .i64 1)).bind fun v12=>(bI .add x5 (D.int .i64 1)).bind fun v13=>J E 30 2 [x0,v12,v13] H11) else (ret_ H [some x1]):=
 (J_seg E 30 2 [2] 400 [x0,x1,x5] H).trans (by kernel_rfl)
theorem e31 (x0 x1:D) (H:Heap) :
  ent E 31 [x0,x1] H =
  J E 31 2 [x0,x1,(D.int .i64 0)] H:=
 (ent_seg E 31 [2] 400 [x0,x1] H).trans (by kernel_rfl)
theorem j31_2 (x0 x1 x5:D) (H:Heap) :
  J E 31 2 [x0,x1,x5] H =
  (lnL x0).bind fun v1=>(bI .lss x5 v1).bind fun v2=>asB v2 fun t=>bif t then ((callFn E (exec E) .pure 79 [x1] H).bind fun r3=>(ia 2 r3.2 x0 x5).bind fun v4=>(fa 0 v4).bind fun v5=>(st 1 r3.2 v5 r3.1).bind fun H6=>(bI .add x1 (D.int .i64 1)).bind fun v7=>(ia 2 H6 x0 x5).bind fun v8=>(fa 1 v8).bind fun v9=>(st 1 H6 v9 v7).bind fun H10=>(bI .add v7 (D.int .i64 1)).bind fun v11=>(bI .add x5 (D.int .i64 1)).bind fun v12=>J E 31 2 [x0,v11,v12] H10) else (ret_ H [some x1]):=
 (J_seg E 31 2 [2] 400 [x0,x1,x5] H).trans (by kernel_rfl)
theorem e32 (x0 x1:D) (H:Heap) :
  ent E 32 [x0,x1] H =
  J E 32 2 [x0,x1,(D.int .i64 0)] H:=
 (ent_seg E 32 [2] 400 [x0,x1] H).trans (by kernel_rfl)
theorem j32_2 (x0 x1 x5:D) (H:Heap) :
  J E 32 2 [x0,x1,x5] H =
  (lnL x0).bind fun v1=>(bI .lss x5 v1).bind fun v2=>asB v2 fun t=>bif t then ((callFn E (exec E) .pure 79 [x1] H).bind fun r3=>(ia 16 r3.2 x0 x5).bind fun v4=>(fa 0 v4).bind fun v5=>(st 1 r3.2 v5 r3.1).bind fun H6=>(bI .add x1 (D.int .i64 1)).bind fun v7=>(ia 16 H6 x0 x5).bind fun v8=>(fa 1 v8).bind fun v9=>(st 1 H6 v9 v7).bind fun H10=>(bI .add v7 (D.int .i64 1)).bind fun v11=>(ia 16 H10 x0 x5).bind fun v12=>(fa 2 v12).bind fun v13=>(fa 0 v13).bind fun v14=>(ld false 1 H10 v14).bind fun v15=>(callFn E (exec E) .raw 80 [v15,v11] H10).bind fun r16=>(ia 16 r16.2 x0 x5).bind fun v17=>(fa 2 v17).bind fun v18=>(fa 1 v18).bind fun v19=>(st 1 r16.2 v19 r16.1).bind fun H20=>(bI .add r16.1 (D.int .i64 1)).bind fun v21=>(ia 16 H20 x0 x5).bind fun v22=>(fa 2 v22).bind fun v23=>(fa 2 v23).bind fun v24=>(st 1 H20 v24 v21).bind fun H25=>(bI .add v21 (D.int .i64 1)).bind fun v26=>(ia 16 H25 x0 x5).bind fun v27=>(fa 2 v27).bind fun v28=>(fa 3 v28).bind fun v29=>(st 1 H25 v29 v26).bind fun H30=>(bI .add v26 (D.int .i64 1)).bind fun v31=>(ia 16 H30 x0 x5).bind fun v32=>(fa 2 v32).bind fun v33=>(fa 4 v33).bind fun v34=>(ld false 1 H30 v34).bind fun v35=>(callFn E (exec E) .raw 81 [v35,v31] H30).bind fun r36=>(ia 16 r36.2 x0 x5).bind fun v37=>(fa 2 v37).bind fun v38=>(fa 5 v38).bind fun v39=>(ld false 1 r36.2 v39).bind fun v40=>(callFn E (exec E) .raw 82 [v40,r36.1] r36.2).bind fun r41=>(ia 16 r41.2 x0 x5).bind fun v42=>(fa 2 v42).bind fun v43=>(fa 6 v43).bind fun v44=>(ld false 1 r41.2 v44).bind fun v45=>(callFn E (exec E) .raw 83 [v45,r41.1] r41.2).bind fun r46=>(ia 16 r46.2 x0 x5).bind fun v47=>(fa 9 v47).bind fun v48=>(st 1 r46.2 v48 r46.1).bind fun H49=>(bI .add r46.1 (D.int .i64 1)).bind fun v50=>(ia 16 H49 x0 x5).bind fun v51=>(fa 10 v51).bind fun v52=>(ld false 1 H49 v52).bind fun v53=>(callFn E (exec E) .raw 81 [v53,v50] H49).bind fun r54=>(ia 16 r54.2 x0 x5).bind fun v55=>(fa 11 v55).bind fun v56=>(st 1 r54.2 v56 r54.1).bind fun H57=>(bI .add r54.1 (D.int .i64 1)).bind fun v58=>(ia 16 H57 x0 x5).bind fun v59=>(fa 12 v59).bind fun v60=>(st 1 H57 v60 v58).bind fun H61=>(bI .add v58 (D.int .i64 1)).bind fun v62=>(ia 16 H61 x0 x5).bind fun v63=>(fa 13 v63).bind fun v64=>(ld false 1 H61 v64).bind fun v65=>(callFn E (exec E) .raw 84 [v65,v62] H61).bind fun r66=>(ia 16 r66.2 x0 x5).bind fun v67=>(fa 14 v67).bind fun v68=>(ld false 1 r66.2 v68).bind fun v69=>(callFn E (exec E) .raw 85 [v69,r66.1] r66.2).bind fun r70=>(ia 16 r70.2 x0 x5).bind fun v71=>(fa 15 v71).bind fun v72=>(ld false 1 r70.2 v72).bind fun v73=>(callFn E (exec E) .raw 86 [v73,r70.1] r70.2).bind fun r74=>(bI .add x5 (D.int .i64 1)).bind fun v75=>J E 32 2 [x0,r74.1,v75] r74.2) else (ret_ H [some x1]):=
 (J_seg E 32 2 [2] 400 [x0,x1,x5] H).trans (by kernel_rfl)
theorem e33 (x0 x1:D) (H:Heap) :
  ent E 33 [x0,x1] H =
  J E 33 2 [x0,x1,(D.int .i64 0)] H:=
 (ent_seg E 33 [2] 400 [x0,x1] H).trans (by kernel_rfl)
theorem j33_2 (x0 x1 x5:D) (H:Heap) :
  J E 33 2 [x0,x1,x5] H =
  (lnL x0).bind fun v1=>(bI .lss x5 v1).bind fun v2=>asB v2 fun t=>bif t then ((ia 3 H x0 x5).bind fun v3=>(fa 0 v3).bind fun v4=>(st 1 H v4 x1).bind fun H5=>(bI .add x1 (D.int .i64 1)).bind fun v6=>(callFn E (exec E) .pure 79 [v6] H5).bind fun r7=>(ia 3 r7.2 x0 x5).bind fun v8=>(fa 1 v8).bind fun v9=>(st 1 r7.2 v9 r7.1).bind fun H10=>(bI .add v6 (D.int .i64 1)).bind fun v11=>(ia 3 H10 x0 x5).bind fun v12=>(fa 2 v12).bind fun v13=>(st 1 H10 v13 v11).bind fun H14=>(bI .add v11 (D.int .i64 1)).bind fun v15=>(bI .add x5 (D.int .i64 1)).bind fun v16=>J E 33 2 [x0,v15,v16] H14) else (ret_ H [some x1]):=
 (J_seg E 33 2 [2] 400 [x0,x1,x5] H).trans (by kernel_rfl)
theorem e34 (x0 x1:D) (H:Heap) :
  ent E 34 [x0,x1] H =
  J E 34 2 [x0,x1,(D.int .i64 0)] H:=
 (ent_seg E 34 [2] 400 [x0,x1] H).trans (by kernel_rfl)
theorem j34_2 (x0 x1 x5:D) (H:Heap) :
  J E 34 2 [x0,x1,x5] H =
  (lnL x0).bind fun v1=>(bI .lss x5 v1).bind fun v2=>asB v2 fun t=>bif t then ((callFn E (exec E) .pure 79 [x1] H).bind fun r3=>(ia 3 r3.2 x0 x5).bind fun v4=>(fa 0 v4).bind fun v5=>(st 1 r3.2 v5 r3.1).bind fun H6=>(bI .add x1 (D.int .i64 1)).bind fun v7=>(ia 3 H6 x0 x5).bind fun v8=>(fa 1 v8).bind fun v9=>(ld false 1 H6 v9).bind fun v10=>(callFn E (exec E) .raw 81 [v10,v7] H6).bind fun r11=>(ia 3 r11.2 x0 x5).bind fun v12=>(fa 2 v12).bind fun v13=>(st 1 r11.2 v13 r11.1).bind fun H14=>(bI .add r11.1 (D.int .i64 1)).bind fun v15=>(bI .add x5 (D.int .i64 1)).bind fun v16=>J E 34 2 [x0,v15,v16] H14) else (ret_ H [some x1]):=
 (J_seg E 34 2 [2] 400 [x0,x1,x5] H).trans (by kernel_rfl)
theorem e35 (x0 x1:D) (H:Heap) :
  ent E 35 [x0,x1] H =
  J E 35 2 [x0,x1,(D.int .i64 0)] H:=
 (ent_seg E 35 [2] 400 [x0,x1] H).trans (by kernel_rfl)
theorem j35_2 (x0 x1 x5:D) (H:Heap) :
  J E 35 2 [x0,x1,x5] H =
  (lnL x0).bind fun v1=>(bI .lss x5 v1).bind fun v2=>asB v2 fun t=>bif t then ((ia 3 H x0 x5).bind fun v3=>(fa 0 v3).bind fun v4=>(ld false 1 H v4).bind fun v5=>(callFn E (exec E) .pure 87 [v5,x1] H).bind fun r6=>(bI .lss r6.1 (D.int .i64 0)).bind fun v7=>asB v7 fun t=>bif t then (ret_ r6.2 [some (D.int .i64 (-1))]) else ((ia 3 r6.2 x0 x5).bind fun v8=>(fa 1 v8).bind fun v9=>(ld false 1 r6.2 v9).bind fun v10=>(callFn E (exec E) .pure 88 [v10,r6.1] r6.2).bind fun r11=>(bI .lss r11.1 (D.int .i64 0)).bind fun v12=>asB v12 fun t=>bif t then (ret_ r11.2 [some (D.int .i64 (-1))]) else ((ia 3 r11.2 x0 x5).bind fun v13=>(fa 2 v13).bind fun v14=>(ld false 1 r11.2 v14).bind fun v15=>(bI .neq v15 r11.1).bind fun v16=>asB v16 fun t=>bif t then (ret_ r11.2 [some (D.int .i64 (-1))]) else ((bI .add r11.1 (D.int .i64 1)).bind fun v17=>(bI .add x5 (D.int .i64 1)).bind fun v18=>J E 35 2 [x0,v17,v18] r11.2)))) else (ret_ H [some x1]):=
 (J_seg E 35 2 [2] 400 [x0,x1,x5] H).trans (by kernel_rfl)
theorem e36 (x0 x1:D) (H:Heap) :
  ent E 36 [x0,x1] H =
  J E 36 2 [x0,x1,(D.int .i64 0)] H:=
 (ent_seg E 36 [2] 400 [x0,x1] H).trans (by kernel_rfl)
theorem j36_2 (x0 x1 x5:D) (H:Heap) :
  J E 36 2 [x0,x1,x5] H =
  (lnL x0).bind fun v1=>(bI .lss x5 v1).bind fun v2=>asB v2 fun t=>bif t then ((ia 16 H x0 x5).bind fun v3=>(fa 0 v3).bind fun v4=>(ld false 1 H v4).bind fun v5=>(callFn E (exec E) .pure 79 [x1] H).bind fun r6=>(bS .neq v5 r6.1).bind fun v7=>asB v7 fun t=>bif t then (ret_ r6.2 [some (D.int .i64 (-1))]) else ((bI .add x1 (D.int .i64 1)).bind fun v8=>(ia 16 r6.2 x0 x5).bind fun v9=>(fa 1 v9).bind fun v10=>(ld false 1 r6.2 v10).bind fun v11=>(bI .neq v11 v8).bind fun v12=>asB v12 fun t=>bif t then (ret_ r6.2 [some (D.int .i64 (-1))]) else ((bI .add v8 (D.int .i64 1)).bind fun v13=>(ia 16 r6.2 x0 x5).bind fun v14=>(fa 2 v14).bind fun v15=>(fa 0 v15).bind fun v16=>(ld false 1 r6.2 v16).bind fun v17=>(callFn E (exec E) .pure 89 [v17,v13] r6.2).bind fun r18=>(bI .lss r18.1 (D.int .i64 0)).bind fun v19=>asB v19 fun t=>bif t then (ret_ r18.2 [some (D.int .i64 (-1))]) else ((ia 16 r18.2 x0 x5).bind fun v20=>(fa 2 v20).bind fun v21=>(fa 1 v21).bind fun v22=>(ld false 1 r18.2 v22).bind fun v23=>(bI .neq v23 r18.1).bind fun v24=>asB v24 fun t=>bif t then (ret_ r18.2 [some (D.int .i64 (-1))]) else ((bI .add r18.1 (D.int .i64 1)).bind fun v25=>(ia 16 r18.2 x0 x5).bind fun v26=>(fa 2 v26).bind fun v27=>(fa 2 v27).bind fun v28=>(ld false 1 r18.2 v28).bind fun v29=>(bI .neq v29 v25).bind fun v30=>asB v30 fun t=>bif t then (ret_ r18.2 [some (D.int .i64 (-1))]) else ((bI .add v25 (D.int .i64 1)).bind fun v31=>(ia 16 r18.2 x0 x5).bind fun v32=>(fa 2 v32).bind fun v33=>(fa 3 v33).bind fun v34=>(ld false 1 r18.2 v34).bind fun v35=>(bI .neq v35 v31).bind fun v36=>asB v36 fun t=>bif t then (ret_ r18.2 [some (D.int .i64 (-1))]) else ((bI .add v31 (D.int .i64 1)).bind fun v37=>(ia 16 r18.2 x0 x5).bind fun v38=>(fa 2 v38).bind fun v39=>(fa 4 v39).bind fun v40=>(ld false 1 r18.2 v40).bind fun v41=>(callFn E (exec E) .pure 90 [v41,v37] r18.2).bind fun r42=>(bI .lss r42.1 (D.int .i64 0)).bind fun v43=>asB v43 fun t=>bif t then (ret_ r42.2 [some (D.int .i64 (-1))]) else ((ia 16 r42.2 x0 x5).bind fun v44=>(fa 2 v44).bind fun v45=>(fa 5 v45).bind fun v46=>(ld false 1 r42.2 v46).bind fun v47=>(callFn E (exec E) .pure 91 [v47,r42.1] r42.2).bind fun r48=>(bI .lss r48.1 (D.int .i64 0)).bind fun v49=>asB v49 fun t=>bif t then (ret_ r48.2 [some (D.int .i64 (-1))]) else ((ia 16 r48.2 x0 x5).bind fun v50=>(fa 2 v50).bind fun v51=>(fa 6 v51).bind fun v52=>(ld false 1 r48.2 v52).bind fun v53=>(callFn E (exec E) .pure 92 [v53,r48.1] r48.2).bind fun r54=>(bI .lss r54.1 (D.int .i64 0)).bind fun v55=>asB v55 fun t=>bif t then (ret_ r54.2 [some (D.int .i64 (-1))]) else ((ia 16 r54.2 x0 x5).bind fun v56=>(fa 9 v56).bind fun v57=>(ld false 1 r54.2 v57).bind fun v58=>(bI .neq v58 r54.1).bind fun v59=>asB v59 fun t=>bif t then (ret_ r54.2 [some (D.int .i64 (-1))]) else ((bI .add r54.1 (D.int .i64 1)).bind fun v60=>(ia 16 r54.2 x0 x5).bind fun v61=>(fa 10 v61).bind fun v62=>(ld false 1 r54.2 v62).bind fun v63=>(callFn E (exec E) .pure 90 [v63,v60] r54.2).bind fun r64=>(bI .lss r64.1 (D.int .i64 0)).bind fun v65=>asB v65 fun t=>bif t then (ret_ r64.2 [some (D.int .i64 (-1))]) else ((ia 16 r64.2 x0 x5).bind fun v66=>(fa 11 v66).bind fun v67=>(ld false 1 r64.2 v67).bind fun v68=>(bI .neq v68 r64.1).bind fun v69=>asB v69 fun t=>bif t then (ret_ r64.2 [some (D.int .i64 (-1))]) else ((bI .add r64.1 (D.int .i64 1)).bind fun v70=>(ia 16 r64.2 x0 x5).bind fun v71=>(fa 12 v71).bind fun v72=>(ld false 1 r64.2 v72).bind fun v73=>(bI .neq v73 v70).bind fun v74=>asB v74 fun t=>bif t then (ret_ r64.2 [some (D.int .i64 (-1))]) else ((bI .add v70 (D.int .i64 1)).bind fun v75=>(ia 16 r64.2 x0 x5).bind fun v76=>(fa 13 v76).bind fun v77=>(ld false 1 r64.2 v77).bind fun v78=>(callFn E (exec E) .pure 93 [v78,v75] r64.2).bind fun r79=>(bI .lss r79.1 (D.int .i64 0)).bind fun v80=>asB v80 fun t=>bif t then (ret_ r79.2 [some (D.int .i64 (-1))]) else ((ia 16 r79.2 x0 x5).bind fun v81=>(fa 14 v81).bind fun v82=>(ld false 1 r79.2 v82).bind fun v83=>(callFn E (exec E) .pure 94 [v83,r79.1] r79.2).bind fun r84=>(bI .lss r84.1 (D.int .i64 0)).bind fun v85=>asB v85 fun t=>bif t then (ret_ r84.2 [some (D.int .i64 (-1))]) else ((ia 16 r84.2 x0 x5).bind fun v86=>(fa 15 v86).bind fun v87=>(ld false 1 r84.2 v87).bind fun v88=>(callFn E (exec E) .pure 95 [v88,r84.1] r84.2).bind fun r89=>(bI .lss r89.1 (D.int .i64 0)).bind fun v90=>asB v90 fun t=>bif t then (ret_ r89.2 [some (D.int .i64 (-1))]) else ((bI .add x5 (D.int .i64 1)).bind fun v91=>J E 36 2 [x0,r89.1,v91] r89.2))))))))))))))))) else (ret_ H [some x1]):=
 (J_seg E 36 2 [2] 400 [x0,x1,x5] H).trans (by kernel_rfl)
theorem e37 (x0 x1:D) (H:Heap) :
  ent E 37 [x0,x1] H =
  J E 37 2 [x0,x1,(D.int .i64 0)] H:=
 (ent_seg E 37 [2] 400 [x0,x1] H).trans (by kernel_rfl)
theorem j37_2 (x0 x1 x5:D) (H:Heap) :
  J E 37 2 [x0,x1,x5] H =
  (lnL x0).bind fun v1=>(bI .lss x5 v1).bind fun v2=>asB v2 fun t=>bif t then ((ia 3 H x0 x5).bind fun v3=>(fa 0 v3).bind fun v4=>(ld false 1 H v4).bind fun v5=>(bI .neq v5 x1).bind fun v6=>asB v6 fun t=>bif t then (ret_ H [some (D.int .i64 (-1))]) else ((bI .add x1 (D.int .i64 1)).bind fun v7=>(ia 3 H x0 x5).bind fun v8=>(fa 1 v8).bind fun v9=>(ld false 1 H v9).bind fun v10=>(callFn E (exec E) .pure 79 [v7] H).bind fun r11=>(bS .neq v10 r11.1).bind fun v12=>asB v12 fun t=>bif t then (ret_ r11.2 [some (D.int .i64 (-1))]) else ((bI .add v7 (D.int .i64 1)).bind fun v13=>(ia 3 r11.2 x0 x5).bind fun v14=>(fa 2 v14).bind fun v15=>(ld false 1 r11.2 v15).bind fun v16=>(bI .neq v16 v13).bind fun v17=>asB v17 fun t=>bif t then (ret_ r11.2 [some (D.int .i64 (-1))]) else ((bI .add v13 (D.int .i64 1)).bind fun v18=>(bI .add x5 (D.int .i64 1)).bind fun v19=>J E 37 2 [x0,v18,v19] r11.2)))) else (ret_ H [some x1]):=
 (J_seg E 37 2 [2] 400 [x0,x1,x5] H).trans (by kernel_rfl)
theorem e38 (x0 x1:D) (H:Heap) :
  ent E 38 [x0,x1] H =
  J E 38 2 [x0,x1,(D.int .i64 0)] H:=
 (ent_seg E 38 [2] 400 [x0,x1] H).trans (by kernel_rfl)
theorem j38_2 (x0 x1 x5:D) (H:Heap) :
  J E 38 2 [x0,x1,x5] H =
  (lnL x0).bind fun v1=>(bI .lss x5 v1).bind fun v2=>asB v2 fun t=>bif t then ((ia 3 H x0 x5).bind fun v3=>(fa 0 v3).bind fun v4=>(ld false 1 H v4).bind fun v5=>(callFn E (exec E) .pure 79 [x1] H).bind fun r6=>(bS .neq v5 r6.1).bind fun v7=>asB v7 fun t=>bif t then (ret_ r6.2 [some (D.int .i64 (-1))]) else ((bI .add x1 (D.int .i64 1)).bind fun v8=>(ia 3 r6.2 x0 x5).bind fun v9=>(fa 1 v9).bind fun v10=>(ld false 1 r6.2 v10).bind fun v11=>(callFn E (exec E) .pure 90 [v11,v8] r6.2).bind fun r12=>(bI .lss r12.1 (D.int .i64 0)).bind fun v13=>asB v13 fun t=>bif t then (ret_ r12.2 [some (D.int .i64 (-1))]) else ((ia 3 r12.2 x0 x5).bind fun v14=>(fa 2 v14).bind fun v15=>(ld false 1 r12.2 v15).bind fun v16=>(bI .neq v16 r12.1).bind fun v17=>asB v17 fun t=>bif t then (ret_ r12.2 [some (D.int .i64 (-1))]) else ((bI .add r12.1 (D.int .i64 1)).bind fun v18=>(bI .add x5 (D.int .i64 1)).bind fun v19=>J E 38 2 [x0,v18,v19] r12.2)))) else (ret_ H [some x1]):=
 (J_seg E 38 2 [2] 400 [x0,x1,x5] H).trans (by kernel_rfl)
theorem e56 (x0 x1:D) (H:Heap) :
  ent E 56 [x0,x1] H =
  (lnL x0).bind fun v1=>(lnL x1).bind fun v2=>(bI .neq v1 v2).bind fun v3=>asB v3 fun t=>bif t then (ret_ H [some (D.bool false)]) else (J E 56 4 [x0,x1,(D.int .i64 0)] H):=
 (ent_seg E 56 [4] 400 [x0,x1] H).trans (by kernel_rfl)
theorem j56_4 (x0 x1 x5:D) (H:Heap) :
  J E 56 4 [x0,x1,x5] H =
  (lnL x0).bind fun v4=>(bI .lss x5 v4).bind fun v5=>asB v5 fun t=>bif t then ((ia 4 H x0 x5).bind fun v6=>(ld true 4 H v6).bind fun v7=>(ia 4 H x1 x5).bind fun v8=>(ld true 4 H v8).bind fun v9=>(callFn E (exec E) .pure 135 [v7,v9] H).bind fun r10=>(unOp .not r10.1).bind fun v11=>asB v11 fun t=>bif t then (ret_ r10.2 [some (D.bool false)]) else ((bI .add x5 (D.int .i64 1)).bind fun v12=>J E 56 4 [x0,x1,v12] r10.2)) else (ret_ H [some (D.bool true)]):=
 (J_seg E 56 4 [4] 400 [x0,x1,x5] H).trans (by kernel_rfl)
theorem e57 (x0 x1:D) (H:Heap) :
  ent E 57 [x0,x1] H =
  (lnL x0).bind fun v1=>(lnL x1).bind fun v2=>(bI .neq v1 v2).bind fun v3=>asB v3 fun t=>bif t then (ret_ H [some (D.bool false)]) else (J E 57 4 [x0,x1,(D.int .i64 0)] H):=
 (ent_seg E 57 [4] 400 [x0,x1] H).trans (by kernel_rfl)
theorem j57_4 (x0 x1 x5:D) (H:Heap) :
  J E 57 4 [x0,x1,x5] H =
  (lnL x0).bind fun v4=>(bI .lss x5 v4).bind fun v5=>asB v5 fun t=>bif t then ((ia 1 H x0 x5).bind fun v6=>(ld false 1 H v6).bind fun v7=>(ia 1 H x1 x5).bind fun v8=>(ld false 1 H v8).bind fun v9=>(bI .neq v7 v9).bind fun v10=>asB v10 fun t=>bif t then (ret_ H [some (D.bool false)]) else ((bI .add x5 (D.int .i64 1)).bind fun v11=>J E 57 4 [x0,x1,v11] H)) else (ret_ H [some (D.bool true)]):=
 (J_seg E 57 4 [4] 400 [x0,x1,x5] H).trans (by kernel_rfl)
theorem e58 (x0 x1:D) (H:Heap) :
  ent E 58 [x0,x1] H =
  (lnL x0).bind fun v1=>(lnL x1).bind fun v2=>(bI .neq v1 v2).bind fun v3=>asB v3 fun t=>bif t then (ret_ H [some (D.bool false)]) else (J E 58 4 [x0,x1,(D.int .i64 0)] H):=
 (ent_seg E 58 [4] 400 [x0,x1] H).trans (by kernel_rfl)
theorem j58_4 (x0 x1 x5:D) (H:Heap) :
  J E 58 4 [x0,x1,x5] H =
  (lnL x0).bind fun v4=>(bI .lss x5 v4).bind fun v5=>asB v5 fun t=>bif t then ((ia 3 H x0 x5).bind fun v6=>(ld true 3 H v6).bind fun v7=>(ia 3 H x1 x5).bind fun v8=>(ld true 3 H v8).bind fun v9=>(callFn E (exec E) .pure 136 [v7,v9] H).bind fun r10=>(unOp .not r10.1).bind fun v11=>asB v11 fun t=>bif t then (ret_ r10.2 [some (D.bool false)]) else ((bI .add x5 (D.int .i64 1)).bind fun v12=>J E 58 4 [x0,x1,v12] r10.2)) else (ret_ H [some (D.bool true)]):=
 (J_seg E 58 4 [4] 400 [x0,x1,x5] H).trans (by kernel_rfl)
theorem e59 (x0 x1:D) (H:Heap) :
  ent E 59 [x0,x1] H =
  (lnL x0).bind fun v1=>(lnL x1).bind fun v2=>(bI .neq v1 v2).bind fun v3=>asB v3 fun t=>bif t then (ret_ H [some (D.bool false)]) else (J E 59 4 [x0,x1,(D.int .i64 0)] H):=
 (ent_seg E 59 [4] 400 [x0,x1] H).trans (by kernel_rfl)
theorem j59_4 (x0 x1 x5:D) (H:Heap) :
  J E 59 4 [x0,x1,x5] H =
  (lnL x0).bind fun v4=>(bI .lss x5 v4).bind fun v5=>asB v5 fun t=>bif t then ((ia 8 H x0 x5).bind fun v6=>(ld true 8 H v6).bind fun v7=>(ia 8 H x1 x5).bind fun v8=>(ld true 8 H v8).bind fun v9=>(callFn E (exec E) .pure 137 [v7,v9] H).bind fun r10=>(unOp .not r10.1).bind fun v11=>asB v11 fun t=>bif t then (ret_ r10.2 [some (D.bool false)]) else ((bI .add x5 (D.int .i64 1)).bind fun v12=>J E 59 4 [x0,x1,v12] r10.2)) else (ret_ H [some (D.bool true)]):=
 (J_seg E 59 4 [4] 400 [x0,x1,x5] H).trans (by kernel_rfl)
theorem e60 (x0 x1:D) (H:Heap) :
  ent E 60 [x0,x1] H =
  (lnL x0).bind fun v1=>(bI .sub x1 v1).bind fun v2=>(bI .lss v2 (D.int .i64 0)).bind fun v3=>asB v3 fun t=>bif t then (ret_ H [some (D.int .i64 (-1))]) else (J E 60 5 [x0,v2,(D.int .i64 0)] H):=
 (ent_seg E 60 [5] 400 [x0,x1] H).trans (by kernel_rfl)
theorem j60_5 (x0 x1 x5:D) (H:Heap) :
  J E 60 5 [x0,x1,x5] H =
  (lnL x0).bind fun v4=>(bI .lss x5 v4).bind fun v5=>asB v5 fun t=>bif t then ((ia 2 H x0 x5).bind fun v6=>(ld true 2 H v6).bind fun v7=>(callFn E (exec E) .pure 138 [v7,x1] H).bind fun r8=>(bI .lss r8.1 (D.int .i64 0)).bind fun v9=>asB v9 fun t=>bif t then (ret_ r8.2 [some (D.int .i64 (-1))]) else ((bI .add x5 (D.int .i64 1)).bind fun v10=>J E 60 5 [x0,r8.1,v10] r8.2)) else (ret_ H [some x1]):=
 (J_seg E 60 5 [5] 400 [x0,x1,x5] H).trans (by kernel_rfl)
theorem e61 (x0 x1:D) (H:Heap) :
  ent E 61 [x0,x1] H =
  (lnL x0).bind fun v1=>(bI .sub x1 v1).bind fun v2=>(bI .lss v2 (D.int .i64 0)).bind fun v3=>asB v3 fun t=>bif t then (ret_ H [some (D.int .i64 (-1))]) else (J E 61 5 [x0,v2,(D.int .i64 0)] H):=
 (ent_seg E 61 [5] 400 [x0,x1] H).trans (by kernel_rfl)
theorem j61_5 (x0 x1 x5:D) (H:Heap) :
  J E 61 5 [x0,x1,x5] H =
  (lnL x0).bind fun v4=>(bI .lss x5 v4).bind fun v5=>asB v5 fun t=>bif t then ((ia 2 H x0 x5).bind fun v6=>(ld true 2 H v6).bind fun v7=>(callFn E (exec E) .pure 139 [v7,x1] H).bind fun r8=>(bI .lss r8.1 (D.int .i64 0)).bind fun v9=>asB v9 fun t=>bif t then (ret_ r8.2 [some (D.int .i64 (-1))]) else ((bI .add x5 (D.int .i64 1)).bind fun v10=>J E 61 5 [x0,r8.1,v10] r8.2)) else (ret_ H [some x1]):=
 (J_seg E 61 5 [5] 400 [x0,x1,x5] H).trans (by kernel_rfl)
theorem e62 (x0 x1:D) (H:Heap) :
  ent E 62 [x0,x1] H =
  alloc_ H (D.cells x0) fun p1 H1=>alloc_ H1 (D.cells x1) fun p2 H2=>J E 62 2 [p1,p2,(D.int .i64 0)] H2:=
 (ent_seg E 62 [2,8,13,15] 400 [x0,x1] H).trans (by kernel_rfl)
theorem j62_2 (x2 x3 x5:D) (H:Heap) :
  J E 62 2 [x2,x3,x5] H =
  (fa 0 x3).bind fun v3=>(ld false 1 H v3).bind fun v4=>(lnL v4).bind fun v5=>(bI .lss x5 v5).bind fun v6=>asB v6 fun t=>bif t then ((fa 0 x3).bind fun v7=>(ld false 1 H v7).bind fun v8=>(ia 2 H v8 x5).bind fun v9=>(ld true 2 H v9).bind fun v10=>alloc_ H [.str [],.str []] fun p11 H11=>(st 2 H11 p11 v10).bind fun H12=>(fa 0 p11).bind fun v13=>(ld false 1 H12 v13).bind fun v14=>(callFn E (exec E) .pure 140 [v14] H12).bind fun r15=>(unOp .not r15.1).bind fun v16=>asB v16 fun t=>bif t then (ret_ r15.2 [some (D.bool false)]) else ((fa 0 p11).bind fun v17=>(ld false 1 r15.2 v17).bind fun v18=>(callFn E (exec E) .pure 141 [v18] r15.2).bind fun r19=>(bI .geq r19.1 (D.int .i64 0)).bind fun v20=>asB v20 fun t=>bif t then (ret_ r19.2 [some (D.bool false)]) else ((fa 1 p11).bind fun v21=>(ld false 1 r19.2 v21).bind fun v22=>(lnS v22).bind fun v23=>(bI .gtr v23 (D.int .i64 900)).bind fun v24=>asB v24 fun t=>bif t then (ret_ r19.2 [some (D.bool false)]) else (J E 62 8 [x2,x3,x5,p11,(D.int .i64 0)] r19.2)))) else (J E 62 13 [x2,x3,(D.int .i64 0)] H):=
 (J_seg E 62 2 [2,8,13,15] 400 [x2,x3,x5] H).trans (by kernel_rfl)
theorem j62_8 (x2 x3 x5 x6 x7:D) (H:Heap) :
  J E 62 8 [x2,x3,x5,x6,x7] H =
  (bI .lss x7 x5).bind fun v25=>asB v25 fun t=>bif t then ((fa 0 x3).bind fun v26=>(ld false 1 H v26).bind fun v27=>(ia 2 H v27 x7).bind fun v28=>(fa 0 v28).bind fun v29=>(ld false 1 H v29).bind fun v30=>(fa 0 x6).bind fun v31=>(ld false 1 H v31).bind fun v32=>(bS .eql v30 v32).bind fun v33=>asB v33 fun t=>bif t then (ret_ H [some (D.bool false)]) else ((bI .add x7 (D.int .i64 1)).bind fun v34=>J E 62 8 [x2,x3,x5,x6,v34] H)) else ((bI .add x5 (D.int .i64 1)).bind fun v35=>J E 62 2 [x2,x3,v35] H):=
 (J_seg E 62 8 [2,8,13,15] 400 [x2,x3,x5,x6,x7] H).trans (by kernel_rfl)
theorem j62_13 (x2 x3 x8:D) (H:Heap) :
  J E 62 13 [x2,x3,x8] H =
  (fa 1 x3).bind fun v36=>(ld false 1 H v36).bind fun v37=>(lnL v37).bind fun v38=>(bI .lss x8 v38).bind fun v39=>asB v39 fun t=>bif t then (J E 62 15 [x2,x3,x8] H) else ((fa 0 x3).bind fun v40=>(ld false 1 H v40).bind fun v41=>(lnL v41).bind fun v42=>(bI .leq v42 (D.int .i64 5)).bind fun v43=>asB v43 fun t=>bif t then ((fa 1 x3).bind fun v44=>(ld false 1 H v44).bind fun v45=>(lnL v45).bind fun v46=>(bI .leq v46 (D.int .i64 4)).bind fun v47=>asB v47 fun t=>bif t then ((fa 2 x3).bind fun v48=>(ld false 1 H v48).bind fun v49=>(fa 0 x2).bind fun v50=>(ld false 1 H v50).bind fun v51=>(lnL v51).bind fun v52=>(bI .sub v52 (D.int .i64 1)).bind fun v53=>(callFn E (exec E) .pure 63 [v49,(D.int .i64 (-1)),v53] H).bind fun r54=>ret_ r54.2 [some r54.1]) else (ret_ H [some (D.bool false)])) else (ret_ H [some (D.bool false)])):=
 (J_seg E 62 13 [2,8,13,15] 400 [x2,x3,x8] H).trans (by kernel_rfl)
theorem j62_15 (x2 x3 x8:D) (H:Heap) :
  J E 62 15 [x2,x3,x8] H =
  (fa 1 x3).bind fun v55=>(ld false 1 H v55).bind fun v56=>(ia 2 H v56 x8).bind fun v57=>(fa 0 v57).bind fun v58=>(ld false 1 H v58).bind fun v59=>(callFn E (exec E) .pure 140 [v59] H).bind fun r60=>(unOp .not r60.1).bind fun v61=>asB v61 fun t=>bif t then (ret_ r60.2 [some (D.bool false)]) else ((fa 1 x3).bind fun v62=>(ld false 1 r60.2 v62).bind fun v63=>(ia 2 r60.2 v63 x8).bind fun v64=>(fa 1 v64).bind fun v65=>(ld false 1 r60.2 v65).bind fun v66=>(fa 0 x2).bind fun v67=>(ld false 1 r60.2 v67).bind fun v68=>(lnL v68).bind fun v69=>(bI .sub v69 (D.int .i64 1)).bind fun v70=>(callFn E (exec E) .pure 63 [v66,(D.int .i64 0),v70] r60.2).bind fun r71=>(unOp .not r71.1).bind fun v72=>asB v72 fun t=>bif t then (ret_ r71.2 [some (D.bool false)]) else ((bI .gtr x8 (D.int .i64 0)).bind fun v73=>asB v73 fun t=>bif t then ((fa 1 x3).bind fun v74=>(ld false 1 r71.2 v74).bind fun v75=>(ia 2 r71.2 v75 x8).bind fun v76=>(fa 0 v76).bind fun v77=>(ld false 1 r71.2 v77).bind fun v78=>(fa 1 x3).bind fun v79=>(ld false 1 r71.2 v79).bind fun v80=>(bI .sub x8 (D.int .i64 1)).bind fun v81=>(ia 2 r71.2 v80 v81).bind fun v82=>(fa 0 v82).bind fun v83=>(ld false 1 r71.2 v83).bind fun v84=>(bS .leq v78 v84).bind fun v85=>asB v85 fun t=>bif t then (ret_ r71.2 [some (D.bool false)]) else ((bI .add x8 (D.int .i64 1)).bind fun v86=>J E 62 13 [x2,x3,v86] r71.2)) else ((bI .add x8 (D.int .i64 1)).bind fun v87=>J E 62 13 [x2,x3,v87] r71.2))):=
 (J_seg E 62 15 [2,8,13,15] 400 [x2,x3,x8] H).trans (by kernel_rfl)
theorem e63 (x0 x1 x2:D) (H:Heap) :
  ent E 63 [x0,x1,x2] H =
  (bI .geq x0 x1).bind fun v1=>asB v1 fun t=>bif t then ((bI .leq x0 x2).bind fun v2=>ret_ H [some v2]) else (ret_ H [some (D.bool false)]):=
 (ent_seg E 63 [] 400 [x0,x1,x2] H).trans (by kernel_rfl)
theorem e64 (x0:D) (H:Heap) :
  ent E 64 [x0] H =
  (bsl 3 [.sl0,.sl0,.int .i64 0] H 0 []).bind fun r1=>J E 64 3 [x0,r1.1,(D.int .i64 0)] r1.2:=
 (ent_seg E 64 [3] 400 [x0] H).trans (by kernel_rfl)
theorem j64_3 (x0 x3 x4:D) (H:Heap) :
  J E 64 3 [x0,x3,x4] H =
  (lnL x0).bind fun v2=>(bI .lss x4 v2).bind fun v3=>asB v3 fun t=>bif t then ((ia 3 H x0 x4).bind fun v4=>(ld true 3 H v4).bind fun v5=>alloc_ H [.sl0,.sl0,.int .i64 0] fun p6 H6=>(st 3 H6 p6 v5).bind fun H7=>(bsl 2 [.str [],.str []] H7 0 []).bind fun r8=>(fa 0 p6).bind fun v9=>(ld false 1 r8.2 v9).bind fun v10=>(app 2 32 r8.2 r8.1 v10).bind fun r11=>(fa 0 p6).bind fun v12=>(st 1 r11.2 v12 r11.1).bind fun H13=>(bsl 2 [.str [],.int .i64 0] H13 0 []).bind fun r14=>(fa 1 p6).bind fun v15=>(ld false 1 r14.2 v15).bind fun v16=>(app 2 24 r14.2 r14.1 v16).bind fun r17=>(fa 1 p6).bind fun v18=>(st 1 r17.2 v18 r17.1).bind fun H19=>(ld true 3 H19 p6).bind fun v20=>(bsl 3 [.sl0,.sl0,.int .i64 0] H19 1 [(0,v20)]).bind fun r21=>(app 3 56 r21.2 x3 r21.1).bind fun r22=>(bI .add x4 (D.int .i64 1)).bind fun v23=>J E 64 3 [x0,r22.1,v23] r22.2) else (ret_ H [some x3]):=
 (J_seg E 64 3 [3] 400 [x0,x3,x4] H).trans (by kernel_rfl)
theorem e65 (x0:D) (H:Heap) :
  ent E 65 [x0] H =
  (lnL x0).bind fun v1=>(mks 32 [.str [],.str []] H v1 v1).bind fun r2=>J E 65 3 [x0,r2.1,(D.int .i64 0)] r2.2:=
 (ent_seg E 65 [3] 400 [x0] H).trans (by kernel_rfl)
theorem j65_3 (x0 x3 x4:D) (H:Heap) :
  J E 65 3 [x0,x3,x4] H =
  (lnL x0).bind fun v3=>(bI .lss x4 v3).bind fun v4=>asB v4 fun t=>bif t then ((ia 2 H x0 x4).bind fun v5=>(ld true 2 H v5).bind fun v6=>(callFn E (exec E) .pure 142 [v6] H).bind fun r7=>(ia 2 r7.2 x3 x4).bind fun v8=>(st 2 r7.2 v8 r7.1).bind fun H9=>(bI .add x4 (D.int .i64 1)).bind fun v10=>J E 65 3 [x0,x3,v10] H9) else (ret_ H [some x3]):=
 (J_seg E 65 3 [3] 400 [x0,x3,x4] H).trans (by kernel_rfl)
theorem e66 (x0:D) (H:Heap) :
  ent E 66 [x0] H =
  (lnL x0).bind fun v1=>(mks 24 [.str [],.int .i64 0] H v1 v1).bind fun r2=>J E 66 3 [x0,r2.1,(D.int .i64 0)] r2.2:=
 (ent_seg E 66 [3] 400 [x0] H).trans (by kernel_rfl)
theorem j66_3 (x0 x3 x4:D) (H:Heap) :
  J E 66 3 [x0,x3,x4] H =
  (lnL x0).bind fun v3=>(bI .lss x4 v3).bind fun v4=>asB v4 fun t=>bif t then ((ia 2 H x0 x4).bind fun v5=>(ld true 2 H v5).bind fun v6=>(callFn E (exec E) .pure 143 [v6] H).bind fun r7=>(ia 2 r7.2 x3 x4).bind fun v8=>(st 2 r7.2 v8 r7.1).bind fun H9=>(bI .add x4 (D.int .i64 1)).bind fun v10=>J E 66 3 [x0,x3,v10] H9) else (ret_ H [some x3]):=
 (J_seg E 66 3 [3] 400 [x0,x3,x4] H).trans (by kernel_rfl)
theorem e67 (x0 x1 x2:D) (H:Heap) :
  ent E 67 [x0,x1,x2] H =
  (bI .leq x1 x0).bind fun v1=>asB v1 fun t=>bif t then ((bI .leq x0 x2).bind fun v2=>ret_ H [some v2]) else (ret_ H [some (D.bool false)]):=
 (ent_seg E 67 [] 400 [x0,x1,x2] H).trans (by kernel_rfl)
theorem e68 (x0 x1:D) (H:Heap) :
  ent E 68 [x0,x1] H =
  (callFn E (exec E) .raw 144 [x0,x1] H).bind fun r1=>(bI .geq r1.1 (D.int .i64 0)).bind fun v2=>ret_ r1.2 [some v2]:=
 (ent_seg E 68 [] 400 [x0,x1] H).trans (by kernel_rfl)
theorem e69 (x0 x1:D) (H:Heap) :
  ent E 69 [x0,x1] H =
  alloc_ H (D.cells x0) fun p1 H1=>(ld true 3 H1 p1).bind fun v2=>(ld false 1 H1 x1).bind fun v3=>(lnL v3).bind fun v4=>(callFn E (exec E) .pure 70 [v2,v4] H1).bind fun r5=>(unOp .not r5.1).bind fun v6=>ret_ r5.2 [some v6]:=
 (ent_seg E 69 [] 400 [x0,x1] H).trans (by kernel_rfl)
theorem e70 (x0 x1:D) (H:Heap) :
  ent E 70 [x0,x1] H =
  alloc_ H (D.cells x0) fun p1 H1=>(fa 0 p1).bind fun v2=>(ld false 1 H1 v2).bind fun v3=>(lnL v3).bind fun v4=>(bI .gtr v4 (D.int .i64 5)).bind fun v5=>asB v5 fun t=>bif t then (ret_ H1 [some (D.bool false)]) else ((fa 1 p1).bind fun v6=>(ld false 1 H1 v6).bind fun v7=>(lnL v7).bind fun v8=>(bI .gtr v8 (D.int .i64 4)).bind fun v9=>asB v9 fun t=>bif t then (ret_ H1 [some (D.bool false)]) else ((fa 2 p1).bind fun v10=>(ld false 1 H1 v10).bind fun v11=>(bI .sub x1 (D.int .i64 1)).bind fun v12=>(callFn E (exec E) .pure 67 [v11,(D.int .i64 (-1)),v12] H1).bind fun r13=>(unOp .not r13.1).bind fun v14=>asB v14 fun t=>bif t then (ret_ r13.2 [some (D.bool false)]) else ((fa 0 p1).bind fun v15=>(ld false 1 r13.2 v15).bind fun v16=>(lnL v16).bind fun v17=>J E 70 4 [x1,p1,v16,v17,(D.int .i64 0)] r13.2))):=
 (ent_seg E 70 [4,10,12] 400 [x0,x1] H).trans (by kernel_rfl)
theorem j70_4 (x1 x2 x28 x29 x30:D) (H:Heap) :
  J E 70 4 [x1,x2,x28,x29,x30] H =
  (bI .lss x30 x29).bind fun v18=>asB v18 fun t=>bif t then ((ia 2 H x28 x30).bind fun v19=>(ld true 2 H v19).bind fun v20=>alloc_ H [.str [],.str []] fun p21 H21=>(st 2 H21 p21 v20).bind fun H22=>(fa 0 p21).bind fun v23=>(ld false 1 H22 v23).bind fun v24=>(callFn E (exec E) .pure 121 [v24] H22).bind fun r25=>(unOp .not r25.1).bind fun v26=>asB v26 fun t=>bif t then (ret_ r25.2 [some (D.bool false)]) else ((fa 0 p21).bind fun v27=>(ld false 1 r25.2 v27).bind fun v28=>(callFn E (exec E) .pure 145 [v28] r25.2).bind fun r29=>asB r29.1 fun t=>bif t then (ret_ r29.2 [some (D.bool false)]) else ((fa 1 p21).bind fun v30=>(ld false 1 r29.2 v30).bind fun v31=>(lnS v31).bind fun v32=>(bI .gtr v32 (D.int .i64 900)).bind fun v33=>asB v33 fun t=>bif t then (ret_ r29.2 [some (D.bool false)]) else ((fa 0 x2).bind fun v34=>(ld false 1 r29.2 v34).bind fun v35=>(slL 2 r29.2 v35 none (some x30) none).bind fun v36=>(callFn E (exec E) .raw 146 [v36,(D.fn 147 [p21])] r29.2).bind fun r37=>asB r37.1 fun t=>bif t then (ret_ r37.2 [some (D.bool false)]) else ((bI .add x30 (D.int .i64 1)).bind fun v38=>J E 70 4 [x1,x2,x28,x29,v38] r37.2))))) else ((fa 1 x2).bind fun v39=>(ld false 1 H v39).bind fun v40=>(lnL v40).bind fun v41=>J E 70 10 [x1,x2,v40,v41,(D.int .i64 0)] H):=
 (J_seg E 70 4 [4,10,12] 400 [x1,x2,x28,x29,x30] H).trans (by kernel_rfl)
theorem j70_10 (x1 x2 x60 x61 x62:D) (H:Heap) :
  J E 70 10 [x1,x2,x60,x61,x62] H =
  (bI .lss x62 x61).bind fun v42=>asB v42 fun t=>bif t then ((ia 2 H x60 x62).bind fun v43=>(ld true 2 H v43).bind fun v44=>alloc_ H [.str [],.int .i64 0] fun p45 H45=>(st 2 H45 p45 v44).bind fun H46=>J E 70 12 [x1,x2,x62,p45,x60,x61,x62] H46) else (ret_ H [some (D.bool true)]):=
 (J_seg E 70 10 [4,10,12] 400 [x1,x2,x60,x61,x62] H).trans (by kernel_rfl)
theorem j70_12 (x1 x2 x7 x8 x60 x61 x62:D) (H:Heap) :
  J E 70 12 [x1,x2,x7,x8,x60,x61,x62] H =
  (fa 0 x8).bind fun v47=>(ld false 1 H v47).bind fun v48=>(callFn E (exec E) .pure 121 [v48] H).bind fun r49=>(unOp .not r49.1).bind fun v50=>asB v50 fun t=>bif t then (ret_ r49.2 [some (D.bool false)]) else ((fa 1 x8).bind fun v51=>(ld false 1 r49.2 v51).bind fun v52=>(bI .sub x1 (D.int .i64 1)).bind fun v53=>(callFn E (exec E) .pure 67 [v52,(D.int .i64 0),v53] r49.2).bind fun r54=>(unOp .not r54.1).bind fun v55=>asB v55 fun t=>bif t then (ret_ r54.2 [some (D.bool false)]) else ((bI .gtr x7 (D.int .i64 0)).bind fun v56=>asB v56 fun t=>bif t then ((fa 1 x2).bind fun v57=>(ld false 1 r54.2 v57).bind fun v58=>(bI .sub x7 (D.int .i64 1)).bind fun v59=>(ia 2 r54.2 v58 v59).bind fun v60=>(fa 0 v60).bind fun v61=>(ld false 1 r54.2 v61).bind fun v62=>(fa 0 x8).bind fun v63=>(ld false 1 r54.2 v63).bind fun v64=>(bS .geq v62 v64).bind fun v65=>asB v65 fun t=>bif t then (ret_ r54.2 [some (D.bool false)]) else ((bI .add x62 (D.int .i64 1)).bind fun v66=>J E 70 10 [x1,x2,x60,x61,v66] r54.2)) else ((bI .add x62 (D.int .i64 1)).bind fun v67=>J E 70 10 [x1,x2,x60,x61,v67] r54.2))):=
 (J_seg E 70 12 [4,10,12] 400 [x1,x2,x7,x8,x60,x61,x62] H).trans (by kernel_rfl)
theorem e71 (x0:D) (H:Heap) :
  ent E 71 [x0] H =
  (nilOp .eql x0).bind fun v1=>asE v1 fun t=>bif t then (ret_ H [some D.sl0]) else ((bsl 3 [.sl0,.sl0,.int .i64 0] H 0 []).bind fun r2=>(app 3 56 r2.2 r2.1 x0).bind fun r3=>ret_ r3.2 [some r3.1]):=
 (ent_seg E 71 [] 400 [x0] H).trans (by kernel_rfl)
theorem e72 (x0:D) (H:Heap) :
  ent E 72 [x0] H =
  (nilOp .eql x0).bind fun v1=>asE v1 fun t=>bif t then (ret_ H [some D.sl0]) else ((bsl 2 [.str [],.str []] H 0 []).bind fun r2=>(app 2 32 r2.2 r2.1 x0).bind fun r3=>ret_ r3.2 [some r3.1]):=
 (ent_seg E 72 [] 400 [x0] H).trans (by kernel_rfl)
theorem e73 (x0:D) (H:Heap) :
  ent E 73 [x0] H =
  (nilOp .eql x0).bind fun v1=>asE v1 fun t=>bif t then (ret_ H [some D.sl0]) else ((bsl 2 [.str [],.int .i64 0] H 0 []).bind fun r2=>(app 2 24 r2.2 r2.1 x0).bind fun r3=>ret_ r3.2 [some r3.1]):=
 (ent_seg E 73 [] 400 [x0] H).trans (by kernel_rfl)
theorem e74 (x0 x1:D) (H:Heap) :
  ent E 74 [x0,x1] H =
  alloc_ H (D.cells x0) fun p1 H1=>alloc_ H1 (D.cells x1) fun p2 H2=>(fa 0 p1).bind fun v3=>(ld false 1 H2 v3).bind fun v4=>(fa 0 p2).bind fun v5=>(ld false 1 H2 v5).bind fun v6=>(bS .neq v4 v6).bind fun v7=>asB v7 fun t=>bif t then (ret_ H2 [some (D.bool false)]) else ((fa 1 p1).bind fun v8=>(ld false 1 H2 v8).bind fun v9=>(fa 1 p2).bind fun v10=>(ld false 1 H2 v10).bind fun v11=>(bI .neq v9 v11).bind fun v12=>asB v12 fun t=>bif t then (ret_ H2 [some (D.bool false)]) else ((fa 2 p1).bind fun v13=>(ld true 7 H2 v13).bind fun v14=>(fa 2 p2).bind fun v15=>(ld true 7 H2 v15).bind fun v16=>(callFn E (exec E) .pure 18 [v14,v16] H2).bind fun r17=>(unOp .not r17.1).bind fun v18=>asB v18 fun t=>bif t then (ret_ r17.2 [some (D.bool false)]) else ((fa 9 p1).bind fun v19=>(ld false 1 r17.2 v19).bind fun v20=>(fa 9 p2).bind fun v21=>(ld false 1 r17.2 v21).bind fun v22=>(bI .neq v20 v22).bind fun v23=>asB v23 fun t=>bif t then (ret_ r17.2 [some (D.bool false)]) else ((fa 10 p1).bind fun v24=>(ld false 1 r17.2 v24).bind fun v25=>(fa 10 p2).bind fun v26=>(ld false 1 r17.2 v26).bind fun v27=>(callFn E (exec E) .pure 57 [v25,v27] r17.2).bind fun r28=>(unOp .not r28.1).bind fun v29=>asB v29 fun t=>bif t then (ret_ r28.2 [some (D.bool false)]) else ((fa 11 p1).bind fun v30=>(ld false 1 r28.2 v30).bind fun v31=>(fa 11 p2).bind fun v32=>(ld false 1 r28.2 v32).bind fun v33=>(bI .neq v31 v33).bind fun v34=>asB v34 fun t=>bif t then (ret_ r28.2 [some (D.bool false)]) else ((fa 12 p1).bind fun v35=>(ld false 1 r28.2 v35).bind fun v36=>(fa 12 p2).bind fun v37=>(ld false 1 r28.2 v37).bind fun v38=>(bI .neq v36 v38).bind fun v39=>asB v39 fun t=>bif t then (ret_ r28.2 [some (D.bool false)]) else ((fa 13 p1).bind fun v40=>(ld false 1 r28.2 v40).bind fun v41=>(fa 13 p2).bind fun v42=>(ld false 1 r28.2 v42).bind fun v43=>(callFn E (exec E) .pure 148 [v41,v43] r28.2).bind fun r44=>(unOp .not r44.1).bind fun v45=>asB v45 fun t=>bif t then (ret_ r44.2 [some (D.bool false)]) else ((fa 14 p1).bind fun v46=>(ld false 1 r44.2 v46).bind fun v47=>(fa 14 p2).bind fun v48=>(ld false 1 r44.2 v48).bind fun v49=>(callFn E (exec E) .pure 149 [v47,v49] r44.2).bind fun r50=>(unOp .not r50.1).bind fun v51=>asB v51 fun t=>bif t then (ret_ r50.2 [some (D.bool false)]) else ((fa 15 p1).bind fun v52=>(ld false 1 r50.2 v52).bind fun v53=>(fa 15 p2).bind fun v54=>(ld false 1 r50.2 v54).bind fun v55=>(callFn E (exec E) .pure 150 [v53,v55] r50.2).bind fun r56=>(unOp .not r56.1).bind fun v57=>asB v57 fun t=>bif t then (ret_ r56.2 [some (D.bool false)]) else (ret_ r56.2 [some (D.bool true)])))))))))):=
 (ent_seg E 74 [] 400 [x0,x1] H).trans (by kernel_rfl)
theorem e75 (x0 x1:D) (H:Heap) :
  ent E 75 [x0,x1] H =
  alloc_ H (D.cells x0) fun p1 H1=>alloc_ H1 (D.cells x1) fun p2 H2=>(fa 0 p1).bind fun v3=>(ld false 1 H2 v3).bind fun v4=>(fa 0 p2).bind fun v5=>(ld false 1 H2 v5).bind fun v6=>(bI .neq v4 v6).bind fun v7=>asB v7 fun t=>bif t then (ret_ H2 [some (D.bool false)]) else ((fa 1 p1).bind fun v8=>(ld false 1 H2 v8).bind fun v9=>(fa 1 p2).bind fun v10=>(ld false 1 H2 v10).bind fun v11=>(bS .neq v9 v11).bind fun v12=>asB v12 fun t=>bif t then (ret_ H2 [some (D.bool false)]) else ((fa 2 p1).bind fun v13=>(ld false 1 H2 v13).bind fun v14=>(fa 2 p2).bind fun v15=>(ld false 1 H2 v15).bind fun v16=>(bI .neq v14 v16).bind fun v17=>asB v17 fun t=>bif t then (ret_ H2 [some (D.bool false)]) else (ret_ H2 [some (D.bool true)]))):=
 (ent_seg E 75 [] 400 [x0,x1] H).trans (by kernel_rfl)
theorem e76 (x0 x1:D) (H:Heap) :
  ent E 76 [x0,x1] H =
  alloc_ H (D.cells x0) fun p1 H1=>alloc_ H1 (D.cells x1) fun p2 H2=>(fa 0 p1).bind fun v3=>(ld false 1 H2 v3).bind fun v4=>(fa 0 p2).bind fun v5=>(ld false 1 H2 v5).bind fun v6=>(bS .neq v4 v6).bind fun v7=>asB v7 fun t=>bif t then (ret_ H2 [some (D.bool false)]) else ((fa 1 p1).bind fun v8=>(ld false 1 H2 v8).bind fun v9=>(fa 1 p2).bind fun v10=>(ld false 1 H2 v10).bind fun v11=>(callFn E (exec E) .pure 57 [v9,v11] H2).bind fun r12=>(unOp .not r12.1).bind fun v13=>asB v13 fun t=>bif t then (ret_ r12.2 [some (D.bool false)]) else ((fa 2 p1).bind fun v14=>(ld false 1 r12.2 v14).bind fun v15=>(fa 2 p2).bind fun v16=>(ld false 1 r12.2 v16).bind fun v17=>(bI .neq v15 v17).bind fun v18=>asB v18 fun t=>bif t then (ret_ r12.2 [some (D.bool false)]) else (ret_ r12.2 [some (D.bool true)]))):=
 (ent_seg E 76 [] 400 [x0,x1] H).trans (by kernel_rfl)
theorem e77 (x0 x1:D) (H:Heap) :
  ent E 77 [x0,x1] H =
  (lnL x0).bind fun v1=>(lnL x1).bind fun v2=>(bI .neq v1 v2).bind fun v3=>asB v3 fun t=>bif t then (ret_ H [some (D.bool false)]) else (J E 77 4 [x0,x1,(D.int .i64 0)] H):=
 (ent_seg E 77 [4] 400 [x0,x1] H).trans (by kernel_rfl)
theorem j77_4 (x0 x1 x5:D) (H:Heap) :
  J E 77 4 [x0,x1,x5] H =
  (lnL x0).bind fun v4=>(bI .lss x5 v4).bind fun v5=>asB v5 fun t=>bif t then ((ia 2 H x0 x5).bind fun v6=>(ld true 2 H v6).bind fun v7=>(ia 2 H x1 x5).bind fun v8=>(ld true 2 H v8).bind fun v9=>(callFn E (exec E) .pure 151 [v7,v9] H).bind fun r10=>(unOp .not r10.1).bind fun v11=>asB v11 fun t=>bif t then (ret_ r10.2 [some (D.bool false)]) else ((bI .add x5 (D.int .i64 1)).bind fun v12=>J E 77 4 [x0,x1,v12] r10.2)) else (ret_ H [some (D.bool true)]):=
 (J_seg E 77 4 [4] 400 [x0,x1,x5] H).trans (by kernel_rfl)
theorem e78 (x0 x1:D) (H:Heap) :
  ent E 78 [x0,x1] H =
  (lnL x0).bind fun v1=>(lnL x1).bind fun v2=>(bI .neq v1 v2).bind fun v3=>asB v3 fun t=>bif t then (ret_ H [some (D.bool false)]) else (J E 78 4 [x0,x1,(D.int .i64 0)] H):=
 (ent_seg E 78 [4] 400 [x0,x1] H).trans (by kernel_rfl)
theorem j78_4 (x0 x1 x5:D) (H:Heap) :
  J E 78 4 [x0,x1,x5] H =
  (lnL x0).bind fun v4=>(bI .lss x5 v4).bind fun v5=>asB v5 fun t=>bif t then ((ia 2 H x0 x5).bind fun v6=>(ld true 2 H v6).bind fun v7=>(ia 2 H x1 x5).bind fun v8=>(ld true 2 H v8).bind fun v9=>(callFn E (exec E) .pure 152 [v7,v9] H).bind fun r10=>(unOp .not r10.1).bind fun v11=>asB v11 fun t=>bif t then (ret_ r10.2 [some (D.bool false)]) else ((bI .add x5 (D.int .i64 1)).bind fun v12=>J E 78 4 [x0,x1,v12] r10.2)) else (ret_ H [some (D.bool true)]):=
 (J_seg E 78 4 [4] 400 [x0,x1,x5] H).trans (by kernel_rfl)
theorem e79 (x0:D) (H:Heap) :
  ent E 79 [x0] H =
  (bI .leq x0 (D.int .i64 0)).bind fun v1=>asB v1 fun t=>bif t then (ret_ H [some (D.str [109,48])]) else (J E 79 4 [x0,(D.str [])] H):=
 (ent_seg E 79 [4] 400 [x0] H).trans (by kernel_rfl)
theorem j79_4 (x0 x3:D) (H:Heap) :
  J E 79 4 [x0,x3] H =
  (bI .gtr x0 (D.int .i64 0)).bind fun v2=>asB v2 fun t=>bif t then ((bI .rem x0 (D.int .i64 10)).bind fun v3=>(bI .add (D.int .i64 48) v3).bind fun v4=>(cI .u8 v4).bind fun v5=>(bsl 1 [.int .u8 0] H 1 [(0,v5)]).bind fun r6=>(cBS r6.2 r6.1).bind fun r7=>(bS .add r7.1 x3).bind fun v8=>(bI .quo x0 (D.int .i64 10)).bind fun v9=>J E 79 4 [v9,v8] r7.2) else ((bS .add (D.str [109]) x3).bind fun v10=>ret_ H [some v10]):=
 (J_seg E 79 4 [4] 400 [x0,x3] H).trans (by kernel_rfl)
theorem e80 (x0 x1:D) (H:Heap) :
  ent E 80 [x0,x1] H =
  J E 80 2 [x0,x1,(D.int .i64 0)] H:=
 (ent_seg E 80 [2] 400 [x0,x1] H).trans (by kernel_rfl)
theorem j80_2 (x0 x1 x5:D) (H:Heap) :
  J E 80 2 [x0,x1,x5] H =
  (lnL x0).bind fun v1=>(bI .lss x5 v1).bind fun v2=>asB v2 fun t=>bif t then ((ia 4 H x0 x5).bind fun v3=>(fa 0 v3).bind fun v4=>(st 1 H v4 x1).bind fun H5=>(bI .add x1 (D.int .i64 1)).bind fun v6=>(callFn E (exec E) .pure 79 [v6] H5).bind fun r7=>(ia 4 r7.2 x0 x5).bind fun v8=>(fa 1 v8).bind fun v9=>(st 1 r7.2 v9 r7.1).bind fun H10=>(bI .add v6 (D.int .i64 1)).bind fun v11=>(ia 4 H10 x0 x5).bind fun v12=>(fa 2 v12).bind fun v13=>(st 1 H10 v13 v11).bind fun H14=>(bI .add v11 (D.int .i64 1)).bind fun v15=>(ia 4 H14 x0 x5).bind fun v16=>(fa 3 v16).bind fun v17=>(st 1 H14 v17 v15).bind fun H18=>(bI .add v15 (D.int .i64 1)).bind fun v19=>(bI .add x5 (D.int .i64 1)).bind fun v20=>J E 80 2 [x0,v19,v20] H18) else (ret_ H [some x1]):=
 (J_seg E 80 2 [2] 400 [x0,x1,x5] H).trans (by kernel_rfl)
theorem e81 (x0 x1:D) (H:Heap) :
  ent E 81 [x0,x1] H =
  J E 81 2 [x0,x1,(D.int .i64 0)] H:=
 (ent_seg E 81 [2] 400 [x0,x1] H).trans (by kernel_rfl)
theorem j81_2 (x0 x1 x5:D) (H:Heap) :
  J E 81 2 [x0,x1,x5] H =
  (lnL x0).bind fun v1=>(bI .lss x5 v1).bind fun v2=>asB v2 fun t=>bif t then ((ia 1 H x0 x5).bind fun v3=>(st 1 H v3 x1).bind fun H4=>(bI .add x1 (D.int .i64 1)).bind fun v5=>(bI .add x5 (D.int .i64 1)).bind fun v6=>J E 81 2 [x0,v5,v6] H4) else (ret_ H [some x1]):=
 (J_seg E 81 2 [2] 400 [x0,x1,x5] H).trans (by kernel_rfl)
theorem e82 (x0 x1:D) (H:Heap) :
  ent E 82 [x0,x1] H =
  J E 82 2 [x0,x1,(D.int .i64 0)] H:=
 (ent_seg E 82 [2] 400 [x0,x1] H).trans (by kernel_rfl)
theorem j82_2 (x0 x1 x5:D) (H:Heap) :
  J E 82 2 [x0,x1,x5] H =
  (lnL x0).bind fun v1=>(bI .lss x5 v1).bind fun v2=>asB v2 fun t=>bif t then ((ia 3 H x0 x5).bind fun v3=>(fa 0 v3).bind fun v4=>(st 1 H v4 x1).bind fun H5=>(bI .add x1 (D.int .i64 1)).bind fun v6=>(ia 3 H5 x0 x5).bind fun v7=>(fa 1 v7).bind fun v8=>(st 1 H5 v8 v6).bind fun H9=>(bI .add v6 (D.int .i64 1)).bind fun v10=>(ia 3 H9 x0 x5).bind fun v11=>(fa 2 v11).bind fun v12=>(st 1 H9 v12 v10).bind fun H13=>(bI .add v10 (D.int .i64 1)).bind fun v14=>(bI .add x5 (D.int .i64 1)).bind fun v15=>J E 82 2 [x0,v14,v15] H13) else (ret_ H [some x1]):=
 (J_seg E 82 2 [2] 400 [x0,x1,x5] H).trans (by kernel_rfl)
theorem e83 (x0 x1:D) (H:Heap) :
  ent E 83 [x0,x1] H =
  J E 83 2 [x0,x1,(D.int .i64 0)] H:=
 (ent_seg E 83 [2] 400 [x0,x1] H).trans (by kernel_rfl)
theorem j83_2 (x0 x1 x5:D) (H:Heap) :
  J E 83 2 [x0,x1,x5] H =
  (lnL x0).bind fun v1=>(bI .lss x5 v1).bind fun v2=>asB v2 fun t=>bif t then ((ia 8 H x0 x5).bind fun v3=>(fa 0 v3).bind fun v4=>(st 1 H v4 x1).bind fun H5=>(bI .add x1 (D.int .i64 1)).bind fun v6=>(ia 8 H5 x0 x5).bind fun v7=>(fa 1 v7).bind fun v8=>(st 1 H5 v8 v6).bind fun H9=>(bI .add v6 (D.int .i64 1)).bind fun v10=>(ia 8 H9 x0 x5).bind fun v11=>(fa 2 v11).bind fun v12=>(st 1 H9 v12 v10).bind fun H13=>(bI .add v10 (D.int .i64 1)).bind fun v14=>(ia 8 H13 x0 x5).bind fun v15=>(fa 3 v15).bind fun v16=>(st 1 H13 v16 v14).bind fun H17=>(bI .add v14 (D.int .i64 1)).bind fun v18=>(ia 8 H17 x0 x5).bind fun v19=>(fa 4 v19).bind fun v20=>(st 1 H17 v20 v18).bind fun H21=>(bI .add v18 (D.int .i64 1)).bind fun v22=>(callFn E (exec E) .pure 79 [v22] H21).bind fun r23=>(ia 8 r23.2 x0 x5).bind fun v24=>(fa 5 v24).bind fun v25=>(st 1 r23.2 v25 r23.1).bind fun H26=>(bI .add v22 (D.int .i64 1)).bind fun v27=>(ia 8 H26 x0 x5).bind fun v28=>(fa 6 v28).bind fun v29=>(ld false 1 H26 v29).bind fun v30=>(callFn E (exec E) .raw 153 [v30,v27] H26).bind fun r31=>(ia 8 r31.2 x0 x5).bind fun v32=>(fa 7 v32).bind fun v33=>(ld false 1 r31.2 v33).bind fun v34=>(callFn E (exec E) .raw 154 [v34,r31.1] r31.2).bind fun r35=>(bI .add x5 (D.int .i64 1)).bind fun v36=>J E 83 2 [x0,r35.1,v36] r35.2) else (ret_ H [some x1]):=
 (J_seg E 83 2 [2] 400 [x0,x1,x5] H).trans (by kernel_rfl)
theorem e84 (x0 x1:D) (H:Heap) :
  ent E 84 [x0,x1] H =
  J E 84 2 [x0,x1,(D.int .i64 0)] H:=
 (ent_seg E 84 [2] 400 [x0,x1] H).trans (by kernel_rfl)
theorem j84_2 (x0 x1 x5:D) (H:Heap) :
  J E 84 2 [x0,x1,x5] H =
  (lnL x0).bind fun v1=>(bI .lss x5 v1).bind fun v2=>asB v2 fun t=>bif t then ((ia 2 H x0 x5).bind fun v3=>(fa 0 v3).bind fun v4=>(st 1 H v4 x1).bind fun H5=>(bI .add x1 (D.int .i64 1)).bind fun v6=>(ia 2 H5 x0 x5).bind fun v7=>(fa 1 v7).bind fun v8=>(st 1 H5 v8 v6).bind fun H9=>(bI .add v6 (D.int .i64 1)).bind fun v10=>(bI .add x5 (D.int .i64 1)).bind fun v11=>J E 84 2 [x0,v10,v11] H9) else (ret_ H [some x1]):=
 (J_seg E 84 2 [2] 400 [x0,x1,x5] H).trans (by kernel_rfl)
theorem e85 (x0 x1:D) (H:Heap) :
  ent E 85 [x0,x1] H =
  J E 85 2 [x0,x1,(D.int .i64 0)] H:=
 (ent_seg E 85 [2] 400 [x0,x1] H).trans (by kernel_rfl)
theorem j85_2 (x0 x1 x5:D) (H:Heap) :
  J E 85 2 [x0,x1,x5] H =
  (lnL x0).bind fun v1=>(bI .lss x5 v1).bind fun v2=>asB v2 fun t=>bif t then ((callFn E (exec E) .pure 79 [x1] H).bind fun r3=>(ia 4 r3.2 x0 x5).bind fun v4=>(fa 0 v4).bind fun v5=>(st 1 r3.2 v5 r3.1).bind fun H6=>(bI .add x1 (D.int .i64 1)).bind fun v7=>(callFn E (exec E) .pure 79 [v7] H6).bind fun r8=>(ia 4 r8.2 x0 x5).bind fun v9=>(fa 1 v9).bind fun v10=>(st 1 r8.2 v10 r8.1).bind fun H11=>(bI .add v7 (D.int .i64 1)).bind fun v12=>(ia 4 H11 x0 x5).bind fun v13=>(fa 2 v13).bind fun v14=>(st 1 H11 v14 v12).bind fun H15=>(bI .add v12 (D.int .i64 1)).bind fun v16=>(ia 4 H15 x0 x5).bind fun v17=>(fa 3 v17).bind fun v18=>(st 1 H15 v18 v16).bind fun H19=>(bI .add v16 (D.int .i64 1)).bind fun v20=>(bI .add x5 (D.int .i64 1)).bind fun v21=>J E 85 2 [x0,v20,v21] H19) else (ret_ H [some x1]):=
 (J_seg E 85 2 [2] 400 [x0,x1,x5] H).trans (by kernel_rfl)
theorem e86 (x0 x1:D) (H:Heap) :
  ent E 86 [x0,x1] H =
  J E 86 2 [x0,x1,(D.int .i64 0)] H:=
 (ent_seg E 86 [2] 400 [x0,x1] H).trans (by kernel_rfl)
theorem j86_2 (x0 x1 x5:D) (H:Heap) :
  J E 86 2 [x0,x1,x5] H =
  (lnL x0).bind fun v1=>(bI .lss x5 v1).bind fun v2=>asB v2 fun t=>bif t then ((ia 2 H x0 x5).bind fun v3=>(fa 0 v3).bind fun v4=>(st 1 H v4 x1).bind fun H5=>(bI .add x1 (D.int .i64 1)).bind fun v6=>(ia 2 H5 x0 x5).bind fun v7=>(fa 1 v7).bind fun v8=>(st 1 H5 v8 v6).bind fun H9=>(bI .add v6 (D.int .i64 1)).bind fun v10=>(bI .add x5 (D.int .i64 1)).bind fun v11=>J E 86 2 [x0,v10,v11] H9) else (ret_ H [some x1]):=
 (J_seg E 86 2 [2] 400 [x0,x1,x5] H).trans (by kernel_rfl)
theorem e87 (x0 x1:D) (H:Heap) :
  ent E 87 [x0,x1] H =
  J E 87 2 [x0,x1,(D.int .i64 0)] H:=
 (ent_seg E 87 [2] 400 [x0,x1] H).trans (by kernel_rfl)
theorem j87_2 (x0 x1 x5:D) (H:Heap) :
  J E 87 2 [x0,x1,x5] H =
  (lnL x0).bind fun v1=>(bI .lss x5 v1).bind fun v2=>asB v2 fun t=>bif t then ((ia 2 H x0 x5).bind fun v3=>(fa 0 v3).bind fun v4=>(ld false 1 H v4).bind fun v5=>(callFn E (exec E) .pure 79 [x1] H).bind fun r6=>(bS .neq v5 r6.1).bind fun v7=>asB v7 fun t=>bif t then (ret_ r6.2 [some (D.int .i64 (-1))]) else ((bI .add x1 (D.int .i64 1)).bind fun v8=>(ia 2 r6.2 x0 x5).bind fun v9=>(fa 1 v9).bind fun v10=>(ld false 1 r6.2 v10).bind fun v11=>(callFn E (exec E) .pure 79 [v8] r6.2).bind fun r12=>(bS .neq v11 r12.1).bind fun v13=>asB v13 fun t=>bif t then (ret_ r12.2 [some (D.int .i64 (-1))]) else ((bI .add v8 (D.int .i64 1)).bind fun v14=>(bI .add x5 (D.int .i64 1)).bind fun v15=>J E 87 2 [x0,v14,v15] r12.2))) else (ret_ H [some x1]):=
 (J_seg E 87 2 [2] 400 [x0,x1,x5] H).trans (by kernel_rfl)
theorem e88 (x0 x1:D) (H:Heap) :
  ent E 88 [x0,x1] H =
  J E 88 2 [x0,x1,(D.int .i64 0)] H:=
 (ent_seg E 88 [2] 400 [x0,x1] H).trans (by kernel_rfl)
theorem j88_2 (x0 x1 x5:D) (H:Heap) :
  J E 88 2 [x0,x1,x5] H =
  (lnL x0).bind fun v1=>(bI .lss x5 v1).bind fun v2=>asB v2 fun t=>bif t then ((ia 2 H x0 x5).bind fun v3=>(fa 0 v3).bind fun v4=>(ld false 1 H v4).bind fun v5=>(callFn E (exec E) .pure 79 [x1] H).bind fun r6=>(bS .neq v5 r6.1).bind fun v7=>asB v7 fun t=>bif t then (ret_ r6.2 [some (D.int .i64 (-1))]) else ((bI .add x1 (D.int .i64 1)).bind fun v8=>(ia 2 r6.2 x0 x5).bind fun v9=>(fa 1 v9).bind fun v10=>(ld false 1 r6.2 v10).bind fun v11=>(bI .neq v11 v8).bind fun v12=>asB v12 fun t=>bif t then (ret_ r6.2 [some (D.int .i64 (-1))]) else ((bI .add v8 (D.int .i64 1)).bind fun v13=>(bI .add x5 (D.int .i64 1)).bind fun v14=>J E 88 2 [x0,v13,v14] r6.2))) else (ret_ H [some x1]):=
 (J_seg E 88 2 [2] 400 [x0,x1,x5] H).trans (by kernel_rfl)
theorem e89 (x0 x1:D) (H:Heap) :
  ent E 89 [x0,x1] H =
  J E 89 2 [x0,x1,(D.int .i64 0)] H:=
 (ent_seg E 89 [2] 400 [x0,x1] H).trans (by kernel_rfl)
theorem j89_2 (x0 x1 x5:D) (H:Heap) :
  J E 89 2 [x0,x1,x5] H =
  (lnL x0).bind fun v1=>(bI .lss x5 v1).bind fun v2=>asB v2 fun t=>bif t then ((ia 4 H x0 x5).bind fun v3=>(fa 0 v3).bind fun v4=>(ld false 1 H v4).bind fun v5=>(bI .neq v5 x1).bind fun v6=>asB v6 fun t=>bif t then (ret_ H [some (D.int .i64 (-1))]) else ((bI .add x1 (D.int .i64 1)).bind fun v7=>(ia 4 H x0 x5).bind fun v8=>(fa 1 v8).bind fun v9=>(ld false 1 H v9).bind fun v10=>(callFn E (exec E) .pure 79 [v7] H).bind fun r11=>(bS .neq v10 r11.1).bind fun v12=>asB v12 fun t=>bif t then (ret_ r11.2 [some (D.int .i64 (-1))]) else ((bI .add v7 (D.int .i64 1)).bind fun v13=>(ia 4 r11.2 x0 x5).bind fun v14=>(fa 2 v14).bind fun v15=>(ld false 1 r11.2 v15).bind fun v16=>(bI .neq v16 v13).bind fun v17=>asB v17 fun t=>bif t then (ret_ r11.2 [some (D.int .i64 (-1))]) else ((bI .add v13 (D.int .i64 1)).bind fun v18=>(ia 4 r11.2 x0 x5).bind fun v19=>(fa 3 v19).bind fun v20=>(ld false 1 r11.2 v20).bind fun v21=>(bI .neq v21 v18).bind fun v22=>asB v22 fun t=>bif t then (ret_ r11.2 [some (D.int .i64 (-1))]) else ((bI .add v18 (D.int .i64 1)).bind fun v23=>(bI .add x5 (D.int .i64 1)).bind fun v24=>J E 89 2 [x0,v23,v24] r11.2))))) else (ret_ H [some x1]):=
 (J_seg E 89 2 [2] 400 [x0,x1,x5] H).trans (by kernel_rfl)
theorem e90 (x0 x1:D) (H:Heap) :
  ent E 90 [x0,x1] H =
  J E 90 2 [x0,x1,(D.int .i64 0)] H:=
 (ent_seg E 90 [2] 400 [x0,x1] H).trans (by kernel_rfl)
theorem j90_2 (x0 x1 x5:D) (H:Heap) :
  J E 90 2 [x0,x1,x5] H =
  (lnL x0).bind fun v1=>(bI .lss x5 v1).bind fun v2=>asB v2 fun t=>bif t then ((ia 1 H x0 x5).bind fun v3=>(ld false 1 H v3).bind fun v4=>(bI .neq v4 x1).bind fun v5=>asB v5 fun t=>bif t then (ret_ H [some (D.int .i64 (-1))]) else ((bI .add x1 (D.int .i64 1)).bind fun v6=>(bI .add x5 (D.int .i64 1)).bind fun v7=>J E 90 2 [x0,v6,v7] H)) else (ret_ H [some x1]):=
 (J_seg E 90 2 [2] 400 [x0,x1,x5] H).trans (by kernel_rfl)
theorem e91 (x0 x1:D) (H:Heap) :
  ent E 91 [x0,x1] H =
  J E 91 2 [x0,x1,(D.int .i64 0)] H:=
 (ent_seg E 91 [2] 400 [x0,x1] H).trans (by kernel_rfl)
theorem j91_2 (x0 x1 x5:D) (H:Heap) :
  J E 91 2 [x0,x1,x5] H =
  (lnL x0).bind fun v1=>(bI .lss x5 v1).bind fun v2=>asB v2 fun t=>bif t then ((ia 3 H x0 x5).bind fun v3=>(fa 0 v3).bind fun v4=>(ld false 1 H v4).bind fun v5=>(bI .neq v5 x1).bind fun v6=>asB v6 fun t=>bif t then (ret_ H [some (D.int .i64 (-1))]) else ((bI .add x1 (D.int .i64 1)).bind fun v7=>(ia 3 H x0 x5).bind fun v8=>(fa 1 v8).bind fun v9=>(ld false 1 H v9).bind fun v10=>(bI .neq v10 v7).bind fun v11=>asB v11 fun t=>bif t then (ret_ H [some (D.int .i64 (-1))]) else ((bI .add v7 (D.int .i64 1)).bind fun v12=>(ia 3 H x0 x5).bind fun v13=>(fa 2 v13).bind fun v14=>(ld false 1 H v14).bind fun v15=>(bI .neq v15 v12).bind fun v16=>asB v16 fun t=>bif t then (ret_ H [some (D.int .i64 (-1))]) else ((bI .add v12 (D.int .i64 1)).bind fun v17=>(bI .add x5 (D.int .i64 1)).bind fun v18=>J E 91 2 [x0,v17,v18] H)))) else (ret_ H [some x1]):=
 (J_seg E 91 2 [2] 400 [x0,x1,x5] H).trans (by kernel_rfl)
theorem e92 (x0 x1:D) (H:Heap) :
  ent E 92 [x0,x1] H =
  J E 92 2 [x0,x1,(D.int .i64 0)] H:=
 (ent_seg E 92 [2] 400 [x0,x1] H).trans (by kernel_rfl)
theorem j92_2 (x0 x1 x5:D) (H:Heap) :
  J E 92 2 [x0,x1,x5] H =
  (lnL x0).bind fun v1=>(bI .lss x5 v1).bind fun v2=>asB v2 fun t=>bif t then ((ia 8 H x0 x5).bind fun v3=>(fa 0 v3).bind fun v4=>(ld false 1 H v4).bind fun v5=>(bI .neq v5 x1).bind fun v6=>asB v6 fun t=>bif t then (ret_ H [some (D.int .i64 (-1))]) else ((bI .add x1 (D.int .i64 1)).bind fun v7=>(ia 8 H x0 x5).bind fun v8=>(fa 1 v8).bind fun v9=>(ld false 1 H v9).bind fun v10=>(bI .neq v10 v7).bind fun v11=>asB v11 fun t=>bif t then (ret_ H [some (D.int .i64 (-1))]) else ((bI .add v7 (D.int .i64 1)).bind fun v12=>(ia 8 H x0 x5).bind fun v13=>(fa 2 v13).bind fun v14=>(ld false 1 H v14).bind fun v15=>(bI .neq v15 v12).bind fun v16=>asB v16 fun t=>bif t then (ret_ H [some (D.int .i64 (-1))]) else ((bI .add v12 (D.int .i64 1)).bind fun v17=>(ia 8 H x0 x5).bind fun v18=>(fa 3 v18).bind fun v19=>(ld false 1 H v19).bind fun v20=>(bI .neq v20 v17).bind fun v21=>asB v21 fun t=>bif t then (ret_ H [some (D.int .i64 (-1))]) else ((bI .add v17 (D.int .i64 1)).bind fun v22=>(ia 8 H x0 x5).bind fun v23=>(fa 4 v23).bind fun v24=>(ld false 1 H v24).bind fun v25=>(bI .neq v25 v22).bind fun v26=>asB v26 fun t=>bif t then (ret_ H [some (D.int .i64 (-1))]) else ((bI .add v22 (D.int .i64 1)).bind fun v27=>(ia 8 H x0 x5).bind fun v28=>(fa 5 v28).bind fun v29=>(ld false 1 H v29).bind fun v30=>(callFn E (exec E) .pure 79 [v27] H).bind fun r31=>(bS .neq v30 r31.1).bind fun v32=>asB v32 fun t=>bif t then (ret_ r31.2 [some (D.int .i64 (-1))]) else ((bI .add v27 (D.int .i64 1)).bind fun v33=>(ia 8 r31.2 x0 x5).bind fun v34=>(fa 6 v34).bind fun v35=>(ld false 1 r31.2 v35).bind fun v36=>(callFn E (exec E) .pure 155 [v36,v33] r31.2).bind fun r37=>(bI .lss r37.1 (D.int .i64 0)).bind fun v38=>asB v38 fun t=>bif t then (ret_ r37.2 [some (D.int .i64 (-1))]) else ((ia 8 r37.2 x0 x5).bind fun v39=>(fa 7 v39).bind fun v40=>(ld false 1 r37.2 v40).bind fun v41=>(callFn E (exec E) .pure 156 [v41,r37.1] r37.2).bind fun r42=>(bI .lss r42.1 (D.int .i64 0)).bind fun v43=>asB v43 fun t=>bif t then (ret_ r42.2 [some (D.int .i64 (-1))]) else ((bI .add x5 (D.int .i64 1)).bind fun v44=>J E 92 2 [x0,r42.1,v44] r42.2))))))))) else (ret_ H [some x1]):=
 (J_seg E 92 2 [2] 400 [x0,x1,x5] H).trans (by kernel_rfl)
theorem e93 (x0 x1:D) (H:Heap) :
  ent E 93 [x0,x1] H =
  J E 93 2 [x0,x1,(D.int .i64 0)] H:=
 (ent_seg E 93 [2] 400 [x0,x1] H).trans (by kernel_rfl)
theorem j93_2 (x0 x1 x5:D) (H:Heap) :
  J E 93 2 [x0,x1,x5] H =
  (lnL x0).bind fun v1=>(bI .lss x5 v1).bind fun v2=>asB v2 fun t=>bif t then ((ia 2 H x0 x5).bind fun v3=>(fa 0 v3).bind fun v4=>(ld false 1 H v4).bind fun v5=>(bI .neq v5 x1).bind fun v6=>asB v6 fun t=>bif t then (ret_ H [some (D.int .i64 (-1))]) else ((bI .add x1 (D.int .i64 1)).bind fun v7=>(ia 2 H x0 x5).bind fun v8=>(fa 1 v8).bind fun v9=>(ld false 1 H v9).bind fun v10=>(bI .neq v10 v7).bind fun v11=>asB v11 fun t=>bif t then (ret_ H [some (D.int .i64 (-1))]) else ((bI .add v7 (D.int .i64 1)).bind fun v12=>(bI .add x5 (D.int .i64 1)).bind fun v13=>J E 93 2 [x0,v12,v13] H))) else (ret_ H [some x1]):=
 (J_seg E 93 2 [2] 400 [x0,x1,x5] H).trans (by kernel_rfl)
theorem e94 (x0 x1:D) (H:Heap) :
  ent E 94 [x0,x1] H =
  J E 94 2 [x0,x1,(D.int .i64 0)] H:=
 (ent_seg E 94 [2] 400 [x0,x1] H).trans (by kernel_rfl)
theorem j94_2 (x0 x1 x5:D) (H:Heap) :
  J E 94 2 [x0,x1,x5] H =
  (lnL x0).bind fun v1=>(bI .lss x5 v1).bind fun v2=>asB v2 fun t=>bif t then ((ia 4 H x0 x5).bind fun v3=>(fa 0 v3).bind fun v4=>(ld false 1 H v4).bind fun v5=>(callFn E (exec E) .pure 79 [x1] H).bind fun r6=>(bS .neq v5 r6.1).bind fun v7=>asB v7 fun t=>bif t then (ret_ r6.2 [some (D.int .i64 (-1))]) else ((bI .add x1 (D.int .i64 1)).bind fun v8=>(ia 4 r6.2 x0 x5).bind fun v9=>(fa 1 v9).bind fun v10=>(ld false 1 r6.2 v10).bind fun v11=>(callFn E (exec E) .pure 79 [v8] r6.2).bind fun r12=>(bS .neq v11 r12.1).bind fun v13=>asB v13 fun t=>bif t then (ret_ r12.2 [some (D.int .i64 (-1))]) else ((bI .add v8 (D.int .i64 1)).bind fun v14=>(ia 4 r12.2 x0 x5).bind fun v15=>(fa 2 v15).bind fun v16=>(ld false 1 r12.2 v16).bind fun v17=>(bI .neq v17 v14).bind fun v18=>asB v18 fun t=>bif t then (ret_ r12.2 [some (D.int .i64 (-1))]) else ((bI .add v14 (D.int .i64 1)).bind fun v19=>(ia 4 r12.2 x0 x5).bind fun v20=>(fa 3 v20).bind fun v21=>(ld false 1 r12.2 v21).bind fun v22=>(bI .neq v22 v19).bind fun v23=>asB v23 fun t=>bif t then (ret_ r12.2 [some (D.int .i64 (-1))]) else ((bI .add v19 (D.int .i64 1)).bind fun v24=>(bI .add x5 (D.int .i64 1)).bind fun v25=>J E 94 2 [x0,v24,v25] r12.2))))) else (ret_ H [some x1]):=
 (J_seg E 94 2 [2] 400 [x0,x1,x5] H).trans (by kernel_rfl)
theorem e95 (x0 x1:D) (H:Heap) :
  ent E 95 [x0,x1] H =
  J E 95 2 [x0,x1,(D.int .i64 0)] H:=
 (ent_seg E 95 [2] 400 [x0,x1] H).trans (by kernel_rfl)
theorem j95_2 (x0 x1 x5:D) (H:Heap) :
  J E 95 2 [x0,x1,x5] H =
  (lnL x0).bind fun v1=>(bI .lss x5 v1).bind fun v2=>asB v2 fun t=>bif t then ((ia 2 H x0 x5).bind fun v3=>(fa 0 v3).bind fun v4=>(ld false 1 H v4).bind fun v5=>(bI .neq v5 x1).bind fun v6=>asB v6 fun t=>bif t then (ret_ H [some (D.int .i64 (-1))]) else ((bI .add x1 (D.int .i64 1)).bind fun v7=>(ia 2 H x0 x5).bind fun v8=>(fa 1 v8).bind fun v9=>(ld false 1 H v9).bind fun v10=>(bI .neq v10 v7).bind fun v11=>asB v11 fun t=>bif t then (ret_ H [some (D.int .i64 (-1))]) else ((bI .add v7 (D.int .i64 1)).bind fun v12=>(bI .add x5 (D.int .i64 1)).bind fun v13=>J E 95 2 [x0,v12,v13] H))) else (ret_ H [some x1]):=
 (J_seg E 95 2 [2] 400 [x0,x1,x5] H).trans (by kernel_rfl)
theorem e121 (x0:D) (H:Heap) :
  ent E 121 [x0] H =
  (lnS x0).bind fun v1=>(callFn E (exec E) .pure 67 [v1,(D.int .i64 1),(D.int .i64 8)] H).bind fun r2=>(unOp .not r2.1).bind fun v3=>asB v3 fun t=>bif t then (ret_ r2.2 [some (D.bool false)]) else ((ix x0 (D.int .i64 0)).bind fun v4=>(bI .geq v4 (D.int .u8 48)).bind fun v5=>asB v5 fun t=>bif t then ((ix x0 (D.int .i64 0)).bind fun v6=>(bI .leq v6 (D.int .u8 57)).bind fun v7=>asB v7 fun t=>bif t then (ret_ r2.2 [some (D.bool false)]) else ((lnS x0).bind fun v8=>J E 121 4 [x0,v8,(D.int .i64 0)] r2.2)) else ((lnS x0).bind fun v9=>J E 121 4 [x0,v9,(D.int .i64 0)] r2.2)):=
 (ent_seg E 121 [4] 400 [x0] H).trans (by kernel_rfl)
theorem j121_4 (x0 x20 x21:D) (H:Heap) :
  J E 121 4 [x0,x20,x21] H =
  (bI .lss x21 x20).bind fun v10=>asB v10 fun t=>bif t then ((ix x0 x21).bind fun v11=>(bI .geq v11 (D.int .u8 97)).bind fun v12=>asB v12 fun t=>bif t then ((bI .leq v11 (D.int .u8 122)).bind fun v13=>asB v13 fun t=>bif t then ((unOp .not (D.bool true)).bind fun v14=>asB v14 fun t=>bif t then (ret_ H [some (D.bool false)]) else ((bI .add x21 (D.int .i64 1)).bind fun v15=>J E 121 4 [x0,x20,v15] H)) else ((bI .geq v11 (D.int .u8 65)).bind fun v16=>asB v16 fun t=>bif t then ((bI .leq v11 (D.int .u8 90)).bind fun v17=>asB v17 fun t=>bif t then ((unOp .not (D.bool true)).bind fun v18=>asB v18 fun t=>bif t then (ret_ H [some (D.bool false)]) else ((bI .add x21 (D.int .i64 1)).bind fun v19=>J E 121 4 [x0,x20,v19] H)) else ((bI .geq v11 (D.int .u8 48)).bind fun v20=>asB v20 fun t=>bif t then ((bI .leq v11 (D.int .u8 57)).bind fun v21=>(unOp .not v21).bind fun v22=>asB v22 fun t=>bif t then (ret_ H [some (D.bool false)]) else ((bI .add x21 (D.int .i64 1)).bind fun v23=>J E 121 4 [x0,x20,v23] H)) else ((unOp .not (D.bool false)).bind fun v24=>asB v24 fun t=>bif t then (ret_ H [some (D.bool false)]) else ((bI .add x21 (D.int .i64 1)).bind fun v25=>J E 121 4 [x0,x20,v25] H)))) else ((bI .geq v11 (D.int .u8 48)).bind fun v26=>asB v26 fun t=>bif t then ((bI .leq v11 (D.int .u8 57)).bind fun v27=>(unOp .not v27).bind fun v28=>asB v28 fun t=>bif t then (ret_ H [some (D.bool false)]) else ((bI .add x21 (D.int .i64 1)).bind fun v29=>J E 121 4 [x0,x20,v29] H)) else ((unOp .not (D.bool false)).bind fun v30=>asB v30 fun t=>bif t then (ret_ H [some (D.bool false)]) else ((bI .add x21 (D.int .i64 1)).bind fun v31=>J E 121 4 [x0,x20,v31] H))))) else ((bI .geq v11 (D.int .u8 65)).bind fun v32=>asB v32 fun t=>bif t then ((bI .leq v11 (D.int .u8 90)).bind fun v33=>asB v33 fun t=>bif t then ((unOp .not (D.bool true)).bind fun v34=>asB v34 fun t=>bif t then (ret_ H [some (D.bool false)]) else ((bI .add x21 (D.int .i64 1)).bind fun v35=>J E 121 4 [x0,x20,v35] H)) else ((bI .geq v11 (D.int .u8 48)).bind fun v36=>asB v36 fun t=>bif t then ((bI .leq v11 (D.int .u8 57)).bind fun v37=>(unOp .not v37).bind fun v38=>asB v38 fun t=>bif t then (ret_ H [some (D.bool false)]) else ((bI .add x21 (D.int .i64 1)).bind fun v39=>J E 121 4 [x0,x20,v39] H)) else ((unOp .not (D.bool false)).bind fun v40=>asB v40 fun t=>bif t then (ret_ H [some (D.bool false)]) else ((bI .add x21 (D.int .i64 1)).bind fun v41=>J E 121 4 [x0,x20,v41] H)))) else ((bI .geq v11 (D.int .u8 48)).bind fun v42=>asB v42 fun t=>bif t then ((bI .leq v11 (D.int .u8 57)).bind fun v43=>(unOp .not v43).bind fun v44=>asB v44 fun t=>bif t then (ret_ H [some (D.bool false)]) else ((bI .add x21 (D.int .i64 1)).bind fun v45=>J E 121 4 [x0,x20,v45] H)) else ((unOp .not (D.bool false)).bind fun v46=>asB v46 fun t=>bif t then (ret_ H [some (D.bool false)]) else ((bI .add x21 (D.int .i64 1)).bind fun v47=>J E 121 4 [x0,x20,v47] H))))) else (ret_ H [some (D.bool true)]):=
 (J_seg E 121 4 [4] 400 [x0,x20,x21] H).trans (by kernel_rfl)
theorem e135 (x0 x1:D) (H:Heap) :
  ent E 135 [x0,x1] H =
  alloc_ H (D.cells x0) fun p1 H1=>alloc_ H1 (D.cells x1) fun p2 H2=>(fa 0 p1).bind fun v3=>(ld false 1 H2 v3).bind fun v4=>(fa 0 p2).bind fun v5=>(ld false 1 H2 v5).bind fun v6=>(bI .neq v4 v6).bind fun v7=>asB v7 fun t=>bif t then (ret_ H2 [some (D.bool false)]) else ((fa 1 p1).bind fun v8=>(ld false 1 H2 v8).bind fun v9=>(fa 1 p2).bind fun v10=>(ld false 1 H2 v10).bind fun v11=>(bS .neq v9 v11).bind fun v12=>asB v12 fun t=>bif t then (ret_ H2 [some (D.bool false)]) else ((fa 2 p1).bind fun v13=>(ld false 1 H2 v13).bind fun v14=>(fa 2 p2).bind fun v15=>(ld false 1 H2 v15).bind fun v16=>(bI .neq v14 v16).bind fun v17=>asB v17 fun t=>bif t then (ret_ H2 [some (D.bool false)]) else ((fa 3 p1).bind fun v18=>(ld false 1 H2 v18).bind fun v19=>(fa 3 p2).bind fun v20=>(ld false 1 H2 v20).bind fun v21=>(bI .neq v19 v21).bind fun v22=>asB v22 fun t=>bif t then (ret_ H2 [some (D.bool false)]) else (ret_ H2 [some (D.bool true)])))):=
 (ent_seg E 135 [] 400 [x0,x1] H).trans (by kernel_rfl)
theorem e136 (x0 x1:D) (H:Heap) :
  ent E 136 [x0,x1] H =
  alloc_ H (D.cells x0) fun p1 H1=>alloc_ H1 (D.cells x1) fun p2 H2=>(fa 0 p1).bind fun v3=>(ld false 1 H2 v3).bind fun v4=>(fa 0 p2).bind fun v5=>(ld false 1 H2 v5).bind fun v6=>(bI .neq v4 v6).bind fun v7=>asB v7 fun t=>bif t then (ret_ H2 [some (D.bool false)]) else ((fa 1 p1).bind fun v8=>(ld false 1 H2 v8).bind fun v9=>(fa 1 p2).bind fun v10=>(ld false 1 H2 v10).bind fun v11=>(bI .neq v9 v11).bind fun v12=>asB v12 fun t=>bif t then (ret_ H2 [some (D.bool false)]) else ((fa 2 p1).bind fun v13=>(ld false 1 H2 v13).bind fun v14=>(fa 2 p2).bind fun v15=>(ld false 1 H2 v15).bind fun v16=>(bI .neq v14 v16).bind fun v17=>asB v17 fun t=>bif t then (ret_ H2 [some (D.bool false)]) else (ret_ H2 [some (D.bool true)]))):=
 (ent_seg E 136 [] 400 [x0,x1] H).trans (by kernel_rfl)
theorem e137 (x0 x1:D) (H:Heap) :
  ent E 137 [x0,x1] H =
  alloc_ H (D.cells x0) fun p1 H1=>alloc_ H1 (D.cells x1) fun p2 H2=>(fa 0 p1).bind fun v3=>(ld false 1 H2 v3).bind fun v4=>(fa 0 p2).bind fun v5=>(ld false 1 H2 v5).bind fun v6=>(bI .neq v4 v6).bind fun v7=>asB v7 fun t=>bif t then (ret_ H2 [some (D.bool false)]) else ((fa 1 p1).bind fun v8=>(ld false 1 H2 v8).bind fun v9=>(fa 1 p2).bind fun v10=>(ld false 1 H2 v10).bind fun v11=>(bI .neq v9 v11).bind fun v12=>asB v12 fun t=>bif t then (ret_ H2 [some (D.bool false)]) else ((fa 2 p1).bind fun v13=>(ld false 1 H2 v13).bind fun v14=>(fa 2 p2).bind fun v15=>(ld false 1 H2 v15).bind fun v16=>(bI .neq v14 v16).bind fun v17=>asB v17 fun t=>bif t then (ret_ H2 [some (D.bool false)]) else ((fa 3 p1).bind fun v18=>(ld false 1 H2 v18).bind fun v19=>(fa 3 p2).bind fun v20=>(ld false 1 H2 v20).bind fun v21=>(bI .neq v19 v21).bind fun v22=>asB v22 fun t=>bif t then (ret_ H2 [some (D.bool false)]) else ((fa 4 p1).bind fun v23=>(ld false 1 H2 v23).bind fun v24=>(fa 4 p2).bind fun v25=>(ld false 1 H2 v25).bind fun v26=>(bI .neq v24 v26).bind fun v27=>asB v27 fun t=>bif t then (ret_ H2 [some (D.bool false)]) else ((fa 5 p1).bind fun v28=>(ld false 1 H2 v28).bind fun v29=>(fa 5 p2).bind fun v30=>(ld false 1 H2 v30).bind fun v31=>(bS .neq v29 v31).bind fun v32=>asB v32 fun t=>bif t then (ret_ H2 [some (D.bool false)]) else ((fa 6 p1).bind fun v33=>(ld false 1 H2 v33).bind fun v34=>(fa 6 p2).bind fun v35=>(ld false 1 H2 v35).bind fun v36=>(callFn E (exec E) .pure 209 [v34,v36] H2).bind fun r37=>(unOp .not r37.1).bind fun v38=>asB v38 fun t=>bif t then (ret_ r37.2 [some (D.bool false)]) else ((fa 7 p1).bind fun v39=>(ld false 1 r37.2 v39).bind fun v40=>(fa 7 p2).bind fun v41=>(ld false 1 r37.2 v41).bind fun v42=>(callFn E (exec E) .pure 210 [v40,v42] r37.2).bind fun r43=>(unOp .not r43.1).bind fun v44=>asB v44 fun t=>bif t then (ret_ r43.2 [some (D.bool false)]) else (ret_ r43.2 [some (D.bool true)])))))))):=
 (ent_seg E 137 [] 400 [x0,x1] H).trans (by kernel_rfl)
theorem e138 (x0 x1:D) (H:Heap) :
  ent E 138 [x0,x1] H =
  alloc_ H (D.cells x0) fun p1 H1=>(fa 0 p1).bind fun v2=>(ld false 1 H1 v2).bind fun v3=>(lnS v3).bind fun v4=>(bI .sub x1 v4).bind fun v5=>(bI .lss v5 (D.int .i64 0)).bind fun v6=>asB v6 fun t=>bif t then (ret_ H1 [some (D.int .i64 (-1))]) else ((fa 1 p1).bind fun v7=>(ld false 1 H1 v7).bind fun v8=>(lnS v8).bind fun v9=>(bI .sub v5 v9).bind fun v10=>(bI .lss v10 (D.int .i64 0)).bind fun v11=>asB v11 fun t=>bif t then (ret_ H1 [some (D.int .i64 (-1))]) else (ret_ H1 [some v10])):=
 (ent_seg E 138 [] 400 [x0,x1] H).trans (by kernel_rfl)
theorem e139 (x0 x1:D) (H:Heap) :
  ent E 139 [x0,x1] H =
  alloc_ H (D.cells x0) fun p1 H1=>(fa 0 p1).bind fun v2=>(ld false 1 H1 v2).bind fun v3=>(lnS v3).bind fun v4=>(bI .sub x1 v4).bind fun v5=>(bI .lss v5 (D.int .i64 0)).bind fun v6=>asB v6 fun t=>bif t then (ret_ H1 [some (D.int .i64 (-1))]) else (ret_ H1 [some v5]):=
 (ent_seg E 139 [] 400 [x0,x1] H).trans (by kernel_rfl)
theorem e140 (x0:D) (H:Heap) :
  ent E 140 [x0] H =
  J E 140 2 [x0,(D.int .i64 0)] H:=
 (ent_seg E 140 [2] 400 [x0] H).trans (by kernel_rfl)
theorem j140_2 (x0 x3:D) (H:Heap) :
  J E 140 2 [x0,x3] H =
  (lnS x0).bind fun v1=>(bI .lss x3 v1).bind fun v2=>asB v2 fun t=>bif t then ((ix x0 x3).bind fun v3=>(callFn E (exec E) .pure 211 [v3] H).bind fun r4=>(unOp .not r4.1).bind fun v5=>asB v5 fun t=>bif t then ((bI .eql x3 (D.int .i64 0)).bind fun v6=>asB v6 fun t=>bif t then (ret_ r4.2 [some (D.bool false)]) else ((ix x0 x3).bind fun v7=>(bI .lss v7 (D.int .u8 48)).bind fun v8=>asB v8 fun t=>bif t then (ret_ r4.2 [some (D.bool false)]) else ((ix x0 x3).bind fun v9=>(bI .gtr v9 (D.int .u8 57)).bind fun v10=>asB v10 fun t=>bif t then (ret_ r4.2 [some (D.bool false)]) else ((bI .add x3 (D.int .i64 1)).bind fun v11=>J E 140 2 [x0,v11] r4.2)))) else ((bI .add x3 (D.int .i64 1)).bind fun v12=>J E 140 2 [x0,v12] r4.2)) else ((lnS x0).bind fun v13=>(callFn E (exec E) .pure 63 [v13,(D.int .i64 1),(D.int .i64 8)] H).bind fun r14=>ret_ r14.2 [some r14.1]):=
 (J_seg E 140 2 [2] 400 [x0,x3] H).trans (by kernel_rfl)
theorem e141 (x0:D) (H:Heap) :
  ent E 141 [x0] H =
  (bS .eql x0 (D.str [79,98,106])).bind fun v1=>asB v1 fun t=>bif t then (ret_ H [some (D.int .i64 0)]) else ((bS .eql x0 (D.str [69,114,114])).bind fun v2=>asB v2 fun t=>bif t then (ret_ H [some (D.int .i64 1)]) else (ret_ H [some (D.int .i64 (-1))])):=
 (ent_seg E 141 [] 400 [x0] H).trans (by kernel_rfl)
theorem e142 (x0:D) (H:Heap) :
  ent E 142 [x0] H =
  alloc_ H (D.cells x0) fun p1 H1=>alloc_ H1 [.str [],.str []] fun p2 H2=>alloc_ H2 [.str [],.str []] fun p3 H3=>(fa 0 p1).bind fun v4=>(ld false 1 H3 v4).bind fun v5=>(fa 0 p3).bind fun v6=>(st 1 H3 v6 v5).bind fun H7=>(fa 1 p1).bind fun v8=>(ld false 1 H7 v8).bind fun v9=>(fa 1 p3).bind fun v10=>(st 1 H7 v10 v9).bind fun H11=>(ld true 2 H11 p3).bind fun v12=>(st 2 H11 p2 v12).bind fun H13=>ret_ H13 [ld true 2 H13 p2]:=
 (ent_seg E 142 [] 400 [x0] H).trans (by kernel_rfl)
theorem e143 (x0:D) (H:Heap) :
  ent E 143 [x0] H =
  alloc_ H (D.cells x0) fun p1 H1=>alloc_ H1 [.str [],.int .i64 0] fun p2 H2=>alloc_ H2 [.str [],.int .i64 0] fun p3 H3=>(fa 0 p1).bind fun v4=>(ld false 1 H3 v4).bind fun v5=>(fa 0 p3).bind fun v6=>(st 1 H3 v6 v5).bind fun H7=>(fa 1 p1).bind fun v8=>(ld false 1 H7 v8).bind fun v9=>(fa 1 p3).bind fun v10=>(st 1 H7 v10 v9).bind fun H11=>(ld true 2 H11 p3).bind fun v12=>(st 2 H11 p2 v12).bind fun H13=>ret_ H13 [ld true 2 H13 p2]:=
 (ent_seg E 143 [] 400 [x0] H).trans (by kernel_rfl)
theorem e144 (x0 x1:D) (H:Heap) :
  ent E 144 [x0,x1] H =
  (lnL x0).bind fun v1=>J E 144 2 [x0,x1,v1,(D.int .i64 0)] H:=
 (ent_seg E 144 [2] 400 [x0,x1] H).trans (by kernel_rfl)
theorem j144_2 (x0 x1 x7 x8:D) (H:Heap) :
  J E 144 2 [x0,x1,x7,x8] H =
  (bI .lss x8 x7).bind fun v2=>asB v2 fun t=>bif t then ((ia 3 H x0 x8).bind fun v3=>(ld true 3 H v3).bind fun v4=>asFn x1 fun gq5 cq5=>(callFn E (exec E) (modeT 144 gq5) gq5 ([v4]++cq5) H).bind fun r6=>asB r6.1 fun t=>bif t then (ret_ r6.2 [some x8]) else ((bI .add x8 (D.int .i64 1)).bind fun v7=>J E 144 2 [x0,x1,x7,v7] r6.2)) else (ret_ H [some (D.int .i64 (-1))]):=
 (J_seg E 144 2 [2] 400 [x0,x1,x7,x8] H).trans (by kernel_rfl)
theorem e145 (x0:D) (H:Heap) :
  ent E 145 [x0] H =
  (bS .eql x0 (D.str [79,98,106])).bind fun v1=>asB v1 fun t=>bif t then (ret_ H [some (D.bool true)]) else ((bS .eql x0 (D.str [69,114,114])).bind fun v2=>ret_ H [some v2]):=
 (ent_seg E 145 [] 400 [x0] H).trans (by kernel_rfl)
theorem e146 (x0 x1:D) (H:Heap) :
  ent E 146 [x0,x1] H =
  (callFn E (exec E) .raw 212 [x0,x1] H).bind fun r1=>(bI .geq r1.1 (D.int .i64 0)).bind fun v2=>ret_ r1.2 [some v2]:=
 (ent_seg E 146 [] 400 [x0,x1] H).trans (by kernel_rfl)
theorem e147 (x0 x1:D) (H:Heap) :
  ent E 147 [x0,x1] H =
  alloc_ H (D.cells x0) fun p1 H1=>(fa 0 p1).bind fun v2=>(ld false 1 H1 v2).bind fun v3=>(fa 0 x1).bind fun v4=>(ld false 1 H1 v4).bind fun v5=>(bS .eql v3 v5).bind fun v6=>ret_ H1 [some v6]:=
 (ent_seg E 147 [] 400 [x0,x1] H).trans (by kernel_rfl)
theorem e148 (x0 x1:D) (H:Heap) :
  ent E 148 [x0,x1] H =
  (lnL x0).bind fun v1=>(lnL x1).bind fun v2=>(bI .neq v1 v2).bind fun v3=>asB v3 fun t=>bif t then (ret_ H [some (D.bool false)]) else (J E 148 4 [x0,x1,(D.int .i64 0)] H):=
 (ent_seg E 148 [4] 400 [x0,x1] H).trans (by kernel_rfl)
theorem j148_4 (x0 x1 x5:D) (H:Heap) :
  J E 148 4 [x0,x1,x5] H =
  (lnL x0).bind fun v4=>(bI .lss x5 v4).bind fun v5=>asB v5 fun t=>bif t then ((ia 2 H x0 x5).bind fun v6=>(ld true 2 H v6).bind fun v7=>(ia 2 H x1 x5).bind fun v8=>(ld true 2 H v8).bind fun v9=>(callFn E (exec E) .pure 213 [v7,v9] H).bind fun r10=>(unOp .not r10.1).bind fun v11=>asB v11 fun t=>bif t then (ret_ r10.2 [some (D.bool false)]) else ((bI .add x5 (D.int .i64 1)).bind fun v12=>J E 148 4 [x0,x1,v12] r10.2)) else (ret_ H [some (D.bool true)]):=
 (J_seg E 148 4 [4] 400 [x0,x1,x5] H).trans (by kernel_rfl)
theorem e149 (x0 x1:D) (H:Heap) :
  ent E 149 [x0,x1] H =
  (lnL x0).bind fun v1=>(lnL x1).bind fun v2=>(bI .neq v1 v2).bind fun v3=>asB v3 fun t=>bif t then (ret_ H [some (D.bool false)]) else (J E 149 4 [x0,x1,(D.int .i64 0)] H):=
 (ent_seg E 149 [4] 400 [x0,x1] H).trans (by kernel_rfl)
theorem j149_4 (x0 x1 x5:D) (H:Heap) :
  J E 149 4 [x0,x1,x5] H =
  (lnL x0).bind fun v4=>(bI .lss x5 v4).bind fun v5=>asB v5 fun t=>bif t then ((ia 4 H x0 x5).bind fun v6=>(ld true 4 H v6).bind fun v7=>(ia 4 H x1 x5).bind fun v8=>(ld true 4 H v8).bind fun v9=>(callFn E (exec E) .pure 214 [v7,v9] H).bind fun r10=>(unOp .not r10.1).bind fun v11=>asB v11 fun t=>bif t then (ret_ r10.2 [some (D.bool false)]) else ((bI .add x5 (D.int .i64 1)).bind fun v12=>J E 149 4 [x0,x1,v12] r10.2)) else (ret_ H [some (D.bool true)]):=
 (J_seg E 149 4 [4] 400 [x0,x1,x5] H).trans (by kernel_rfl)
theorem e150 (x0 x1:D) (H:Heap) :
  ent E 150 [x0,x1] H =
  (lnL x0).bind fun v1=>(lnL x1).bind fun v2=>(bI .neq v1 v2).bind fun v3=>asB v3 fun t=>bif t then (ret_ H [some (D.bool false)]) else (J E 150 4 [x0,x1,(D.int .i64 0)] H):=
 (ent_seg E 150 [4] 400 [x0,x1] H).trans (by kernel_rfl)
theorem j150_4 (x0 x1 x5:D) (H:Heap) :
  J E 150 4 [x0,x1,x5] H =
  (lnL x0).bind fun v4=>(bI .lss x5 v4).bind fun v5=>asB v5 fun t=>bif t then ((ia 2 H x0 x5).bind fun v6=>(ld true 2 H v6).bind fun v7=>(ia 2 H x1 x5).bind fun v8=>(ld true 2 H v8).bind fun v9=>(callFn E (exec E) .pure 215 [v7,v9] H).bind fun r10=>(unOp .not r10.1).bind fun v11=>asB v11 fun t=>bif t then (ret_ r10.2 [some (D.bool false)]) else ((bI .add x5 (D.int .i64 1)).bind fun v12=>J E 150 4 [x0,x1,v12] r10.2)) else (ret_ H [some (D.bool true)]):=
 (J_seg E 150 4 [4] 400 [x0,x1,x5] H).trans (by kernel_rfl)
theorem e151 (x0 x1:D) (H:Heap) :
  ent E 151 [x0,x1] H =
  alloc_ H (D.cells x0) fun p1 H1=>alloc_ H1 (D.cells x1) fun p2 H2=>(fa 0 p1).bind fun v3=>(ld false 1 H2 v3).bind fun v4=>(fa 0 p2).bind fun v5=>(ld false 1 H2 v5).bind fun v6=>(bS .neq v4 v6).bind fun v7=>asB v7 fun t=>bif t then (ret_ H2 [some (D.bool false)]) else ((fa 1 p1).bind fun v8=>(ld false 1 H2 v8).bind fun v9=>(fa 1 p2).bind fun v10=>(ld false 1 H2 v10).bind fun v11=>(bS .neq v9 v11).bind fun v12=>asB v12 fun t=>bif t then (ret_ H2 [some (D.bool false)]) else (ret_ H2 [some (D.bool true)])):=
 (ent_seg E 151 [] 400 [x0,x1] H).trans (by kernel_rfl)
theorem e152 (x0 x1:D) (H:Heap) :
  ent E 152 [x0,x1] H =
  alloc_ H (D.cells x0) fun p1 H1=>alloc_ H1 (D.cells x1) fun p2 H2=>(fa 0 p1).bind fun v3=>(ld false 1 H2 v3).bind fun v4=>(fa 0 p2).bind fun v5=>(ld false 1 H2 v5).bind fun v6=>(bS .neq v4 v6).bind fun v7=>asB v7 fun t=>bif t then (ret_ H2 [some (D.bool false)]) else ((fa 1 p1).bind fun v8=>(ld false 1 H2 v8).bind fun v9=>(fa 1 p2).bind fun v10=>(ld false 1 H2 v10).bind fun v11=>(bI .neq v9 v11).bind fun v12=>asB v12 fun t=>bif t then (ret_ H2 [some (D.bool false)]) else (ret_ H2 [some (D.bool true)])):=
 (ent_seg E 152 [] 400 [x0,x1] H).trans (by kernel_rfl)
theorem e153 (x0 x1:D) (H:Heap) :
  ent E 153 [x0,x1] H =
  J E 153 2 [x0,x1,(D.int .i64 0)] H:=
 (ent_seg E 153 [2] 400 [x0,x1] H).trans (by kernel_rfl)
theorem j153_2 (x0 x1 x5:D) (H:Heap) :
  J E 153 2 [x0,x1,x5] H =
  (lnL x0).bind fun v1=>(bI .lss x5 v1).bind fun v2=>asB v2 fun t=>bif t then ((ia 4 H x0 x5).bind fun v3=>(fa 0 v3).bind fun v4=>(st 1 H v4 x1).bind fun H5=>(bI .add x1 (D.int .i64 1)).bind fun v6=>(ia 4 H5 x0 x5).bind fun v7=>(fa 1 v7).bind fun v8=>(st 1 H5 v8 v6).bind fun H9=>(bI .add v6 (D.int .i64 1)).bind fun v10=>(ia 4 H9 x0 x5).bind fun v11=>(fa 2 v11).bind fun v12=>(st 1 H9 v12 v10).bind fun H13=>(bI .add v10 (D.int .i64 1)).bind fun v14=>(ia 4 H13 x0 x5).bind fun v15=>(fa 3 v15).bind fun v16=>(st 1 H13 v16 v14).bind fun H17=>(bI .add v14 (D.int .i64 1)).bind fun v18=>(bI .add x5 (D.int .i64 1)).bind fun v19=>J E 153 2 [x0,v18,v19] H17) else (ret_ H [some x1]):=
 (J_seg E 153 2 [2] 400 [x0,x1,x5] H).trans (by kernel_rfl)
theorem e154 (x0 x1:D) (H:Heap) :
  ent E 154 [x0,x1] H =
  J E 154 2 [x0,x1,(D.int .i64 0)] H:=
 (ent_seg E 154 [2] 400 [x0,x1] H).trans (by kernel_rfl)
theorem j154_2 (x0 x1 x5:D) (H:Heap) :
  J E 154 2 [x0,x1,x5] H =
  (lnL x0).bind fun v1=>(bI .lss x5 v1).bind fun v2=>asB v2 fun t=>bif t then ((ia 3 H x0 x5).bind fun v3=>(fa 0 v3).bind fun v4=>(st 1 H v4 x1).bind fun H5=>(bI .add x1 (D.int .i64 1)).bind fun v6=>(ia 3 H5 x0 x5).bind fun v7=>(fa 1 v7).bind fun v8=>(ld false 1 H5 v8).bind fun v9=>(callFn E (exec E) .raw 216 [v9,v6] H5).bind fun r10=>(ia 3 r10.2 x0 x5).bind fun v11=>(fa 2 v11).bind fun v12=>(ld false 1 r10.2 v12).bind fun v13=>(callFn E (exec E) .raw 216 [v13,r10.1] r10.2).bind fun r14=>(bI .add x5 (D.int .i64 1)).bind fun v15=>J E 154 2 [x0,r14.1,v15] r14.2) else (ret_ H [some x1]):=
 (J_seg E 154 2 [2] 400 [x0,x1,x5] H).trans (by kernel_rfl)
theorem e155 (x0 x1:D) (H:Heap) :
  ent E 155 [x0,x1] H =
  J E 155 2 [x0,x1,(D.int .i64 0)] H:=
 (ent_seg E 155 [2] 400 [x0,x1] H).trans (by kernel_rfl)
theorem j155_2 (x0 x1 x5:D) (H:Heap) :
  J E 155 2 [x0,x1,x5] H =
  (lnL x0).bind fun v1=>(bI .lss x5 v1).bind fun v2=>asB v2 fun t=>bif t then ((ia 4 H x0 x5).bind fun v3=>(fa 0 v3).bind fun v4=>(ld false 1 H v4).bind fun v5=>(bI .neq v5 x1).bind fun v6=>asB v6 fun t=>bif t then (ret_ H [some (D.int .i64 (-1))]) else ((bI .add x1 (D.int .i64 1)).bind fun v7=>(ia 4 H x0 x5).bind fun v8=>(fa 1 v8).bind fun v9=>(ld false 1 H v9).bind fun v10=>(bI .neq v10 v7).bind fun v11=>asB v11 fun t=>bif t then (ret_ H [some (D.int .i64 (-1))]) else ((bI .add v7 (D.int .i64 1)).bind fun v12=>(ia 4 H x0 x5).bind fun v13=>(fa 2 v13).bind fun v14=>(ld false 1 H v14).bind fun v15=>(bI .neq v15 v12).bind fun v16=>asB v16 fun t=>bif t then (ret_ H [some (D.int .i64 (-1))]) else ((bI .add v12 (D.int .i64 1)).bind fun v17=>(ia 4 H x0 x5).bind fun v18=>(fa 3 v18).bind fun v19=>(ld false 1 H v19).bind fun v20=>(bI .neq v20 v17).bind fun v21=>asB v21 fun t=>bif t then (ret_ H [some (D.int .i64 (-1))]) else ((bI .add v17 (D.int .i64 1)).bind fun v22=>(bI .add x5 (D.int .i64 1)).bind fun v23=>J E 155 2 [x0,v22,v23] H))))) else (ret_ H [some x1]):=
 (J_seg E 155 2 [2] 400 [x0,x1,x5] H).trans (by kernel_rfl)
theorem e156 (x0 x1:D) (H:Heap) :
  ent E 156 [x0,x1] H =
  J E 156 2 [x0,x1,(D.int .i64 0)] H:=
 (ent_seg E 156 [2] 400 [x0,x1] H).trans (by kernel_rfl)
theorem j156_2 (x0 x1 x5:D) (H:Heap) :
  J E 156 2 [x0,x1,x5] H =
  (lnL x0).bind fun v1=>(bI .lss x5 v1).bind fun v2=>asB v2 fun t=>bif t then ((ia 3 H x0 x5).bind fun v3=>(fa 0 v3).bind fun v4=>(ld false 1 H v4).bind fun v5=>(bI .neq v5 x1).bind fun v6=>asB v6 fun t=>bif t then (ret_ H [some (D.int .i64 (-1))]) else ((bI .add x1 (D.int .i64 1)).bind fun v7=>(ia 3 H x0 x5).bind fun v8=>(fa 1 v8).bind fun v9=>(ld false 1 H v9).bind fun v10=>(callFn E (exec E) .pure 217 [v10,v7] H).bind fun r11=>(bI .lss r11.1 (D.int .i64 0)).bind fun v12=>asB v12 fun t=>bif t then (ret_ r11.2 [some (D.int .i64 (-1))]) else ((ia 3 r11.2 x0 x5).bind fun v13=>(fa 2 v13).bind fun v14=>(ld false 1 r11.2 v14).bind fun v15=>(callFn E (exec E) .pure 217 [v15,r11.1] r11.2).bind fun r16=>(bI .lss r16.1 (D.int .i64 0)).bind fun v17=>asB v17 fun t=>bif t then (ret_ r16.2 [some (D.int .i64 (-1))]) else ((bI .add x5 (D.int .i64 1)).bind fun v18=>J E 156 2 [x0,r16.1,v18] r16.2)))) else (ret_ H [some x1]):=
 (J_seg E 156 2 [2] 400 [x0,x1,x5] H).trans (by kernel_rfl)
theorem e209 (x0 x1:D) (H:Heap) :
  ent E 209 [x0,x1] H =
  (lnL x0).bind fun v1=>(lnL x1).bind fun v2=>(bI .neq v1 v2).bind fun v3=>asB v3 fun t=>bif t then (ret_ H [some (D.bool false)]) else (J E 209 4 [x0,x1,(D.int .i64 0)] H):=
 (ent_seg E 209 [4] 400 [x0,x1] H).trans (by kernel_rfl)
theorem j209_4 (x0 x1 x5:D) (H:Heap) :
  J E 209 4 [x0,x1,x5] H =
  (lnL x0).bind fun v4=>(bI .lss x5 v4).bind fun v5=>asB v5 fun t=>bif t then ((ia 4 H x0 x5).bind fun v6=>(ld true 4 H v6).bind fun v7=>(ia 4 H x1 x5).bind fun v8=>(ld true 4 H v8).bind fun v9=>(callFn E (exec E) .pure 248 [v7,v9] H).bind fun r10=>(unOp .not r10.1).bind fun v11=>asB v11 fun t=>bif t then (ret_ r10.2 [some (D.bool false)]) else ((bI .add x5 (D.int .i64 1)).bind fun v12=>J E 209 4 [x0,x1,v12] r10.2)) else (ret_ H [some (D.bool true)]):=
 (J_seg E 209 4 [4] 400 [x0,x1,x5] H).trans (by kernel_rfl)
theorem e210 (x0 x1:D) (H:Heap) :
  ent E 210 [x0,x1] H =
  (lnL x0).bind fun v1=>(lnL x1).bind fun v2=>(bI .neq v1 v2).bind fun v3=>asB v3 fun t=>bif t then (ret_ H [some (D.bool false)]) else (J E 210 4 [x0,x1,(D.int .i64 0)] H):=
 (ent_seg E 210 [4] 400 [x0,x1] H).trans (by kernel_rfl)
theorem j210_4 (x0 x1 x5:D) (H:Heap) :
  J E 210 4 [x0,x1,x5] H =
  (lnL x0).bind fun v4=>(bI .lss x5 v4).bind fun v5=>asB v5 fun t=>bif t then ((ia 3 H x0 x5).bind fun v6=>(ld true 3 H v6).bind fun v7=>(ia 3 H x1 x5).bind fun v8=>(ld true 3 H v8).bind fun v9=>(callFn E (exec E) .pure 249 [v7,v9] H).bind fun r10=>(unOp .not r10.1).bind fun v11=>asB v11 fun t=>bif t then (ret_ r10.2 [some (D.bool false)]) else ((bI .add x5 (D.int .i64 1)).bind fun v12=>J E 210 4 [x0,x1,v12] r10.2)) else (ret_ H [some (D.bool true)]):=
 (J_seg E 210 4 [4] 400 [x0,x1,x5] H).trans (by kernel_rfl)
theorem e211 (x0:D) (H:Heap) :
  ent E 211 [x0] H =
  (bI .geq x0 (D.int .u8 97)).bind fun v1=>asB v1 fun t=>bif t then ((bI .leq x0 (D.int .u8 122)).bind fun v2=>asB v2 fun t=>bif t then (ret_ H [some (D.bool true)]) else ((bI .geq x0 (D.int .u8 65)).bind fun v3=>asB v3 fun t=>bif t then ((bI .leq x0 (D.int .u8 90)).bind fun v4=>ret_ H [some v4]) else (ret_ H [some (D.bool false)]))) else ((bI .geq x0 (D.int .u8 65)).bind fun v5=>asB v5 fun t=>bif t then ((bI .leq x0 (D.int .u8 90)).bind fun v6=>ret_ H [some v6]) else (ret_ H [some (D.bool false)])):=
 (ent_seg E 211 [] 400 [x0] H).trans (by kernel_rfl)
theorem e212 (x0 x1:D) (H:Heap) :
  ent E 212 [x0,x1] H =
  (lnL x0).bind fun v1=>J E 212 2 [x0,x1,v1,(D.int .i64 0)] H:=
 (ent_seg E 212 [2] 400 [x0,x1] H).trans (by kernel_rfl)
theorem j212_2 (x0 x1 x7 x8:D) (H:Heap) :
  J E 212 2 [x0,x1,x7,x8] H =
  (bI .lss x8 x7).bind fun v2=>asB v2 fun t=>bif t then ((ia 2 H x0 x8).bind fun v3=>(ld true 2 H v3).bind fun v4=>asFn x1 fun gq5 cq5=>(callFn E (exec E) (modeT 212 gq5) gq5 ([v4]++cq5) H).bind fun r6=>asB r6.1 fun t=>bif t then (ret_ r6.2 [some x8]) else ((bI .add x8 (D.int .i64 1)).bind fun v7=>J E 212 2 [x0,x1,x7,v7] r6.2)) else (ret_ H [some (D.int .i64 (-1))]):=
 (J_seg E 212 2 [2] 400 [x0,x1,x7,x8] H).trans (by kernel_rfl)
theorem e213 (x0 x1:D) (H:Heap) :
  ent E 213 [x0,x1] H =
  alloc_ H (D.cells x0) fun p1 H1=>alloc_ H1 (D.cells x1) fun p2 H2=>(fa 0 p1).bind fun v3=>(ld false 1 H2 v3).bind fun v4=>(fa 0 p2).bind fun v5=>(ld false 1 H2 v5).bind fun v6=>(bI .neq v4 v6).bind fun v7=>asB v7 fun t=>bif t then (ret_ H2 [some (D.bool false)]) else ((fa 1 p1).bind fun v8=>(ld false 1 H2 v8).bind fun v9=>(fa 1 p2).bind fun v10=>(ld false 1 H2 v10).bind fun v11=>(bI .neq v9 v11).bind fun v12=>asB v12 fun t=>bif t then (ret_ H2 [some (D.bool false)]) else (ret_ H2 [some (D.bool true)])):=
 (ent_seg E 213 [] 400 [x0,x1] H).trans (by kernel_rfl)
theorem e214 (x0 x1:D) (H:Heap) :
  ent E 214 [x0,x1] H =
  alloc_ H (D.cells x0) fun p1 H1=>alloc_ H1 (D.cells x1) fun p2 H2=>(fa 0 p1).bind fun v3=>(ld false 1 H2 v3).bind fun v4=>(fa 0 p2).bind fun v5=>(ld false 1 H2 v5).bind fun v6=>(bS .neq v4 v6).bind fun v7=>asB v7 fun t=>bif t then (ret_ H2 [some (D.bool false)]) else ((fa 1 p1).bind fun v8=>(ld false 1 H2 v8).bind fun v9=>(fa 1 p2).bind fun v10=>(ld false 1 H2 v10).bind fun v11=>(bS .neq v9 v11).bind fun v12=>asB v12 fun t=>bif t then (ret_ H2 [some (D.bool false)]) else ((fa 2 p1).bind fun v13=>(ld false 1 H2 v13).bind fun v14=>(fa 2 p2).bind fun v15=>(ld false 1 H2 v15).bind fun v16=>(bI .neq v14 v16).bind fun v17=>asB v17 fun t=>bif t then (ret_ H2 [some (D.bool false)]) else ((fa 3 p1).bind fun v18=>(ld false 1 H2 v18).bind fun v19=>(fa 3 p2).bind fun v20=>(ld false 1 H2 v20).bind fun v21=>(bI .neq v19 v21).bind fun v22=>asB v22 fun t=>bif t then (ret_ H2 [some (D.bool false)]) else (ret_ H2 [some (D.bool true)])))):=
 (ent_seg E 214 [] 400 [x0,x1] H).trans (by kernel_rfl)
theorem e215 (x0 x1:D) (H:Heap) :
  ent E 215 [x0,x1] H =
  alloc_ H (D.cells x0) fun p1 H1=>alloc_ H1 (D.cells x1) fun p2 H2=>(fa 0 p1).bind fun v3=>(ld false 1 H2 v3).bind fun v4=>(fa 0 p2).bind fun v5=>(ld false 1 H2 v5).bind fun v6=>(bI .neq v4 v6).bind fun v7=>asB v7 fun t=>bif t then (ret_ H2 [some (D.bool false)]) else ((fa 1 p1).bind fun v8=>(ld false 1 H2 v8).bind fun v9=>(fa 1 p2).bind fun v10=>(ld false 1 H2 v10).bind fun v11=>(bI .neq v9 v11).bind fun v12=>asB v12 fun t=>bif t then (ret_ H2 [some (D.bool false)]) else (ret_ H2 [some (D.bool true)])):=
 (ent_seg E 215 [] 400 [x0,x1] H).trans (by kernel_rfl)
theorem e216 (x0 x1:D) (H:Heap) :
  ent E 216 [x0,x1] H =
  J E 216 2 [x0,x1,(D.int .i64 0)] H:=
 (ent_seg E 216 [2] 400 [x0,x1] H).trans (by kernel_rfl)
theorem j216_2 (x0 x1 x5:D) (H:Heap) :
  J E 216 2 [x0,x1,x5] H =
  (lnL x0).bind fun v1=>(bI .lss x5 v1).bind fun v2=>asB v2 fun t=>bif t then ((ia 2 H x0 x5).bind fun v3=>(fa 0 v3).bind fun v4=>(st 1 H v4 x1).bind fun H5=>(bI .add x1 (D.int .i64 1)).bind fun v6=>(ia 2 H5 x0 x5).bind fun v7=>(fa 1 v7).bind fun v8=>(st 1 H5 v8 v6).bind fun H9=>(bI .add v6 (D.int .i64 1)).bind fun v10=>(bI .add x5 (D.int .i64 1)).bind fun v11=>J E 216 2 [x0,v10,v11] H9) else (ret_ H [some x1]):=
 (J_seg E 216 2 [2] 400 [x0,x1,x5] H).trans (by kernel_rfl)
theorem e217 (x0 x1:D) (H:Heap) :
  ent E 217 [x0,x1] H =
  J E 217 2 [x0,x1,(D.int .i64 0)] H:=
 (ent_seg E 217 [2] 400 [x0,x1] H).trans (by kernel_rfl)
theorem j217_2 (x0 x1 x5:D) (H:Heap) :
  J E 217 2 [x0,x1,x5] H =
  (lnL x0).bind fun v1=>(bI .lss x5 v1).bind fun v2=>asB v2 fun t=>bif t then ((ia 2 H x0 x5).bind fun v3=>(fa 0 v3).bind fun v4=>(ld false 1 H v4).bind fun v5=>(bI .neq v5 x1).bind fun v6=>asB v6 fun t=>bif t then (ret_ H [some (D.int .i64 (-1))]) else ((bI .add x1 (D.int .i64 1)).bind fun v7=>(ia 2 H x0 x5).bind fun v8=>(fa 1 v8).bind fun v9=>(ld false 1 H v9).bind fun v10=>(bI .neq v10 v7).bind fun v11=>asB v11 fun t=>bif t then (ret_ H [some (D.int .i64 (-1))]) else ((bI .add v7 (D.int .i64 1)).bind fun v12=>(bI .add x5 (D.int .i64 1)).bind fun v13=>J E 217 2 [x0,v12,v13] H))) else (ret_ H [some x1]):=
 (J_seg E 217 2 [2] 400 [x0,x1,x5] H).trans (by kernel_rfl)
theorem e248 (x0 x1:D) (H:Heap) :
  ent E 248 [x0,x1] H =
  alloc_ H (D.cells x0) fun p1 H1=>alloc_ H1 (D.cells x1) fun p2 H2=>(fa 0 p1).bind fun v3=>(ld false 1 H2 v3).bind fun v4=>(fa 0 p2).bind fun v5=>(ld false 1 H2 v5).bind fun v6=>(bI .neq v4 v6).bind fun v7=>asB v7 fun t=>bif t then (ret_ H2 [some (D.bool false)]) else ((fa 1 p1).bind fun v8=>(ld false 1 H2 v8).bind fun v9=>(fa 1 p2).bind fun v10=>(ld false 1 H2 v10).bind fun v11=>(bI .neq v9 v11).bind fun v12=>asB v12 fun t=>bif t then (ret_ H2 [some (D.bool false)]) else ((fa 2 p1).bind fun v13=>(ld false 1 H2 v13).bind fun v14=>(fa 2 p2).bind fun v15=>(ld false 1 H2 v15).bind fun v16=>(bI .neq v14 v16).bind fun v17=>asB v17 fun t=>bif t then (ret_ H2 [some (D.bool false)]) else ((fa 3 p1).bind fun v18=>(ld false 1 H2 v18).bind fun v19=>(fa 3 p2).bind fun v20=>(ld false 1 H2 v20).bind fun v21=>(bI .neq v19 v21).bind fun v22=>asB v22 fun t=>bif t then (ret_ H2 [some (D.bool false)]) else (ret_ H2 [some (D.bool true)])))):=
 (ent_seg E 248 [] 400 [x0,x1] H).trans (by kernel_rfl)
theorem e249 (x0 x1:D) (H:Heap) :
  ent E 249 [x0,x1] H =
  alloc_ H (D.cells x0) fun p1 H1=>alloc_ H1 (D.cells x1) fun p2 H2=>(fa 0 p1).bind fun v3=>(ld false 1 H2 v3).bind fun v4=>(fa 0 p2).bind fun v5=>(ld false 1 H2 v5).bind fun v6=>(bI .neq v4 v6).bind fun v7=>asB v7 fun t=>bif t then (ret_ H2 [some (D.bool false)]) else ((fa 1 p1).bind fun v8=>(ld false 1 H2 v8).bind fun v9=>(fa 1 p2).bind fun v10=>(ld false 1 H2 v10).bind fun v11=>(callFn E (exec E) .pure 259 [v9,v11] H2).bind fun r12=>(unOp .not r12.1).bind fun v13=>asB v13 fun t=>bif t then (ret_ r12.2 [some (D.bool false)]) else ((fa 2 p1).bind fun v14=>(ld false 1 r12.2 v14).bind fun v15=>(fa 2 p2).bind fun v16=>(ld false 1 r12.2 v16).bind fun v17=>(callFn E (exec E) .pure 259 [v15,v17] r12.2).bind fun r18=>(unOp .not r18.1).bind fun v19=>asB v19 fun t=>bif t then (ret_ r18.2 [some (D.bool false)]) else (ret_ r18.2 [some (D.bool true)]))):=
 (ent_seg E 249 [] 400 [x0,x1] H).trans (by kernel_rfl)
theorem e259 (x0 x1:D) (H:Heap) :
  ent E 259 [x0,x1] H =
  (lnL x0).bind fun v1=>(lnL x1).bind fun v2=>(bI .neq v1 v2).bind fun v3=>asB v3 fun t=>bif t then (ret_ H [some (D.bool false)]) else (J E 259 4 [x0,x1,(D.int .i64 0)] H):=
 (ent_seg E 259 [4] 400 [x0,x1] H).trans (by kernel_rfl)
theorem j259_4 (x0 x1 x5:D) (H:Heap) :
  J E 259 4 [x0,x1,x5] H =
  (lnL x0).bind fun v4=>(bI .lss x5 v4).bind fun v5=>asB v5 fun t=>bif t then ((ia 2 H x0 x5).bind fun v6=>(ld true 2 H v6).bind fun v7=>(ia 2 H x1 x5).bind fun v8=>(ld true 2 H v8).bind fun v9=>(callFn E (exec E) .pure 266 [v7,v9] H).bind fun r10=>(unOp .not r10.1).bind fun v11=>asB v11 fun t=>bif t then (ret_ r10.2 [some (D.bool false)]) else ((bI .add x5 (D.int .i64 1)).bind fun v12=>J E 259 4 [x0,x1,v12] r10.2)) else (ret_ H [some (D.bool true)]):=
 (J_seg E 259 4 [4] 400 [x0,x1,x5] H).trans (by kernel_rfl)
theorem e266 (x0 x1:D) (H:Heap) :
  ent E 266 [x0,x1] H =
  alloc_ H (D.cells x0) fun p1 H1=>alloc_ H1 (D.cells x1) fun p2 H2=>(fa 0 p1).bind fun v3=>(ld false 1 H2 v3).bind fun v4=>(fa 0 p2).bind fun v5=>(ld false 1 H2 v5).bind fun v6=>(bI .neq v4 v6).bind fun v7=>asB v7 fun t=>bif t then (ret_ H2 [some (D.bool false)]) else ((fa 1 p1).bind fun v8=>(ld false 1 H2 v8).bind fun v9=>(fa 1 p2).bind fun v10=>(ld false 1 H2 v10).bind fun v11=>(bI .neq v9 v11).bind fun v12=>asB v12 fun t=>bif t then (ret_ H2 [some (D.bool false)]) else (ret_ H2 [some (D.bool true)])):=
 (ent_seg E 266 [] 400 [x0,x1] H).trans (by kernel_rfl)
end Go.Ev.YtmljkoieihaomaaGreat
