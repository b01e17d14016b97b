import Derived.Test.YtmpfooibdekppaaGreatDoorQ0
namespace Go.Ev.YtmpfooibdekppaaGreatDoor
set_option maxRecDepth 100000
set_option linter.unusedVariables false
theorem e121 (x0:D) (H:Heap) :
  ent E 121 [x0] H =
  alloc_ H [.int .i64 0,.str [],.int .i64 0,.int .i64 0] fun p1 H1=>(callFn E (exec E) .raw 120 [x0] H1).bind fun r2=>(bld [.int .i64 0,.str [],.int .i64 0,.int .i64 0] [(0,1,false),(1,1,false),(2,1,false),(3,1,false)] [(0,r2.1)]).bind fun v3=>alloc_ r2.2 [.int .i64 0,.str [],.int .i64 0,.int .i64 0] fun p4 H4=>(st 4 H4 p4 v3).bind fun H5=>(fa 0 p4).bind fun v6=>(ld false 1 H5 v6).bind fun v7=>(bI .eql v7 (D.int .i64 1)).bind fun v8=>asB v8 fun t=>bif t then ((callFn E (exec E) .raw 120 [x0] H5).bind fun r9=>(callFn E (exec E) .raw 118 [x0,r9.1] r9.2).bind fun r10=>(fa 1 p4).bind fun v11=>(st 1 r10.2 v11 r10.1).bind fun H12=>J E 121 14 [p1,p4] H12) else ((bI .eql v7 (D.int .i64 2)).bind fun v13=>asB v13 fun t=>bif t then ((callFn E (exec E) .raw 122 [x0] H5).bind fun r14=>(fa 2 p4).bind fun v15=>(st 1 r14.2 v15 r14.1).bind fun H16=>J E 121 14 [p1,p4] H16) else ((bI .eql v7 (D.int .i64 3)).bind fun v17=>asB v17 fun t=>bif t then (asB v17 fun t=>bif t then (J E 121 12 [x0,p1,p4] H5) else (J E 121 3 [x0,p1,p4] H5)) else ((bI .eql v7 (D.int .i64 4)).bind fun v18=>asB v18 fun t=>bif t then (asB v18 fun t=>bif t then (J E 121 12 [x0,p1,p4] H5) else (J E 121 3 [x0,p1,p4] H5)) else ((bI .eql v7 (D.int .i64 5)).bind fun v19=>asB v19 fun t=>bif t then (asB v19 fun t=>bif t then (J E 121 12 [x0,p1,p4] H5) else (J E 121 3 [x0,p1,p4] H5)) else ((bI .eql v7 (D.int .i64 6)).bind fun v20=>asB v20 fun t=>bif t then (J E 121 12 [x0,p1,p4] H5) else (J E 121 3 [x0,p1,p4] H5)))))):=
 (ent_seg E 121 [3,12,14] 400 [x0] H).trans (by kernel_rfl)
theorem j121_3 (x0 x2 x3:D) (H:Heap) :
  J E 121 3 [x0,x2,x3] H =
  (nilCheck x0).bind fun v21=>(fa 1 v21).bind fun v22=>(st 1 H v22 (D.bool true)).bind fun H23=>J E 121 14 [x2,x3] H23:=
 (J_seg E 121 3 [3,12,14] 400 [x0,x2,x3] H).trans (by kernel_rfl)
theorem j121_12 (x0 x2 x3:D) (H:Heap) :
  J E 121 12 [x0,x2,x3] H =
  (callFn E (exec E) .raw 122 [x0] H).bind fun r24=>(fa 2 x3).bind fun v25=>(st 1 r24.2 v25 r24.1).bind fun H26=>(callFn E (exec E) .raw 122 [x0] H26).bind fun r27=>(fa 3 x3).bind fun v28=>(st 1 r27.2 v28 r27.1).bind fun H29=>J E 121 14 [x2,x3] H29:=
 (J_seg E 121 12 [3,12,14] 400 [x0,x2,x3] H).trans (by kernel_rfl)
theorem j121_14 (x2 x3:D) (H:Heap) :
  J E 121 14 [x2,x3] H =
  (ld true 4 H x3).bind fun v30=>(st 4 H x2 v30).bind fun H31=>ret_ H31 [ld true 4 H31 x2]:=
 (J_seg E 121 14 [3,12,14] 400 [x2,x3] H).trans (by kernel_rfl)
theorem e122 (x0:D) (H:Heap) :
  ent E 122 [x0] H =
  (callFn E (exec E) .raw 120 [x0] H).bind fun r1=>(bI .mul (D.int .i64 256) r1.1).bind fun v2=>(callFn E (exec E) .raw 120 [x0] r1.2).bind fun r3=>(bI .add v2 r3.1).bind fun v4=>ret_ r3.2 [some v4]:=
 (ent_seg E 122 [] 400 [x0] H).trans (by kernel_rfl)
theorem e123 (x0:D) (H:Heap) :
  ent E 123 [x0] H =
  alloc_ H [.int .i64 0,.int .i64 0,.int .i64 0,.int .i64 0,.int .i64 0,.str [],.sl0,.sl0] fun p1 H1=>(callFn E (exec E) .raw 120 [x0] H1).bind fun r2=>(bld [.int .i64 0,.int .i64 0,.int .i64 0,.int .i64 0,.int .i64 0,.str [],.sl0,.sl0] [(0,1,false),(1,1,false),(2,1,false),(3,1,false),(4,1,false),(5,1,false),(6,1,false),(7,1,false)] [(0,r2.1)]).bind fun v3=>alloc_ r2.2 [.int .i64 0,.int .i64 0,.int .i64 0,.int .i64 0,.int .i64 0,.str [],.sl0,.sl0] fun p4 H4=>(st 8 H4 p4 v3).bind fun H5=>(callFn E (exec E) .raw 122 [x0] H5).bind fun r6=>(fa 1 p4).bind fun v7=>(st 1 r6.2 v7 r6.1).bind fun H8=>(callFn E (exec E) .raw 122 [x0] H8).bind fun r9=>(fa 2 p4).bind fun v10=>(st 1 r9.2 v10 r9.1).bind fun H11=>(fa 0 p4).bind fun v12=>(ld false 1 H11 v12).bind fun v13=>(callFn E (exec E) .pure 44 [v13] H11).bind fun r14=>asB r14.1 fun t=>bif t then ((ld true 8 r14.2 p4).bind fun v15=>(st 8 r14.2 p1 v15).bind fun H16=>ret_ H16 [ld true 8 H16 p1]) else ((callFn E (exec E) .raw 120 [x0] r14.2).bind fun r17=>(fa 3 p4).bind fun v18=>(st 1 r17.2 v18 r17.1).bind fun H19=>(callFn E (exec E) .raw 120 [x0] H19).bind fun r20=>(fa 4 p4).bind fun v21=>(st 1 r20.2 v21 r20.1).bind fun H22=>(callFn E (exec E) .raw 122 [x0] H22).bind fun r23=>(callFn E (exec E) .raw 119 [x0,r23.1,(D.int .i64 120)] r23.2).bind fun r24=>(callFn E (exec E) .raw 118 [x0,r24.1] r24.2).bind fun r25=>(fa 5 p4).bind fun v26=>(st 1 r25.2 v26 r25.1).bind fun H27=>(callFn E (exec E) .raw 120 [x0] H27).bind fun r28=>(callFn E (exec E) .raw 119 [x0,r28.1,(D.int .i64 3)] r28.2).bind fun r29=>J E 123 10 [x0,p1,p4,r29.1] r29.2):=
 (ent_seg E 123 [10,18] 400 [x0] H).trans (by kernel_rfl)
theorem j123_10 (x0 x2 x3 x4:D) (H:Heap) :
  J E 123 10 [x0,x2,x3,x4] H =
  (bI .gtr x4 (D.int .i64 0)).bind fun v30=>asB v30 fun t=>bif t then ((nilCheck x0).bind fun v31=>(fa 1 v31).bind fun v32=>(ld false 1 H v32).bind fun v33=>(unOp .not v33).bind fun v34=>asB v34 fun t=>bif t then ((callFn E (exec E) .raw 122 [x0] H).bind fun r35=>(bld [.int .i64 0,.int .i64 0,.int .i64 0,.int .i64 0] [(0,1,false),(1,1,false),(2,1,false),(3,1,false)] [(0,r35.1)]).bind fun v36=>alloc_ r35.2 [.int .i64 0,.int .i64 0,.int .i64 0,.int .i64 0] fun p37 H37=>(st 4 H37 p37 v36).bind fun H38=>(callFn E (exec E) .raw 122 [x0] H38).bind fun r39=>(fa 1 p37).bind fun v40=>(st 1 r39.2 v40 r39.1).bind fun H41=>(callFn E (exec E) .raw 122 [x0] H41).bind fun r42=>(fa 2 p37).bind fun v43=>(st 1 r42.2 v43 r42.1).bind fun H44=>(callFn E (exec E) .raw 122 [x0] H44).bind fun r45=>(fa 3 p37).bind fun v46=>(st 1 r45.2 v46 r45.1).bind fun H47=>(fa 6 x3).bind fun v48=>(ld false 1 H47 v48).bind fun v49=>(ld true 4 H47 p37).bind fun v50=>(bsl 4 [.int .i64 0,.int .i64 0,.int .i64 0,.int .i64 0] H47 1 [(0,v50)]).bind fun r51=>(app 4 32 r51.2 v49 r51.1).bind fun r52=>(fa 6 x3).bind fun v53=>(st 1 r52.2 v53 r52.1).bind fun H54=>(bI .sub x4 (D.int .i64 1)).bind fun v55=>J E 123 10 [x0,x2,x3,v55] H54) else ((callFn E (exec E) .raw 120 [x0] H).bind fun r56=>(callFn E (exec E) .raw 119 [x0,r56.1,(D.int .i64 8)] r56.2).bind fun r57=>J E 123 18 [x0,x2,x3,r57.1] r57.2)) else ((callFn E (exec E) .raw 120 [x0] H).bind fun r58=>(callFn E (exec E) .raw 119 [x0,r58.1,(D.int .i64 8)] r58.2).bind fun r59=>J E 123 18 [x0,x2,x3,r59.1] r59.2):=
 (J_seg E 123 10 [10,18] 400 [x0,x2,x3,x4] H).trans (by kernel_rfl)
theorem j123_18 (x0 x2 x3 x6:D) (H:Heap) :
  J E 123 18 [x0,x2,x3,x6] H =
  (bI .gtr x6 (D.int .i64 0)).bind fun v60=>asB v60 fun t=>bif t then ((nilCheck x0).bind fun v61=>(fa 1 v61).bind fun v62=>(ld false 1 H v62).bind fun v63=>(unOp .not v63).bind fun v64=>asB v64 fun t=>bif t then ((callFn E (exec E) .raw 122 [x0] H).bind fun r65=>(bld [.int .i64 0,.sl0,.sl0] [(0,1,false),(1,1,false),(2,1,false)] [(0,r65.1)]).bind fun v66=>alloc_ r65.2 [.int .i64 0,.sl0,.sl0] fun p67 H67=>(st 3 H67 p67 v66).bind fun H68=>(callFn E (exec E) .raw 164 [x0] H68).bind fun r69=>(fa 1 p67).bind fun v70=>(st 1 r69.2 v70 r69.1).bind fun H71=>(callFn E (exec E) .raw 164 [x0] H71).bind fun r72=>(fa 2 p67).bind fun v73=>(st 1 r72.2 v73 r72.1).bind fun H74=>(fa 7 x3).bind fun v75=>(ld false 1 H74 v75).bind fun v76=>(ld true 3 H74 p67).bind fun v77=>(bsl 3 [.int .i64 0,.sl0,.sl0] H74 1 [(0,v77)]).bind fun r78=>(app 3 56 r78.2 v76 r78.1).bind fun r79=>(fa 7 x3).bind fun v80=>(st 1 r79.2 v80 r79.1).bind fun H81=>(bI .sub x6 (D.int .i64 1)).bind fun v82=>J E 123 18 [x0,x2,x3,v82] H81) else ((ld true 8 H x3).bind fun v83=>(st 8 H x2 v83).bind fun H84=>ret_ H84 [ld true 8 H84 x2])) else ((ld true 8 H x3).bind fun v85=>(st 8 H x2 v85).bind fun H86=>ret_ H86 [ld true 8 H86 x2]):=
 (J_seg E 123 18 [10,18] 400 [x0,x2,x3,x6] H).trans (by kernel_rfl)
theorem e124 (x0 x1:D) (H:Heap) :
  ent E 124 [x0,x1] H =
  (lnL x0).bind fun v1=>(lnL x1).bind fun v2=>(bI .neq v1 v2).bind fun v3=>asB v3 fun t=>bif t then (ret_ H [some (D.bool false)]) else ((lnL x0).bind fun v4=>J E 124 4 [x0,x1,v4,(D.int .i64 0)] H):=
 (ent_seg E 124 [4] 400 [x0,x1] H).trans (by kernel_rfl)
theorem j124_4 (x0 x1 x12 x13:D) (H:Heap) :
  J E 124 4 [x0,x1,x12,x13] H =
  (bI .lss x13 x12).bind fun v5=>asB v5 fun t=>bif t then ((ia 4 H x0 x13).bind fun v6=>(ld true 4 H v6).bind fun v7=>(ia 4 H x1 x13).bind fun v8=>(ld true 4 H v8).bind fun v9=>(bA [.int .i64,.str,.int .i64,.int .i64] .neq v7 v9).bind fun v10=>asB v10 fun t=>bif t then (ret_ H [some (D.bool false)]) else ((bI .add x13 (D.int .i64 1)).bind fun v11=>J E 124 4 [x0,x1,x12,v11] H)) else (ret_ H [some (D.bool true)]):=
 (J_seg E 124 4 [4] 400 [x0,x1,x12,x13] H).trans (by kernel_rfl)
theorem e125 (x0 x1:D) (H:Heap) :
  ent E 125 [x0,x1] H =
  (lnL x0).bind fun v1=>(lnL x1).bind fun v2=>(bI .neq v1 v2).bind fun v3=>asB v3 fun t=>bif t then (ret_ H [some (D.bool false)]) else ((lnL x0).bind fun v4=>J E 125 4 [x0,x1,v4,(D.int .i64 0)] H):=
 (ent_seg E 125 [4] 400 [x0,x1] H).trans (by kernel_rfl)
theorem j125_4 (x0 x1 x12 x13:D) (H:Heap) :
  J E 125 4 [x0,x1,x12,x13] H =
  (bI .lss x13 x12).bind fun v5=>asB v5 fun t=>bif t then ((ia 1 H x0 x13).bind fun v6=>(ld false 1 H v6).bind fun v7=>(ia 1 H x1 x13).bind fun v8=>(ld false 1 H v8).bind fun v9=>(bI .neq v7 v9).bind fun v10=>asB v10 fun t=>bif t then (ret_ H [some (D.bool false)]) else ((bI .add x13 (D.int .i64 1)).bind fun v11=>J E 125 4 [x0,x1,x12,v11] H)) else (ret_ H [some (D.bool true)]):=
 (J_seg E 125 4 [4] 400 [x0,x1,x12,x13] H).trans (by kernel_rfl)
theorem e126 (x0 x1:D) (H:Heap) :
  ent E 126 [x0,x1] H =
  (lnL x0).bind fun v1=>(lnL x1).bind fun v2=>(bI .neq v1 v2).bind fun v3=>asB v3 fun t=>bif t then (ret_ H [some (D.bool false)]) else ((lnL x0).bind fun v4=>J E 126 4 [x0,x1,v4,(D.int .i64 0)] H):=
 (ent_seg E 126 [4] 400 [x0,x1] H).trans (by kernel_rfl)
theorem j126_4 (x0 x1 x12 x13:D) (H:Heap) :
  J E 126 4 [x0,x1,x12,x13] H =
  (bI .lss x13 x12).bind fun v5=>asB v5 fun t=>bif t then ((ia 3 H x0 x13).bind fun v6=>(ld true 3 H v6).bind fun v7=>(ia 3 H x1 x13).bind fun v8=>(ld true 3 H v8).bind fun v9=>(bA [.int .i64,.int .i64,.int .i64] .neq v7 v9).bind fun v10=>asB v10 fun t=>bif t then (ret_ H [some (D.bool false)]) else ((bI .add x13 (D.int .i64 1)).bind fun v11=>J E 126 4 [x0,x1,x12,v11] H)) else (ret_ H [some (D.bool true)]):=
 (J_seg E 126 4 [4] 400 [x0,x1,x12,x13] H).trans (by kernel_rfl)
theorem e127 (x0 x1 x2:D) (H:Heap) :
  ent E 127 [x0,x1,x2] H =
  (lnL x0).bind fun v1=>(lnL x1).bind fun v2=>(bI .neq v1 v2).bind fun v3=>asB v3 fun t=>bif t then (ret_ H [some (D.bool false)]) else ((lnL x0).bind fun v4=>J E 127 4 [x1,x2,x0,v4,(D.int .i64 0)] H):=
 (ent_seg E 127 [4] 400 [x0,x1,x2] H).trans (by kernel_rfl)
theorem j127_4 (x1 x2 x15 x16 x17:D) (H:Heap) :
  J E 127 4 [x1,x2,x15,x16,x17] H =
  (bI .lss x17 x16).bind fun v5=>asB v5 fun t=>bif t then ((ia 8 H x15 x17).bind fun v6=>(ld true 8 H v6).bind fun v7=>alloc_ H [.int .i64 0,.int .i64 0,.int .i64 0,.int .i64 0,.int .i64 0,.str [],.sl0,.sl0] fun p8 H8=>(st 8 H8 p8 v7).bind fun H9=>(ia 8 H9 x1 x17).bind fun v10=>(ld true 8 H9 v10).bind fun v11=>alloc_ H9 [.int .i64 0,.int .i64 0,.int .i64 0,.int .i64 0,.int .i64 0,.str [],.sl0,.sl0] fun p12 H12=>(st 8 H12 p12 v11).bind fun H13=>(ld true 8 H13 p8).bind fun v14=>(ld true 8 H13 p12).bind fun v15=>asFn x2 fun gq16 cq16=>(callFn E (exec E) (modeT 127 gq16) gq16 ([v14,v15]++cq16) H13).bind fun r17=>(unOp .not r17.1).bind fun v18=>asB v18 fun t=>bif t then (ret_ r17.2 [some (D.bool false)]) else ((bI .add x17 (D.int .i64 1)).bind fun v19=>J E 127 4 [x1,x2,x15,x16,v19] r17.2)) else (ret_ H [some (D.bool true)]):=
 (J_seg E 127 4 [4] 400 [x1,x2,x15,x16,x17] H).trans (by kernel_rfl)
theorem e128 (x0 x1:D) (H:Heap) :
  ent E 128 [x0,x1] H =
  alloc_ H (D.cells x0) fun p1 H1=>alloc_ H1 (D.cells x1) fun p2 H2=>J E 128 1 [p1,p2] H2:=
 (ent_seg E 128 [1] 400 [x0,x1] H).trans (by kernel_rfl)
theorem j128_1 (x2 x3:D) (H:Heap) :
  J E 128 1 [x2,x3] H =
  (fa 0 x2).bind fun v3=>(ld false 1 H v3).bind fun v4=>(fa 0 x3).bind fun v5=>(ld false 1 H v5).bind fun v6=>(bI .eql v4 v6).bind fun v7=>asB v7 fun t=>bif t then ((fa 1 x2).bind fun v8=>(ld false 1 H v8).bind fun v9=>(fa 1 x3).bind fun v10=>(ld false 1 H v10).bind fun v11=>(bI .eql v9 v11).bind fun v12=>asB v12 fun t=>bif t then ((fa 2 x2).bind fun v13=>(ld false 1 H v13).bind fun v14=>(fa 2 x3).bind fun v15=>(ld false 1 H v15).bind fun v16=>(bI .eql v14 v16).bind fun v17=>asB v17 fun t=>bif t then ((fa 3 x2).bind fun v18=>(ld false 1 H v18).bind fun v19=>(fa 3 x3).bind fun v20=>(ld false 1 H v20).bind fun v21=>(bI .eql v19 v21).bind fun v22=>asB v22 fun t=>bif t then ((fa 4 x2).bind fun v23=>(ld false 1 H v23).bind fun v24=>(fa 4 x3).bind fun v25=>(ld false 1 H v25).bind fun v26=>(bI .eql v24 v26).bind fun v27=>asB v27 fun t=>bif t then ((fa 5 x2).bind fun v28=>(ld false 1 H v28).bind fun v29=>(fa 5 x3).bind fun v30=>(ld false 1 H v30).bind fun v31=>(bS .eql v29 v31).bind fun v32=>asB v32 fun t=>bif t then ((fa 6 x2).bind fun v33=>(ld false 1 H v33).bind fun v34=>(fa 6 x3).bind fun v35=>(ld false 1 H v35).bind fun v36=>(callFn E (exec E) .pure 165 [v34,v36] H).bind fun r37=>asB r37.1 fun t=>bif t then ((fa 7 x2).bind fun v38=>(ld false 1 r37.2 v38).bind fun v39=>(fa 7 x3).bind fun v40=>(ld false 1 r37.2 v40).bind fun v41=>(callFn E (exec E) .raw 166 [v39,v41,(D.fn 167 [])] r37.2).bind fun r42=>ret_ r42.2 [some r42.1]) else (ret_ r37.2 [some (D.bool false)])) else (ret_ H [some (D.bool false)])) else (ret_ H [some (D.bool false)])) else (ret_ H [some (D.bool false)])) else (ret_ H [some (D.bool false)])) else (ret_ H [some (D.bool false)])) else (ret_ H [some (D.bool false)]):=
 (J_seg E 128 1 [1] 400 [x2,x3] H).trans (by kernel_rfl)
theorem e129 (x0:D) (H:Heap) :
  ent E 129 [x0] H =
  (callFn E (exec E) .pure 77 [x0] H).bind fun r1=>asB r1.1 fun t=>bif t then (ret_ r1.2 [some (D.bool true)]) else ((callFn E (exec E) .pure 80 [x0] r1.2).bind fun r2=>ret_ r2.2 [some r2.1]):=
 (ent_seg E 129 [] 400 [x0] H).trans (by kernel_rfl)
theorem e130 (x0 x1 x2:D) (H:Heap) :
  ent E 130 [x0,x1,x2] H =
  (ld false 1 H x1).bind fun v1=>(fa 3 x2).bind fun v2=>(ld false 1 H v2).bind fun v3=>(callFn E (exec E) .pure 88 [v1,v3] H).bind fun r4=>alloc_ r4.2 [.int .i64 0,.str [],.int .i64 0,.int .i64 0] fun p5 H5=>(st 4 H5 p5 r4.1).bind fun H6=>(fa 1 x2).bind fun v7=>(ld false 1 H6 v7).bind fun v8=>(bS .eql v8 (D.str [])).bind fun v9=>asB v9 fun t=>bif t then ((ld false 1 H6 x1).bind fun v10=>(fa 2 x2).bind fun v11=>(ld false 1 H6 v11).bind fun v12=>(callFn E (exec E) .pure 131 [v10,v12] H6).bind fun r13=>asB r13.1 fun t=>bif t then ((fa 0 p5).bind fun v14=>(ld false 1 r13.2 v14).bind fun v15=>(bI .eql v15 (D.int .i64 3)).bind fun v16=>asB v16 fun t=>bif t then ((ld false 1 r13.2 x1).bind fun v17=>(fa 3 p5).bind fun v18=>(ld false 1 r13.2 v18).bind fun v19=>(callFn E (exec E) .raw 75 [v17,v19,x0] r13.2).bind fun r20=>ret_ r20.2 [some r20.1]) else (ret_ r13.2 [some (D.bool false)])) else (ret_ r13.2 [some (D.bool false)])) else (ret_ H6 [some (D.bool false)]):=
 (ent_seg E 130 [] 400 [x0,x1,x2] H).trans (by kernel_rfl)
theorem e131 (x0 x1:D) (H:Heap) :
  ent E 131 [x0,x1] H =
  (callFn E (exec E) .pure 88 [x0,x1] H).bind fun r1=>alloc_ r1.2 [.int .i64 0,.str [],.int .i64 0,.int .i64 0] fun p2 H2=>(st 4 H2 p2 r1.1).bind fun H3=>(fa 0 p2).bind fun v4=>(ld false 1 H3 v4).bind fun v5=>(bI .eql v5 (D.int .i64 2)).bind fun v6=>asB v6 fun t=>bif t then ((fa 2 p2).bind fun v7=>(ld false 1 H3 v7).bind fun v8=>(callFn E (exec E) .raw 75 [x0,v8,(D.fn 76 [])] H3).bind fun r9=>ret_ r9.2 [some r9.1]) else (ret_ H3 [some (D.bool false)]):=
 (ent_seg E 131 [] 400 [x0,x1] H).trans (by kernel_rfl)
theorem e132 (x0 x1:D) (H:Heap) :
  ent E 132 [x0,x1] H =
  (lnL x0).bind fun v1=>J E 132 2 [x0,x1,v1,(D.int .i64 0)] H:=
 (ent_seg E 132 [2] 400 [x0,x1] H).trans (by kernel_rfl)
theorem j132_2 (x0 x1 x7 x8:D) (H:Heap) :
  J E 132 2 [x0,x1,x7,x8] H =
  (bI .lss x8 x7).bind fun v2=>asB v2 fun t=>bif t then ((ia 1 H x0 x8).bind fun v3=>(ld false 1 H v3).bind fun v4=>asFn x1 fun gq5 cq5=>(callFn E (exec E) (modeT 132 gq5) gq5 ([v4]++cq5) H).bind fun r6=>asB r6.1 fun t=>bif t then (ret_ r6.2 [some x8]) else ((bI .add x8 (D.int .i64 1)).bind fun v7=>J E 132 2 [x0,x1,x7,v7] r6.2)) else (ret_ H [some (D.int .i64 (-1))]):=
 (J_seg E 132 2 [2] 400 [x0,x1,x7,x8] H).trans (by kernel_rfl)
theorem e133 (x0:D) (H:Heap) :
  ent E 133 [x0] H =
  (callFn E (exec E) .pure 138 [x0,(D.str [76])] H).bind fun r1=>(extract r1.1 0).bind fun v2=>(extract r1.1 1).bind fun v3=>(callFn E (exec E) .pure 169 [v2,(D.str [59])] r1.2).bind fun r4=>(extract r4.1 0).bind fun v5=>(extract r4.1 1).bind fun v6=>asB v3 fun t=>bif t then (asB v6 fun t=>bif t then ((callFn E (exec E) .pure 76 [v5] r4.2).bind fun r7=>ret_ r7.2 [some v5,some r7.1]) else (ret_ r4.2 [some v5,some (D.bool false)])) else (ret_ r4.2 [some v5,some (D.bool false)]):=
 (ent_seg E 133 [] 400 [x0] H).trans (by kernel_rfl)
theorem e134 (x0 x1:D) (H:Heap) :
  ent E 134 [x0,x1] H =
  (lnL x0).bind fun v1=>J E 134 2 [x0,x1,v1,(D.int .i64 0)] H:=
 (ent_seg E 134 [2] 400 [x0,x1] H).trans (by kernel_rfl)
theorem j134_2 (x0 x1 x7 x8:D) (H:Heap) :
  J E 134 2 [x0,x1,x7,x8] H =
  (bI .lss x8 x7).bind fun v2=>asB v2 fun t=>bif t then ((ia 3 H x0 x8).bind fun v3=>(ld true 3 H v3).bind fun v4=>asFn x1 fun gq5 cq5=>(callFn E (exec E) (modeT 134 gq5) gq5 ([v4]++cq5) H).bind fun r6=>asB r6.1 fun t=>bif t then (ret_ r6.2 [some x8]) else ((bI .add x8 (D.int .i64 1)).bind fun v7=>J E 134 2 [x0,x1,x7,v7] r6.2)) else (ret_ H [some (D.int .i64 (-1))]):=
 (J_seg E 134 2 [2] 400 [x0,x1,x7,x8] H).trans (by kernel_rfl)
theorem e135 (x0 x1:D) (H:Heap) :
  ent E 135 [x0,x1] H =
  (lnL x0).bind fun v1=>J E 135 2 [x0,x1,v1,(D.int .i64 0)] H:=
 (ent_seg E 135 [2] 400 [x0,x1] H).trans (by kernel_rfl)
theorem j135_2 (x0 x1 x7 x8:D) (H:Heap) :
  J E 135 2 [x0,x1,x7,x8] H =
  (bI .lss x8 x7).bind fun v2=>asB v2 fun t=>bif t then ((ia 8 H x0 x8).bind fun v3=>(ld true 8 H v3).bind fun v4=>asFn x1 fun gq5 cq5=>(callFn E (exec E) (modeT 135 gq5) gq5 ([v4]++cq5) H).bind fun r6=>asB r6.1 fun t=>bif t then (ret_ r6.2 [some x8]) else ((bI .add x8 (D.int .i64 1)).bind fun v7=>J E 135 2 [x0,x1,x7,v7] r6.2)) else (ret_ H [some (D.int .i64 (-1))]):=
 (J_seg E 135 2 [2] 400 [x0,x1,x7,x8] H).trans (by kernel_rfl)
theorem e136 (x0:D) (H:Heap) :
  ent E 136 [x0] H =
  (callFn E (exec E) .pure 21 [x0,(D.int .i64 3),(D.int .i64 6)] H).bind fun r1=>asB r1.1 fun t=>bif t then (ret_ r1.2 [some (D.int .i64 1)]) else ((bI .eql x0 (D.int .i64 1)).bind fun v2=>asB v2 fun t=>bif t then (ret_ r1.2 [some (D.int .i64 2)]) else ((callFn E (exec E) .pure 21 [x0,(D.int .i64 14),(D.int .i64 29)] r1.2).bind fun r3=>asB r3.1 fun t=>bif t then (ret_ r3.2 [some (D.int .i64 2)]) else ((callFn E (exec E) .pure 21 [x0,(D.int .i64 0),(D.int .i64 34)] r3.2).bind fun r4=>asB r4.1 fun t=>bif t then (ret_ r4.2 [some (D.int .i64 0)]) else (ret_ r4.2 [some (D.int .i64 (-1))])))):=
 (ent_seg E 136 [] 400 [x0] H).trans (by kernel_rfl)
theorem e137 (x0 x1:D) (H:Heap) :
  ent E 137 [x0,x1] H =
  (callFn E (exec E) .pure 170 [x0,x1] H).bind fun r1=>(extract r1.1 0).bind fun v2=>(extract r1.1 1).bind fun v3=>(extract r1.1 2).bind fun v4=>ret_ r1.2 [some v2,some v3,some v4]:=
 (ent_seg E 137 [] 400 [x0,x1] H).trans (by kernel_rfl)
theorem e138 (x0 x1:D) (H:Heap) :
  ent E 138 [x0,x1] H =
  (callFn E (exec E) .pure 171 [x0,x1] H).bind fun r1=>(extract r1.1 0).bind fun v2=>(extract r1.1 1).bind fun v3=>ret_ r1.2 [some v2,some v3]:=
 (ent_seg E 138 [] 400 [x0,x1] H).trans (by kernel_rfl)
theorem e139 (x0 x1:D) (H:Heap) :
  ent E 139 [x0,x1] H =
  (callFn E (exec E) .pure 172 [x0,x1] H).bind fun r1=>ret_ r1.2 [some r1.1]:=
 (ent_seg E 139 [] 400 [x0,x1] H).trans (by kernel_rfl)
theorem e140 (x0 x1:D) (H:Heap) :
  ent E 140 [x0,x1] H =
  (lnL x0).bind fun v1=>J E 140 2 [x0,x1,v1,(D.int .i64 0)] H:=
 (ent_seg E 140 [2] 400 [x0,x1] H).trans (by kernel_rfl)
theorem j140_2 (x0 x1 x7 x8:D) (H:Heap) :
  J E 140 2 [x0,x1,x7,x8] H =
  (bI .lss x8 x7).bind fun v2=>asB v2 fun t=>bif t then ((ia 3 H x0 x8).bind fun v3=>(ld true 3 H v3).bind fun v4=>asFn x1 fun gq5 cq5=>(callFn E (exec E) (modeT 140 gq5) gq5 ([v4]++cq5) H).bind fun r6=>asB r6.1 fun t=>bif t then (ret_ r6.2 [some x8]) else ((bI .add x8 (D.int .i64 1)).bind fun v7=>J E 140 2 [x0,x1,x7,v7] r6.2)) else (ret_ H [some (D.int .i64 (-1))]):=
 (J_seg E 140 2 [2] 400 [x0,x1,x7,x8] H).trans (by kernel_rfl)
theorem e141 (x0 x1:D) (H:Heap) :
  ent E 141 [x0,x1] H =
  alloc_ H (D.cells x0) fun p1 H1=>(fa 0 p1).bind fun v2=>(ld false 1 H1 v2).bind fun v3=>(ld false 1 H1 x1).bind fun v4=>(bI .eql v3 v4).bind fun v5=>ret_ H1 [some v5]:=
 (ent_seg E 141 [] 400 [x0,x1] H).trans (by kernel_rfl)
theorem e142 (x0 x1:D) (H:Heap) :
  ent E 142 [x0,x1] H =
  (callFn E (exec E) .raw 173 [x0,x1] H).bind fun r1=>(bI .geq r1.1 (D.int .i64 0)).bind fun v2=>ret_ r1.2 [some v2]:=
 (ent_seg E 142 [] 400 [x0,x1] H).trans (by kernel_rfl)
theorem e143 (x0 x1:D) (H:Heap) :
  ent E 143 [x0,x1] H =
  alloc_ H (D.cells x0) fun p1 H1=>(fa 0 p1).bind fun v2=>(ld false 1 H1 v2).bind fun v3=>(bI .eql v3 (D.int .i64 3)).bind fun v4=>asB v4 fun t=>bif t then ((ld true 7 H1 x1).bind fun v5=>(fa 1 p1).bind fun v6=>(ld false 1 H1 v6).bind fun v7=>(callFn E (exec E) .pure 71 [v5,v7] H1).bind fun r8=>(unOp .not r8.1).bind fun v9=>asB v9 fun t=>bif t then (ret_ r8.2 [some (D.bool true)]) else ((fa 0 p1).bind fun v10=>(ld false 1 r8.2 v10).bind fun v11=>(bI .neq v11 (D.int .i64 3)).bind fun v12=>asB v12 fun t=>bif t then ((fa 1 p1).bind fun v13=>(ld false 1 r8.2 v13).bind fun v14=>(bI .neq v14 (D.int .i64 0)).bind fun v15=>ret_ r8.2 [some v15]) else (ret_ r8.2 [some (D.bool false)]))) else ((fa 0 p1).bind fun v16=>(ld false 1 H1 v16).bind fun v17=>(bI .neq v17 (D.int .i64 3)).bind fun v18=>asB v18 fun t=>bif t then ((fa 1 p1).bind fun v19=>(ld false 1 H1 v19).bind fun v20=>(bI .neq v20 (D.int .i64 0)).bind fun v21=>ret_ H1 [some v21]) else (ret_ H1 [some (D.bool false)])):=
 (ent_seg E 143 [] 400 [x0,x1] H).trans (by kernel_rfl)
theorem e144 (x0:D) (H:Heap) :
  ent E 144 [x0] H =
  (callFn E (exec E) .pure 174 [x0,(D.int .i64 10)] H).bind fun r1=>ret_ r1.2 [some r1.1]:=
 (ent_seg E 144 [] 400 [x0] H).trans (by kernel_rfl)
theorem e145 (x0 x1:D) (H:Heap) :
  ent E 145 [x0,x1] H =
  alloc_ H (D.cells x0) fun p1 H1=>alloc_ H1 (D.cells x1) fun p2 H2=>(fa 0 p1).bind fun v3=>(ld false 1 H2 v3).bind fun v4=>(fa 0 p2).bind fun v5=>(ld false 1 H2 v5).bind fun v6=>(bI .neq v4 v6).bind fun v7=>asB v7 fun t=>bif t then (ret_ H2 [some (D.bool false)]) else ((fa 1 p1).bind fun v8=>(ld false 1 H2 v8).bind fun v9=>(fa 1 p2).bind fun v10=>(ld false 1 H2 v10).bind fun v11=>(bI .neq v9 v11).bind fun v12=>asB v12 fun t=>bif t then (ret_ H2 [some (D.bool false)]) else ((fa 2 p1).bind fun v13=>(ld false 1 H2 v13).bind fun v14=>(fa 2 p2).bind fun v15=>(ld false 1 H2 v15).bind fun v16=>(bI .neq v14 v16).bind fun v17=>asB v17 fun t=>bif t then (ret_ H2 [some (D.bool false)]) else ((fa 3 p1).bind fun v18=>(ld false 1 H2 v18).bind fun v19=>(fa 3 p2).bind fun v20=>(ld false 1 H2 v20).bind fun v21=>(bI .neq v19 v21).bind fun v22=>asB v22 fun t=>bif t then (ret_ H2 [some (D.bool false)]) else (ret_ H2 [some (D.bool true)])))):=
 (ent_seg E 145 [] 400 [x0,x1] H).trans (by kernel_rfl)
theorem e146 (x0 x1:D) (H:Heap) :
  ent E 146 [x0,x1] H =
  alloc_ H (D.cells x0) fun p1 H1=>alloc_ H1 (D.cells x1) fun p2 H2=>(fa 0 p1).bind fun v3=>(ld false 1 H2 v3).bind fun v4=>(fa 0 p2).bind fun v5=>(ld false 1 H2 v5).bind fun v6=>(bI .neq v4 v6).bind fun v7=>asB v7 fun t=>bif t then (ret_ H2 [some (D.bool false)]) else ((fa 1 p1).bind fun v8=>(ld false 1 H2 v8).bind fun v9=>(fa 1 p2).bind fun v10=>(ld false 1 H2 v10).bind fun v11=>(callFn E (exec E) .pure 175 [v9,v11] H2).bind fun r12=>(unOp .not r12.1).bind fun v13=>asB v13 fun t=>bif t then (ret_ r12.2 [some (D.bool false)]) else ((fa 2 p1).bind fun v14=>(ld false 1 r12.2 v14).bind fun v15=>(fa 2 p2).bind fun v16=>(ld false 1 r12.2 v16).bind fun v17=>(callFn E (exec E) .pure 175 [v15,v17] r12.2).bind fun r18=>(unOp .not r18.1).bind fun v19=>asB v19 fun t=>bif t then (ret_ r18.2 [some (D.bool false)]) else (ret_ r18.2 [some (D.bool true)]))):=
 (ent_seg E 146 [] 400 [x0,x1] H).trans (by kernel_rfl)
theorem e147 (x0 x1:D) (H:Heap) :
  ent E 147 [x0,x1] H =
  (lnL x0).bind fun v1=>(bI .sub x1 v1).bind fun v2=>(bI .lss v2 (D.int .i64 0)).bind fun v3=>asB v3 fun t=>bif t then (ret_ H [some (D.int .i64 (-1))]) else (ret_ H [some v2]):=
 (ent_seg E 147 [] 400 [x0,x1] H).trans (by kernel_rfl)
theorem e148 (x0:D) (H:Heap) :
  ent E 148 [x0] H =
  (lnL x0).bind fun v1=>(callFn E (exec E) .pure 95 [v1] H).bind fun r2=>J E 148 3 [x0,r2.1,(D.int .i64 0)] r2.2:=
 (ent_seg E 148 [3,4] 400 [x0] H).trans (by kernel_rfl)
theorem j148_3 (x0 x3 x4:D) (H:Heap) :
  J E 148 3 [x0,x3,x4] H =
  (lnL x0).bind fun v3=>(bI .lss x4 v3).bind fun v4=>asB v4 fun t=>bif t then ((ia 2 H x0 x4).bind fun v5=>(fa 0 v5).bind fun v6=>(ld false 1 H v6).bind fun v7=>(callFn E (exec E) .pure 95 [v7] H).bind fun r8=>(bS .add x3 r8.1).bind fun v9=>(ia 2 r8.2 x0 x4).bind fun v10=>(fa 0 v10).bind fun v11=>(ld false 1 r8.2 v11).bind fun v12=>(bI .eql v12 (D.int .i64 3)).bind fun v13=>asB v13 fun t=>bif t then ((ia 2 r8.2 x0 x4).bind fun v14=>(fa 1 v14).bind fun v15=>(ld false 1 r8.2 v15).bind fun v16=>(callFn E (exec E) .pure 97 [v16] r8.2).bind fun r17=>(bS .add v9 r17.1).bind fun v18=>J E 148 4 [x0,v18,x4] r17.2) else (J E 148 4 [x0,v9,x4] r8.2)) else (ret_ H [some x3]):=
 (J_seg E 148 3 [3,4] 400 [x0,x3,x4] H).trans (by kernel_rfl)
theorem j148_4 (x0 x3 x4:D) (H:Heap) :
  J E 148 4 [x0,x3,x4] H =
  (bI .add x4 (D.int .i64 1)).bind fun v19=>J E 148 3 [x0,x3,v19] H:=
 (J_seg E 148 4 [3,4] 400 [x0,x3,x4] H).trans (by kernel_rfl)
theorem e149 (x0 x1:D) (H:Heap) :
  ent E 149 [x0,x1] H =
  (nilCheck x0).bind fun v1=>(fa 2 v1).bind fun v2=>(ld false 1 H v2).bind fun v3=>asB v3 fun t=>bif t then ((nilCheck x0).bind fun v4=>(fa 2 v4).bind fun v5=>(st 1 H v5 (D.bool true)).bind fun H6=>ret_ H6 [some (D.str [])]) else ((nilCheck x0).bind fun v7=>(fa 1 v7).bind fun v8=>(ld false 1 H v8).bind fun v9=>(bI .add v9 x1).bind fun v10=>(nilCheck x0).bind fun v11=>(fa 0 v11).bind fun v12=>(ld false 1 H v12).bind fun v13=>(lnS v13).bind fun v14=>(bI .gtr v10 v14).bind fun v15=>asB v15 fun t=>bif t then ((nilCheck x0).bind fun v16=>(fa 2 v16).bind fun v17=>(st 1 H v17 (D.bool true)).bind fun H18=>ret_ H18 [some (D.str [])]) else ((nilCheck x0).bind fun v19=>(fa 1 v19).bind fun v20=>(ld false 1 H v20).bind fun v21=>(bI .add v21 x1).bind fun v22=>(nilCheck x0).bind fun v23=>(fa 1 v23).bind fun v24=>(st 1 H v24 v22).bind fun H25=>(nilCheck x0).bind fun v26=>(fa 0 v26).bind fun v27=>(ld false 1 H25 v27).bind fun v28=>(nilCheck x0).bind fun v29=>(fa 1 v29).bind fun v30=>(ld false 1 H25 v30).bind fun v31=>(bI .sub v31 x1).bind fun v32=>(nilCheck x0).bind fun v33=>(fa 1 v33).bind fun v34=>(ld false 1 H25 v34).bind fun v35=>(slS v28 (some v32) (some v35) none).bind fun v36=>ret_ H25 [some v36])):=
 (ent_seg E 149 [] 400 [x0,x1] H).trans (by kernel_rfl)
theorem e150 (x0:D) (H:Heap) :
  ent E 150 [x0] H =
  (bsl 4 [.int .i64 0,.str [],.int .i64 0,.int .i64 0] H 0 []).bind fun r1=>(callFn E (exec E) .raw 151 [x0] r1.2).bind fun r2=>(bI .gtr r2.1 (D.int .i64 60)).bind fun v3=>asB v3 fun t=>bif t then ((nilCheck x0).bind fun v4=>(fa 2 v4).bind fun v5=>(st 1 r2.2 v5 (D.bool true)).bind fun H6=>J E 150 5 [x0,r1.1,r2.1] H6) else (J E 150 5 [x0,r1.1,r2.1] r2.2):=
 (ent_seg E 150 [5,6] 400 [x0] H).trans (by kernel_rfl)
theorem j150_5 (x0 x3 x4:D) (H:Heap) :
  J E 150 5 [x0,x3,x4] H =
  J E 150 6 [x0,x3,x4,(D.int .i64 0)] H:=
 (J_seg E 150 5 [5,6] 400 [x0,x3,x4] H).trans (by kernel_rfl)
theorem j150_6 (x0 x3 x4 x5:D) (H:Heap) :
  J E 150 6 [x0,x3,x4,x5] H =
  (bI .lss x5 x4).bind fun v7=>asB v7 fun t=>bif t then ((nilCheck x0).bind fun v8=>(fa 2 v8).bind fun v9=>(ld false 1 H v9).bind fun v10=>(unOp .not v10).bind fun v11=>asB v11 fun t=>bif t then ((callFn E (exec E) .raw 176 [x0] H).bind fun r12=>(bsl 4 [.int .i64 0,.str [],.int .i64 0,.int .i64 0] r12.2 1 [(0,r12.1)]).bind fun r13=>(app 4 40 r13.2 x3 r13.1).bind fun r14=>(bI .add x5 (D.int .i64 1)).bind fun v15=>J E 150 6 [x0,r14.1,x4,v15] r14.2) else (ret_ H [some x3])) else (ret_ H [some x3]):=
 (J_seg E 150 6 [5,6] 400 [x0,x3,x4,x5] H).trans (by kernel_rfl)
theorem e151 (x0:D) (H:Heap) :
  ent E 151 [x0] H =
  (nilCheck x0).bind fun v1=>(fa 2 v1).bind fun v2=>(ld false 1 H v2).bind fun v3=>asB v3 fun t=>bif t then ((nilCheck x0).bind fun v4=>(fa 2 v4).bind fun v5=>(st 1 H v5 (D.bool true)).bind fun H6=>ret_ H6 [some (D.int .i64 0)]) else ((nilCheck x0).bind fun v7=>(fa 1 v7).bind fun v8=>(ld false 1 H v8).bind fun v9=>(nilCheck x0).bind fun v10=>(fa 0 v10).bind fun v11=>(ld false 1 H v11).bind fun v12=>(lnS v12).bind fun v13=>(bI .geq v9 v13).bind fun v14=>asB v14 fun t=>bif t then ((nilCheck x0).bind fun v15=>(fa 2 v15).bind fun v16=>(st 1 H v16 (D.bool true)).bind fun H17=>ret_ H17 [some (D.int .i64 0)]) else ((nilCheck x0).bind fun v18=>(fa 1 v18).bind fun v19=>(ld false 1 H v19).bind fun v20=>(bI .add v20 (D.int .i64 1)).bind fun v21=>(nilCheck x0).bind fun v22=>(fa 1 v22).bind fun v23=>(st 1 H v23 v21).bind fun H24=>(nilCheck x0).bind fun v25=>(fa 0 v25).bind fun v26=>(ld false 1 H24 v26).bind fun v27=>(nilCheck x0).bind fun v28=>(fa 1 v28).bind fun v29=>(ld false 1 H24 v29).bind fun v30=>(bI .sub v30 (D.int .i64 1)).bind fun v31=>(ix v27 v31).bind fun v32=>(cI .i64 v32).bind fun v33=>ret_ H24 [some v33])):=
 (ent_seg E 151 [] 400 [x0] H).trans (by kernel_rfl)
theorem e152 (x0:D) (H:Heap) :
  ent E 152 [x0] H =
  (callFn E (exec E) .raw 151 [x0] H).bind fun r1=>(callFn E (exec E) .raw 151 [x0] r1.2).bind fun r2=>(bI .mul r1.1 (D.int .i64 256)).bind fun v3=>(bI .add v3 r2.1).bind fun v4=>ret_ r2.2 [some v4]:=
 (ent_seg E 152 [] 400 [x0] H).trans (by kernel_rfl)
theorem e153 (x0:D) (H:Heap) :
  ent E 153 [x0] H =
  alloc_ H [.int .i64 0,.int .i64 0,.int .i64 0,.int .i64 0,.int .i64 0,.str [],.sl0,.sl0] fun p1 H1=>(callFn E (exec E) .raw 151 [x0] H1).bind fun r2=>(callFn E (exec E) .raw 152 [x0] r2.2).bind fun r3=>(callFn E (exec E) .raw 152 [x0] r3.2).bind fun r4=>(bld [.int .i64 0,.int .i64 0,.int .i64 0,.int .i64 0,.int .i64 0,.str [],.sl0,.sl0] [(0,1,false),(1,1,false),(2,1,false),(3,1,false),(4,1,false),(5,1,false),(6,1,false),(7,1,false)] [(0,r2.1),(1,r3.1),(2,r4.1)]).bind fun v5=>alloc_ r4.2 [.int .i64 0,.int .i64 0,.int .i64 0,.int .i64 0,.int .i64 0,.str [],.sl0,.sl0] fun p6 H6=>(st 8 H6 p6 v5).bind fun H7=>(fa 0 p6).bind fun v8=>(ld false 1 H7 v8).bind fun v9=>(bI .rem v9 (D.int .i64 16)).bind fun v10=>(bI .quo v10 (D.int .i64 8)).bind fun v11=>(bI .eql v11 (D.int .i64 1)).bind fun v12=>asB v12 fun t=>bif t then ((ld true 8 H7 p6).bind fun v13=>(st 8 H7 p1 v13).bind fun H14=>ret_ H14 [ld true 8 H14 p1]) else ((ld true 8 H7 p6).bind fun v15=>(callFn E (exec E) .raw 177 [x0,v15] H7).bind fun r16=>(st 8 r16.2 p1 r16.1).bind fun H17=>ret_ H17 [ld true 8 H17 p1]):=
 (ent_seg E 153 [] 400 [x0] H).trans (by kernel_rfl)
theorem e154 (x0 x1:D) (H:Heap) :
  ent E 154 [x0,x1] H =
  (lnL x0).bind fun v1=>(lnL x1).bind fun v2=>(bI .neq v1 v2).bind fun v3=>asB v3 fun t=>bif t then (ret_ H [some (D.bool false)]) else (J E 154 4 [x0,x1,(D.int .i64 0)] H):=
 (ent_seg E 154 [4,6] 400 [x0,x1] H).trans (by kernel_rfl)
theorem j154_4 (x0 x1 x5:D) (H:Heap) :
  J E 154 4 [x0,x1,x5] H =
  (lnL x0).bind fun v4=>(bI .lss x5 v4).bind fun v5=>asB v5 fun t=>bif t then (J E 154 6 [x0,x1,x5] H) else (ret_ H [some (D.bool true)]):=
 (J_seg E 154 4 [4,6] 400 [x0,x1,x5] H).trans (by kernel_rfl)
theorem j154_6 (x0 x1 x5:D) (H:Heap) :
  J E 154 6 [x0,x1,x5] H =
  (ia 3 H x0 x5).bind fun v6=>(fa 0 v6).bind fun v7=>(ld false 1 H v7).bind fun v8=>(ia 3 H x1 x5).bind fun v9=>(fa 0 v9).bind fun v10=>(ld false 1 H v10).bind fun v11=>(bI .neq v8 v11).bind fun v12=>asB v12 fun t=>bif t then (ret_ H [some (D.bool false)]) else ((ia 3 H x0 x5).bind fun v13=>(fa 1 v13).bind fun v14=>(ld false 1 H v14).bind fun v15=>(ia 3 H x1 x5).bind fun v16=>(fa 1 v16).bind fun v17=>(ld false 1 H v17).bind fun v18=>(callFn E (exec E) .pure 178 [v15,v18] H).bind fun r19=>(unOp .not r19.1).bind fun v20=>asB v20 fun t=>bif t then (ret_ r19.2 [some (D.bool false)]) else ((ia 3 r19.2 x0 x5).bind fun v21=>(fa 2 v21).bind fun v22=>(ld false 1 r19.2 v22).bind fun v23=>(ia 3 r19.2 x1 x5).bind fun v24=>(fa 2 v24).bind fun v25=>(ld false 1 r19.2 v25).bind fun v26=>(callFn E (exec E) .pure 178 [v23,v26] r19.2).bind fun r27=>(unOp .not r27.1).bind fun v28=>asB v28 fun t=>bif t then (ret_ r27.2 [some (D.bool false)]) else ((bI .add x5 (D.int .i64 1)).bind fun v29=>J E 154 4 [x0,x1,v29] r27.2))):=
 (J_seg E 154 6 [4,6] 400 [x0,x1,x5] H).trans (by kernel_rfl)
theorem e155 (x0 x1 x2:D) (H:Heap) :
  ent E 155 [x0,x1,x2] H =
  (callFn E (exec E) .pure 31 [x0,x1] H).bind fun r1=>(fd (0,1,false) r1.1).bind fun v2=>(bI .eql v2 x2).bind fun v3=>ret_ r1.2 [some v3]:=
 (ent_seg E 155 [] 400 [x0,x1,x2] H).trans (by kernel_rfl)
theorem e156 (x0 x1:D) (H:Heap) :
  ent E 156 [x0,x1] H =
  (lnS x0).bind fun v1=>(bI .lss x1 v1).bind fun v2=>asB v2 fun t=>bif t then ((ix x0 x1).bind fun v3=>(bI .eql v3 (D.int .u8 73)).bind fun v4=>asB v4 fun t=>bif t then ((bI .add x1 (D.int .i64 1)).bind fun v5=>ret_ H [some v5]) else ((lnS x0).bind fun v6=>(bI .geq x1 v6).bind fun v7=>asB v7 fun t=>bif t then (ret_ H [some (D.int .i64 (-1))]) else ((ix x0 x1).bind fun v8=>(bI .neq v8 (D.int .u8 76)).bind fun v9=>asB v9 fun t=>bif t then (ret_ H [some (D.int .i64 (-1))]) else ((bI .add x1 (D.int .i64 1)).bind fun v10=>J E 156 6 [x0,x1,v10] H)))) else ((lnS x0).bind fun v11=>(bI .geq x1 v11).bind fun v12=>asB v12 fun t=>bif t then (ret_ H [some (D.int .i64 (-1))]) else ((ix x0 x1).bind fun v13=>(bI .neq v13 (D.int .u8 76)).bind fun v14=>asB v14 fun t=>bif t then (ret_ H [some (D.int .i64 (-1))]) else ((bI .add x1 (D.int .i64 1)).bind fun v15=>J E 156 6 [x0,x1,v15] H))):=
 (ent_seg E 156 [6] 400 [x0,x1] H).trans (by kernel_rfl)
theorem j156_6 (x0 x1 x5:D) (H:Heap) :
  J E 156 6 [x0,x1,x5] H =
  (lnS x0).bind fun v16=>(bI .lss x5 v16).bind fun v17=>asB v17 fun t=>bif t then ((ix x0 x5).bind fun v18=>(bI .eql v18 (D.int .u8 59)).bind fun v19=>asB v19 fun t=>bif t then ((bI .add x1 (D.int .i64 1)).bind fun v20=>(slS x0 (some v20) (some x5) none).bind fun v21=>(callFn E (exec E) .pure 63 [v21] H).bind fun r22=>asB r22.1 fun t=>bif t then ((bI .add x5 (D.int .i64 1)).bind fun v23=>ret_ r22.2 [some v23]) else (ret_ r22.2 [some (D.int .i64 (-1))])) else ((bI .add x5 (D.int .i64 1)).bind fun v24=>J E 156 6 [x0,x1,v24] H)) else (ret_ H [some (D.int .i64 (-1))]):=
 (J_seg E 156 6 [6] 400 [x0,x1,x5] H).trans (by kernel_rfl)
theorem e157 (x0:D) (H:Heap) :
  ent E 157 [x0] H =
  (bsl 1 [.str []] H 0 []).bind fun r1=>(lnS x0).bind fun v2=>(bI .eql v2 (D.int .i64 0)).bind fun v3=>asB v3 fun t=>bif t then (ret_ r1.2 [some D.sl0,some (D.str []),some (D.bool false)]) else ((ix x0 (D.int .i64 0)).bind fun v4=>(bI .neq v4 (D.int .u8 40)).bind fun v5=>asB v5 fun t=>bif t then (ret_ r1.2 [some D.sl0,some (D.str []),some (D.bool false)]) else (J E 157 5 [x0,r1.1,(D.int .i64 1)] r1.2)):=
 (ent_seg E 157 [5] 400 [x0] H).trans (by kernel_rfl)
theorem j157_5 (x0 x5 x6:D) (H:Heap) :
  J E 157 5 [x0,x5,x6] H =
  (lnS x0).bind fun v6=>(bI .lss x6 v6).bind fun v7=>asB v7 fun t=>bif t then ((ix x0 x6).bind fun v8=>(bI .neq v8 (D.int .u8 41)).bind fun v9=>asB v9 fun t=>bif t then ((callFn E (exec E) .pure 156 [x0,x6] H).bind fun r10=>(bI .lss r10.1 (D.int .i64 0)).bind fun v11=>asB v11 fun t=>bif t then (ret_ r10.2 [some D.sl0,some (D.str []),some (D.bool false)]) else ((lnL x5).bind fun v12=>(bI .geq v12 (D.int .i64 4)).bind fun v13=>asB v13 fun t=>bif t then (ret_ r10.2 [some D.sl0,some (D.str []),some (D.bool false)]) else ((slS x0 (some x6) (some r10.1) none).bind fun v14=>(bsl 1 [.str []] r10.2 1 [(0,v14)]).bind fun r15=>(app 1 16 r15.2 x5 r15.1).bind fun r16=>J E 157 5 [x0,r16.1,r10.1] r16.2))) else ((lnS x0).bind fun v17=>(bI .geq x6 v17).bind fun v18=>asB v18 fun t=>bif t then (ret_ H [some D.sl0,some (D.str []),some (D.bool false)]) else ((bI .add x6 (D.int .i64 1)).bind fun v19=>(slS x0 (some v19) none none).bind fun v20=>(bS .neq v20 (D.str [86])).bind fun v21=>asB v21 fun t=>bif t then ((callFn E (exec E) .pure 104 [v20] H).bind fun r22=>(unOp .not r22.1).bind fun v23=>asB v23 fun t=>bif t then (ret_ r22.2 [some D.sl0,some (D.str []),some (D.bool false)]) else (ret_ r22.2 [some x5,some v20,some (D.bool true)])) else (ret_ H [some x5,some v20,some (D.bool true)])))) else ((lnS x0).bind fun v24=>(bI .geq x6 v24).bind fun v25=>asB v25 fun t=>bif t then (ret_ H [some D.sl0,some (D.str []),some (D.bool false)]) else ((bI .add x6 (D.int .i64 1)).bind fun v26=>(slS x0 (some v26) none none).bind fun v27=>(bS .neq v27 (D.str [86])).bind fun v28=>asB v28 fun t=>bif t then ((callFn E (exec E) .pure 104 [v27] H).bind fun r29=>(unOp .not r29.1).bind fun v30=>asB v30 fun t=>bif t then (ret_ r29.2 [some D.sl0,some (D.str []),some (D.bool false)]) else (ret_ r29.2 [some x5,some v27,some (D.bool true)])) else (ret_ H [some x5,some v27,some (D.bool true)]))):=
 (J_seg E 157 5 [5] 400 [x0,x5,x6] H).trans (by kernel_rfl)
theorem e158 (x0:D) (H:Heap) :
  ent E 158 [x0] H =
  (bI .eql x0 (D.int .i64 1)).bind fun v1=>asB v1 fun t=>bif t then (ret_ H [some (D.int .i64 2)]) else ((bI .eql x0 (D.int .i64 3)).bind fun v2=>asB v2 fun t=>bif t then (asB v2 fun t=>bif t then (J E 158 8 [] H) else (J E 158 9 [x0] H)) else ((bI .eql x0 (D.int .i64 4)).bind fun v3=>asB v3 fun t=>bif t then (asB v3 fun t=>bif t then (J E 158 8 [] H) else (J E 158 9 [x0] H)) else ((bI .eql x0 (D.int .i64 5)).bind fun v4=>asB v4 fun t=>bif t then (asB v4 fun t=>bif t then (J E 158 8 [] H) else (J E 158 9 [x0] H)) else ((bI .eql x0 (D.int .i64 6)).bind fun v5=>asB v5 fun t=>bif t then (J E 158 8 [] H) else (J E 158 9 [x0] H))))):=
 (ent_seg E 158 [8,9] 400 [x0] H).trans (by kernel_rfl)
theorem j158_8 (H:Heap) :
  J E 158 8 [] H =
  ret_ H [some (D.int .i64 1)]:=
 (J_seg E 158 8 [8,9] 400 [] H).trans (by kernel_rfl)
theorem j158_9 (x0:D) (H:Heap) :
  J E 158 9 [x0] H =
  (callFn E (exec E) .pure 14 [x0,(D.int .i64 14),(D.int .i64 18)] H).bind fun r6=>asB r6.1 fun t=>bif t then (ret_ r6.2 [some (D.int .i64 2)]) else ((callFn E (exec E) .pure 14 [x0,(D.int .i64 19),(D.int .i64 29)] r6.2).bind fun r7=>asB r7.1 fun t=>bif t then (ret_ r7.2 [some (D.int .i64 2)]) else ((callFn E (exec E) .pure 14 [x0,(D.int .i64 0),(D.int .i64 34)] r7.2).bind fun r8=>asB r8.1 fun t=>bif t then (ret_ r8.2 [some (D.int .i64 0)]) else (ret_ r8.2 [some (D.int .i64 (-1))]))):=
 (J_seg E 158 9 [8,9] 400 [x0] H).trans (by kernel_rfl)
theorem e159 (x0 x1:D) (H:Heap) :
  ent E 159 [x0,x1] H =
  (lnS x0).bind fun v1=>(bI .eql v1 (D.int .i64 0)).bind fun v2=>asB v2 fun t=>bif t then (ret_ H [some (D.int .i64 0)]) else ((ix x0 (D.int .i64 0)).bind fun v3=>(cI .i64 v3).bind fun v4=>(lnS x0).bind fun v5=>(bI .eql v5 (D.int .i64 2)).bind fun v6=>asB v6 fun t=>bif t then ((bI .mul v4 (D.int .i64 256)).bind fun v7=>(ix x0 (D.int .i64 1)).bind fun v8=>(cI .i64 v8).bind fun v9=>(bI .add v7 v9).bind fun v10=>J E 159 6 [x1,v10] H) else (J E 159 6 [x1,v4] H)):=
 (ent_seg E 159 [6] 400 [x0,x1] H).trans (by kernel_rfl)
theorem j159_6 (x1 x5:D) (H:Heap) :
  J E 159 6 [x1,x5] H =
  (bI .eql x1 (D.int .i64 1)).bind fun v11=>asB v11 fun t=>bif t then ((bI .geq x5 (D.int .i64 32768)).bind fun v12=>asB v12 fun t=>bif t then ((bI .sub x5 (D.int .i64 65536)).bind fun v13=>ret_ H [some v13]) else (ret_ H [some x5])) else (ret_ H [some x5]):=
 (J_seg E 159 6 [6] 400 [x1,x5] H).trans (by kernel_rfl)
theorem e160 (x0 x1:D) (H:Heap) :
  ent E 160 [x0,x1] H =
  J E 160 2 [x0,x1,(D.int .i64 0)] H:=
 (ent_seg E 160 [2] 400 [x0,x1] H).trans (by kernel_rfl)
theorem j160_2 (x0 x1 x5:D) (H:Heap) :
  J E 160 2 [x0,x1,x5] H =
  (lnL x0).bind fun v1=>(bI .lss x5 v1).bind fun v2=>asB v2 fun t=>bif t then ((ia 3 H x0 x5).bind fun v3=>(fa 0 v3).bind fun v4=>(ld false 1 H v4).bind fun v5=>(bI .eql v5 x1).bind fun v6=>asB v6 fun t=>bif t then (ret_ H [some x5]) else ((bI .add x5 (D.int .i64 1)).bind fun v7=>J E 160 2 [x0,x1,v7] H)) else (ret_ H [some (D.int .i64 (-1))]):=
 (J_seg E 160 2 [2] 400 [x0,x1,x5] H).trans (by kernel_rfl)
theorem e161 (x0:D) (H:Heap) :
  ent E 161 [x0] H =
  (bI .eql x0 (D.int .i64 19)).bind fun v1=>asB v1 fun t=>bif t then (asB v1 fun t=>bif t then (J E 161 5 [] H) else (J E 161 6 [x0] H)) else ((bI .eql x0 (D.int .i64 28)).bind fun v2=>asB v2 fun t=>bif t then (asB v2 fun t=>bif t then (J E 161 5 [] H) else (J E 161 6 [x0] H)) else ((bI .eql x0 (D.int .i64 29)).bind fun v3=>asB v3 fun t=>bif t then (J E 161 5 [] H) else (J E 161 6 [x0] H))):=
 (ent_seg E 161 [5,6,10,11,14,15] 400 [x0] H).trans (by kernel_rfl)
theorem j161_5 (H:Heap) :
  J E 161 5 [] H =
  ret_ H [some (D.int .i64 2)]:=
 (J_seg E 161 5 [5,6,10,11,14,15] 400 [] H).trans (by kernel_rfl)
theorem j161_6 (x3:D) (H:Heap) :
  J E 161 6 [x3] H =
  (bI .eql x3 (D.int .i64 20)).bind fun v4=>asB v4 fun t=>bif t then (asB v4 fun t=>bif t then (J E 161 10 [] H) else (J E 161 11 [x3] H)) else ((bI .eql x3 (D.int .i64 21)).bind fun v5=>asB v5 fun t=>bif t then (asB v5 fun t=>bif t then (J E 161 10 [] H) else (J E 161 11 [x3] H)) else ((bI .eql x3 (D.int .i64 22)).bind fun v6=>asB v6 fun t=>bif t then (asB v6 fun t=>bif t then (J E 161 10 [] H) else (J E 161 11 [x3] H)) else ((bI .eql x3 (D.int .i64 23)).bind fun v7=>asB v7 fun t=>bif t then (J E 161 10 [] H) else (J E 161 11 [x3] H)))):=
 (J_seg E 161 6 [5,6,10,11,14,15] 400 [x3] H).trans (by kernel_rfl)
theorem j161_10 (H:Heap) :
  J E 161 10 [] H =
  ret_ H [some (D.int .i64 4)]:=
 (J_seg E 161 10 [5,6,10,11,14,15] 400 [] H).trans (by kernel_rfl)
theorem j161_11 (x3:D) (H:Heap) :
  J E 161 11 [x3] H =
  (bI .eql x3 (D.int .i64 24)).bind fun v8=>asB v8 fun t=>bif t then (asB v8 fun t=>bif t then (J E 161 14 [] H) else (J E 161 15 [x3] H)) else ((bI .eql x3 (D.int .i64 25)).bind fun v9=>asB v9 fun t=>bif t then (asB v9 fun t=>bif t then (J E 161 14 [] H) else (J E 161 15 [x3] H)) else ((bI .eql x3 (D.int .i64 26)).bind fun v10=>asB v10 fun t=>bif t then (J E 161 14 [] H) else (J E 161 15 [x3] H))):=
 (J_seg E 161 11 [5,6,10,11,14,15] 400 [x3] H).trans (by kernel_rfl)
theorem j161_14 (H:Heap) :
  J E 161 14 [] H =
  ret_ H [some (D.int .i64 5)]:=
 (J_seg E 161 14 [5,6,10,11,14,15] 400 [] H).trans (by kernel_rfl)
theorem j161_15 (x3:D) (H:Heap) :
  J E 161 15 [x3] H =
  (bI .eql x3 (D.int .i64 27)).bind fun v11=>asB v11 fun t=>bif t then (ret_ H [some (D.int .i64 6)]) else (ret_ H [some (D.int .i64 0)]):=
 (J_seg E 161 15 [5,6,10,11,14,15] 400 [x3] H).trans (by kernel_rfl)
theorem e162 (x0 x1:D) (H:Heap) :
  ent E 162 [x0,x1] H =
  alloc_ H (D.cells x0) fun p1 H1=>J E 162 2 [x1,p1,(D.int .i64 0)] H1:=
 (ent_seg E 162 [2,4] 400 [x0,x1] H).trans (by kernel_rfl)
theorem j162_2 (x1 x2 x5:D) (H:Heap) :
  J E 162 2 [x1,x2,x5] H =
  (lnL x1).bind fun v2=>(bI .lss x5 v2).bind fun v3=>asB v3 fun t=>bif t then (J E 162 4 [x1,x2,x5] H) else (ret_ H [some (D.bool true)]):=
 (J_seg E 162 2 [2,4] 400 [x1,x2,x5] H).trans (by kernel_rfl)
theorem j162_4 (x1 x2 x5:D) (H:Heap) :
  J E 162 4 [x1,x2,x5] H =
  (ia 2 H x1 x5).bind fun v4=>(fa 0 v4).bind fun v5=>(ld false 1 H v5).bind fun v6=>(callFn E (exec E) .pure 14 [v6,(D.int .i64 0),(D.int .i64 3)] H).bind fun r7=>(unOp .not r7.1).bind fun v8=>asB v8 fun t=>bif t then (ret_ r7.2 [some (D.bool false)]) else ((ia 2 r7.2 x1 x5).bind fun v9=>(fa 0 v9).bind fun v10=>(ld false 1 r7.2 v10).bind fun v11=>(bI .eql v11 (D.int .i64 3)).bind fun v12=>asB v12 fun t=>bif t then ((fa 0 x2).bind fun v13=>(ld false 1 r7.2 v13).bind fun v14=>(ia 2 r7.2 x1 x5).bind fun v15=>(fa 1 v15).bind fun v16=>(ld false 1 r7.2 v16).bind fun v17=>(callFn E (exec E) .pure 32 [v14,v17] r7.2).bind fun r18=>(bS .eql r18.1 (D.str [])).bind fun v19=>asB v19 fun t=>bif t then (ret_ r18.2 [some (D.bool false)]) else ((ia 2 r18.2 x1 x5).bind fun v20=>(fa 0 v20).bind fun v21=>(ld false 1 r18.2 v21).bind fun v22=>(bI .neq v22 (D.int .i64 3)).bind fun v23=>asB v23 fun t=>bif t then ((ia 2 r18.2 x1 x5).bind fun v24=>(fa 1 v24).bind fun v25=>(ld false 1 r18.2 v25).bind fun v26=>(bI .neq v26 (D.int .i64 0)).bind fun v27=>asB v27 fun t=>bif t then (ret_ r18.2 [some (D.bool false)]) else ((bI .add x5 (D.int .i64 1)).bind fun v28=>J E 162 2 [x1,x2,v28] r18.2)) else ((bI .add x5 (D.int .i64 1)).bind fun v29=>J E 162 2 [x1,x2,v29] r18.2))) else ((ia 2 r7.2 x1 x5).bind fun v30=>(fa 0 v30).bind fun v31=>(ld false 1 r7.2 v31).bind fun v32=>(bI .neq v32 (D.int .i64 3)).bind fun v33=>asB v33 fun t=>bif t then ((ia 2 r7.2 x1 x5).bind fun v34=>(fa 1 v34).bind fun v35=>(ld false 1 r7.2 v35).bind fun v36=>(bI .neq v36 (D.int .i64 0)).bind fun v37=>asB v37 fun t=>bif t then (ret_ r7.2 [some (D.bool false)]) else ((bI .add x5 (D.int .i64 1)).bind fun v38=>J E 162 2 [x1,x2,v38] r7.2)) else ((bI .add x5 (D.int .i64 1)).bind fun v39=>J E 162 2 [x1,x2,v39] r7.2))):=
 (J_seg E 162 4 [2,4] 400 [x1,x2,x5] H).trans (by kernel_rfl)
theorem e163 (x0:D) (H:Heap) :
  ent E 163 [x0] H =
  (lnL x0).bind fun v1=>(mks 16 [.int .i64 0,.int .i64 0] H v1 v1).bind fun r2=>J E 163 3 [x0,r2.1,(D.int .i64 0)] r2.2:=
 (ent_seg E 163 [3] 400 [x0] H).trans (by kernel_rfl)
theorem j163_3 (x0 x3 x4:D) (H:Heap) :
  J E 163 3 [x0,x3,x4] H =
  (lnL x0).bind fun v3=>(bI .lss x4 v3).bind fun v4=>asB v4 fun t=>bif t then ((ia 2 H x0 x4).bind fun v5=>(ld true 2 H v5).bind fun v6=>(callFn E (exec E) .pure 179 [v6] H).bind fun r7=>(ia 2 r7.2 x3 x4).bind fun v8=>(st 2 r7.2 v8 r7.1).bind fun H9=>(bI .add x4 (D.int .i64 1)).bind fun v10=>J E 163 3 [x0,x3,v10] H9) else (ret_ H [some x3]):=
 (J_seg E 163 3 [3] 400 [x0,x3,x4] H).trans (by kernel_rfl)
theorem e164 (x0:D) (H:Heap) :
  ent E 164 [x0] H =
  (callFn E (exec E) .raw 120 [x0] H).bind fun r1=>(callFn E (exec E) .raw 119 [x0,r1.1,(D.int .i64 8)] r1.2).bind fun r2=>J E 164 3 [x0,D.sl0,r2.1] r2.2:=
 (ent_seg E 164 [3,8] 400 [x0] H).trans (by kernel_rfl)
theorem j164_3 (x0 x3 x4:D) (H:Heap) :
  J E 164 3 [x0,x3,x4] H =
  (bI .gtr x4 (D.int .i64 0)).bind fun v3=>asB v3 fun t=>bif t then ((nilCheck x0).bind fun v4=>(fa 1 v4).bind fun v5=>(ld false 1 H v5).bind fun v6=>(unOp .not v6).bind fun v7=>asB v7 fun t=>bif t then ((callFn E (exec E) .raw 120 [x0] H).bind fun r8=>(callFn E (exec E) .raw 119 [x0,r8.1,(D.int .i64 3)] r8.2).bind fun r9=>(bld [.int .i64 0,.int .i64 0] [(0,1,false),(1,1,false)] [(0,r9.1)]).bind fun v10=>alloc_ r9.2 [.int .i64 0,.int .i64 0] fun p11 H11=>(st 2 H11 p11 v10).bind fun H12=>(fa 0 p11).bind fun v13=>(ld false 1 H12 v13).bind fun v14=>(bI .eql v14 (D.int .i64 3)).bind fun v15=>asB v15 fun t=>bif t then ((callFn E (exec E) .raw 122 [x0] H12).bind fun r16=>(fa 1 p11).bind fun v17=>(st 1 r16.2 v17 r16.1).bind fun H18=>J E 164 8 [x0,x3,x4,p11] H18) else (J E 164 8 [x0,x3,x4,p11] H12)) else (ret_ H [some x3])) else (ret_ H [some x3]):=
 (J_seg E 164 3 [3,8] 400 [x0,x3,x4] H).trans (by kernel_rfl)
theorem j164_8 (x0 x3 x4 x5:D) (H:Heap) :
  J E 164 8 [x0,x3,x4,x5] H =
  (ld true 2 H x5).bind fun v19=>(bsl 2 [.int .i64 0,.int .i64 0] H 1 [(0,v19)]).bind fun r20=>(app 2 16 r20.2 x3 r20.1).bind fun r21=>(bI .sub x4 (D.int .i64 1)).bind fun v22=>J E 164 3 [x0,r21.1,v22] r21.2:=
 (J_seg E 164 8 [3,8] 400 [x0,x3,x4,x5] H).trans (by kernel_rfl)
theorem e165 (x0 x1:D) (H:Heap) :
  ent E 165 [x0,x1] H =
  (lnL x0).bind fun v1=>(lnL x1).bind fun v2=>(bI .neq v1 v2).bind fun v3=>asB v3 fun t=>bif t then (ret_ H [some (D.bool false)]) else ((lnL x0).bind fun v4=>J E 165 4 [x0,x1,v4,(D.int .i64 0)] H):=
 (ent_seg E 165 [4] 400 [x0,x1] H).trans (by kernel_rfl)
theorem j165_4 (x0 x1 x12 x13:D) (H:Heap) :
  J E 165 4 [x0,x1,x12,x13] H =
  (bI .lss x13 x12).bind fun v5=>asB v5 fun t=>bif t then ((ia 4 H x0 x13).bind fun v6=>(ld true 4 H v6).bind fun v7=>(ia 4 H x1 x13).bind fun v8=>(ld true 4 H v8).bind fun v9=>(bA [.int .i64,.int .i64,.int .i64,.int .i64] .neq v7 v9).bind fun v10=>asB v10 fun t=>bif t then (ret_ H [some (D.bool false)]) else ((bI .add x13 (D.int .i64 1)).bind fun v11=>J E 165 4 [x0,x1,x12,v11] H)) else (ret_ H [some (D.bool true)]):=
 (J_seg E 165 4 [4] 400 [x0,x1,x12,x13] H).trans (by kernel_rfl)
theorem e166 (x0 x1 x2:D) (H:Heap) :
  ent E 166 [x0,x1,x2] H =
  (lnL x0).bind fun v1=>(lnL x1).bind fun v2=>(bI .neq v1 v2).bind fun v3=>asB v3 fun t=>bif t then (ret_ H [some (D.bool false)]) else ((lnL x0).bind fun v4=>J E 166 4 [x1,x2,x0,v4,(D.int .i64 0)] H):=
 (ent_seg E 166 [4] 400 [x0,x1,x2] H).trans (by kernel_rfl)
theorem j166_4 (x1 x2 x15 x16 x17:D) (H:Heap) :
  J E 166 4 [x1,x2,x15,x16,x17] H =
  (bI .lss x17 x16).bind fun v5=>asB v5 fun t=>bif t then ((ia 3 H x15 x17).bind fun v6=>(ld true 3 H v6).bind fun v7=>alloc_ H [.int .i64 0,.sl0,.sl0] fun p8 H8=>(st 3 H8 p8 v7).bind fun H9=>(ia 3 H9 x1 x17).bind fun v10=>(ld true 3 H9 v10).bind fun v11=>alloc_ H9 [.int .i64 0,.sl0,.sl0] fun p12 H12=>(st 3 H12 p12 v11).bind fun H13=>(ld true 3 H13 p8).bind fun v14=>(ld true 3 H13 p12).bind fun v15=>asFn x2 fun gq16 cq16=>(callFn E (exec E) (modeT 166 gq16) gq16 ([v14,v15]++cq16) H13).bind fun r17=>(unOp .not r17.1).bind fun v18=>asB v18 fun t=>bif t then (ret_ r17.2 [some (D.bool false)]) else ((bI .add x17 (D.int .i64 1)).bind fun v19=>J E 166 4 [x1,x2,x15,x16,v19] r17.2)) else (ret_ H [some (D.bool true)]):=
 (J_seg E 166 4 [4] 400 [x1,x2,x15,x16,x17] H).trans (by kernel_rfl)
theorem e167 (x0 x1:D) (H:Heap) :
  ent E 167 [x0,x1] H =
  alloc_ H (D.cells x0) fun p1 H1=>alloc_ H1 (D.cells x1) fun p2 H2=>(fa 0 p1).bind fun v3=>(ld false 1 H2 v3).bind fun v4=>(fa 0 p2).bind fun v5=>(ld false 1 H2 v5).bind fun v6=>(bI .eql v4 v6).bind fun v7=>asB v7 fun t=>bif t then ((fa 1 p1).bind fun v8=>(ld false 1 H2 v8).bind fun v9=>(fa 1 p2).bind fun v10=>(ld false 1 H2 v10).bind fun v11=>(callFn E (exec E) .pure 168 [v9,v11] H2).bind fun r12=>asB r12.1 fun t=>bif t then ((fa 2 p1).bind fun v13=>(ld false 1 r12.2 v13).bind fun v14=>(fa 2 p2).bind fun v15=>(ld false 1 r12.2 v15).bind fun v16=>(callFn E (exec E) .pure 168 [v14,v16] r12.2).bind fun r17=>ret_ r17.2 [some r17.1]) else (ret_ r12.2 [some (D.bool false)])) else (ret_ H2 [some (D.bool false)]):=
 (ent_seg E 167 [] 400 [x0,x1] H).trans (by kernel_rfl)
theorem e168 (x0 x1:D) (H:Heap) :
  ent E 168 [x0,x1] H =
  (lnL x0).bind fun v1=>(lnL x1).bind fun v2=>(bI .neq v1 v2).bind fun v3=>asB v3 fun t=>bif t then (ret_ H [some (D.bool false)]) else ((lnL x0).bind fun v4=>J E 168 4 [x0,x1,v4,(D.int .i64 0)] H):=
 (ent_seg E 168 [4] 400 [x0,x1] H).trans (by kernel_rfl)
theorem j168_4 (x0 x1 x12 x13:D) (H:Heap) :
  J E 168 4 [x0,x1,x12,x13] H =
  (bI .lss x13 x12).bind fun v5=>asB v5 fun t=>bif t then ((ia 2 H x0 x13).bind fun v6=>(ld true 2 H v6).bind fun v7=>(ia 2 H x1 x13).bind fun v8=>(ld true 2 H v8).bind fun v9=>(bA [.int .i64,.int .i64] .neq v7 v9).bind fun v10=>asB v10 fun t=>bif t then (ret_ H [some (D.bool false)]) else ((bI .add x13 (D.int .i64 1)).bind fun v11=>J E 168 4 [x0,x1,x12,v11] H)) else (ret_ H [some (D.bool true)]):=
 (J_seg E 168 4 [4] 400 [x0,x1,x12,x13] H).trans (by kernel_rfl)
theorem e169 (x0 x1:D) (H:Heap) :
  ent E 169 [x0,x1] H =
  (callFn E (exec E) .pure 180 [x0,x1] H).bind fun r1=>(extract r1.1 0).bind fun v2=>(extract r1.1 1).bind fun v3=>ret_ r1.2 [some v2,some v3]:=
 (ent_seg E 169 [] 400 [x0,x1] H).trans (by kernel_rfl)
theorem e170 (x0 x1:D) (H:Heap) :
  ent E 170 [x0,x1] H =
  (callFn E (exec E) .pure 181 [x0,x1] H).bind fun r1=>(bI .geq r1.1 (D.int .i64 0)).bind fun v2=>asB v2 fun t=>bif t then ((slS x0 none (some r1.1) none).bind fun v3=>(lnS x1).bind fun v4=>(bI .add r1.1 v4).bind fun v5=>(slS x0 (some v5) none none).bind fun v6=>ret_ r1.2 [some v3,some v6,some (D.bool true)]) else (ret_ r1.2 [some x0,some (D.str []),some (D.bool false)]):=
 (ent_seg E 170 [] 400 [x0,x1] H).trans (by kernel_rfl)
theorem e171 (x0 x1:D) (H:Heap) :
  ent E 171 [x0,x1] H =
  (callFn E (exec E) .pure 182 [x0,x1] H).bind fun r1=>(unOp .not r1.1).bind fun v2=>asB v2 fun t=>bif t then (ret_ r1.2 [some x0,some (D.bool false)]) else ((lnS x1).bind fun v3=>(slS x0 (some v3) none none).bind fun v4=>ret_ r1.2 [some v4,some (D.bool true)]):=
 (ent_seg E 171 [] 400 [x0,x1] H).trans (by kernel_rfl)
theorem e172 (x0 x1:D) (H:Heap) :
  ent E 172 [x0,x1] H =
  (callFn E (exec E) .ext 183 [x0,x1] H).bind fun r1=>ret_ r1.2 [some r1.1]:=
 (ent_seg E 172 [] 400 [x0,x1] H).trans (by kernel_rfl)
theorem e173 (x0 x1:D) (H:Heap) :
  ent E 173 [x0,x1] H =
  (lnL x0).bind fun v1=>J E 173 2 [x0,x1,v1,(D.int .i64 0)] H:=
 (ent_seg E 173 [2] 400 [x0,x1] H).trans (by kernel_rfl)
theorem j173_2 (x0 x1 x7 x8:D) (H:Heap) :
  J E 173 2 [x0,x1,x7,x8] H =
  (bI .lss x8 x7).bind fun v2=>asB v2 fun t=>bif t then ((ia 2 H x0 x8).bind fun v3=>(ld true 2 H v3).bind fun v4=>asFn x1 fun gq5 cq5=>(callFn E (exec E) (modeT 173 gq5) gq5 ([v4]++cq5) H).bind fun r6=>asB r6.1 fun t=>bif t then (ret_ r6.2 [some x8]) else ((bI .add x8 (D.int .i64 1)).bind fun v7=>J E 173 2 [x0,x1,x7,v7] r6.2)) else (ret_ H [some (D.int .i64 (-1))]):=
 (J_seg E 173 2 [2] 400 [x0,x1,x7,x8] H).trans (by kernel_rfl)
theorem e174 (x0 x1:D) (H:Heap) :
  ent E 174 [x0,x1] H =
  (bI .eql x1 (D.int .i64 10)).bind fun v1=>asB v1 fun t=>bif t then ((bI .leq (D.int .i64 0) x0).bind fun v2=>asB v2 fun t=>bif t then ((bI .lss x0 (D.int .i64 100)).bind fun v3=>asB v3 fun t=>bif t then ((callFn E (exec E) .pure 184 [x0] H).bind fun r4=>ret_ r4.2 [some r4.1]) else (none)) else (none)) else ((cI .u64 x0).bind fun v5=>(bI .lss x0 (D.int .i64 0)).bind fun v6=>(callFn E (exec E) .pure 187 [D.sl0,v5,x1,v6,(D.bool false)] H).bind fun r7=>(extract r7.1 0).bind fun v8=>(extract r7.1 1).bind fun v9=>ret_ r7.2 [some v9]):=
 (ent_seg E 174 [8] 400 [x0,x1] H).trans (by kernel_rfl)
theorem e175 (x0 x1:D) (H:Heap) :
  ent E 175 [x0,x1] H =
  (lnL x0).bind fun v1=>(lnL x1).bind fun v2=>(bI .neq v1 v2).bind fun v3=>asB v3 fun t=>bif t then (ret_ H [some (D.bool false)]) else (J E 175 4 [x0,x1,(D.int .i64 0)] H):=
 (ent_seg E 175 [4] 400 [x0,x1] H).trans (by kernel_rfl)
theorem j175_4 (x0 x1 x5:D) (H:Heap) :
  J E 175 4 [x0,x1,x5] H =
  (lnL x0).bind fun v4=>(bI .lss x5 v4).bind fun v5=>asB v5 fun t=>bif t then ((ia 2 H x0 x5).bind fun v6=>(ld true 2 H v6).bind fun v7=>(ia 2 H x1 x5).bind fun v8=>(ld true 2 H v8).bind fun v9=>(callFn E (exec E) .pure 188 [v7,v9] H).bind fun r10=>(unOp .not r10.1).bind fun v11=>asB v11 fun t=>bif t then (ret_ r10.2 [some (D.bool false)]) else ((bI .add x5 (D.int .i64 1)).bind fun v12=>J E 175 4 [x0,x1,v12] r10.2)) else (ret_ H [some (D.bool true)]):=
 (J_seg E 175 4 [4] 400 [x0,x1,x5] H).trans (by kernel_rfl)
theorem e176 (x0:D) (H:Heap) :
  ent E 176 [x0] H =
  alloc_ H [.int .i64 0,.str [],.int .i64 0,.int .i64 0] fun p1 H1=>(callFn E (exec E) .raw 151 [x0] H1).bind fun r2=>(bld [.int .i64 0,.str [],.int .i64 0,.int .i64 0] [(0,1,false),(1,1,false),(2,1,false),(3,1,false)] [(0,r2.1)]).bind fun v3=>alloc_ r2.2 [.int .i64 0,.str [],.int .i64 0,.int .i64 0] fun p4 H4=>(st 4 H4 p4 v3).bind fun H5=>(fa 0 p4).bind fun v6=>(ld false 1 H5 v6).bind fun v7=>(bI .eql v7 (D.int .i64 1)).bind fun v8=>asB v8 fun t=>bif t then ((callFn E (exec E) .raw 151 [x0] H5).bind fun r9=>(callFn E (exec E) .raw 149 [x0,r9.1] r9.2).bind fun r10=>(fa 1 p4).bind fun v11=>(st 1 r10.2 v11 r10.1).bind fun H12=>J E 176 14 [p1,p4] H12) else ((bI .eql v7 (D.int .i64 2)).bind fun v13=>asB v13 fun t=>bif t then ((callFn E (exec E) .raw 152 [x0] H5).bind fun r14=>(fa 2 p4).bind fun v15=>(st 1 r14.2 v15 r14.1).bind fun H16=>J E 176 14 [p1,p4] H16) else ((bI .eql v7 (D.int .i64 3)).bind fun v17=>asB v17 fun t=>bif t then (asB v17 fun t=>bif t then (J E 176 12 [x0,p1,p4] H5) else (J E 176 3 [x0,p1,p4] H5)) else ((bI .eql v7 (D.int .i64 4)).bind fun v18=>asB v18 fun t=>bif t then (asB v18 fun t=>bif t then (J E 176 12 [x0,p1,p4] H5) else (J E 176 3 [x0,p1,p4] H5)) else ((bI .eql v7 (D.int .i64 5)).bind fun v19=>asB v19 fun t=>bif t then (asB v19 fun t=>bif t then (J E 176 12 [x0,p1,p4] H5) else (J E 176 3 [x0,p1,p4] H5)) else ((bI .eql v7 (D.int .i64 6)).bind fun v20=>asB v20 fun t=>bif t then (J E 176 12 [x0,p1,p4] H5) else (J E 176 3 [x0,p1,p4] H5)))))):=
 (ent_seg E 176 [3,12,14] 400 [x0] H).trans (by kernel_rfl)
theorem j176_3 (x0 x2 x3:D) (H:Heap) :
  J E 176 3 [x0,x2,x3] H =
  (nilCheck x0).bind fun v21=>(fa 2 v21).bind fun v22=>(st 1 H v22 (D.bool true)).bind fun H23=>J E 176 14 [x2,x3] H23:=
 (J_seg E 176 3 [3,12,14] 400 [x0,x2,x3] H).trans (by kernel_rfl)
theorem j176_12 (x0 x2 x3:D) (H:Heap) :
  J E 176 12 [x0,x2,x3] H =
  (callFn E (exec E) .raw 152 [x0] H).bind fun r24=>(fa 2 x3).bind fun v25=>(st 1 r24.2 v25 r24.1).bind fun H26=>(callFn E (exec E) .raw 152 [x0] H26).bind fun r27=>(fa 3 x3).bind fun v28=>(st 1 r27.2 v28 r27.1).bind fun H29=>J E 176 14 [x2,x3] H29:=
 (J_seg E 176 12 [3,12,14] 400 [x0,x2,x3] H).trans (by kernel_rfl)
theorem j176_14 (x2 x3:D) (H:Heap) :
  J E 176 14 [x2,x3] H =
  (ld true 4 H x3).bind fun v30=>(st 4 H x2 v30).bind fun H31=>ret_ H31 [ld true 4 H31 x2]:=
 (J_seg E 176 14 [3,12,14] 400 [x2,x3] H).trans (by kernel_rfl)
theorem e177 (x0 x1:D) (H:Heap) :
  ent E 177 [x0,x1] H =
  alloc_ H (D.cells x1) fun p1 H1=>alloc_ H1 [.int .i64 0,.int .i64 0,.int .i64 0,.int .i64 0,.int .i64 0,.str [],.sl0,.sl0] fun p2 H2=>(callFn E (exec E) .raw 151 [x0] H2).bind fun r3=>(fa 3 p1).bind fun v4=>(st 1 r3.2 v4 r3.1).bind fun H5=>(callFn E (exec E) .raw 151 [x0] H5).bind fun r6=>(fa 4 p1).bind fun v7=>(st 1 r6.2 v7 r6.1).bind fun H8=>(callFn E (exec E) .raw 152 [x0] H8).bind fun r9=>(bI .gtr r9.1 (D.int .i64 120)).bind fun v10=>asB v10 fun t=>bif t then ((nilCheck x0).bind fun v11=>(fa 2 v11).bind fun v12=>(st 1 r9.2 v12 (D.bool true)).bind fun H13=>J E 177 6 [x0,p1,p2,r9.1] H13) else (J E 177 6 [x0,p1,p2,r9.1] r9.2):=
 (ent_seg E 177 [6,10,11,17,18] 400 [x0,x1] H).trans (by kernel_rfl)
theorem j177_6 (x0 x3 x4 x5:D) (H:Heap) :
  J E 177 6 [x0,x3,x4,x5] H =
  (callFn E (exec E) .raw 149 [x0,x5] H).bind fun r14=>(fa 5 x3).bind fun v15=>(st 1 r14.2 v15 r14.1).bind fun H16=>(callFn E (exec E) .raw 151 [x0] H16).bind fun r17=>(bI .gtr r17.1 (D.int .i64 3)).bind fun v18=>asB v18 fun t=>bif t then ((nilCheck x0).bind fun v19=>(fa 2 v19).bind fun v20=>(st 1 r17.2 v20 (D.bool true)).bind fun H21=>J E 177 10 [x0,x3,x4,r17.1] H21) else (J E 177 10 [x0,x3,x4,r17.1] r17.2):=
 (J_seg E 177 6 [6,10,11,17,18] 400 [x0,x3,x4,x5] H).trans (by kernel_rfl)
theorem j177_10 (x0 x3 x4 x6:D) (H:Heap) :
  J E 177 10 [x0,x3,x4,x6] H =
  J E 177 11 [x0,x3,x4,x6,(D.int .i64 0)] H:=
 (J_seg E 177 10 [6,10,11,17,18] 400 [x0,x3,x4,x6] H).trans (by kernel_rfl)
theorem j177_11 (x0 x3 x4 x6 x7:D) (H:Heap) :
  J E 177 11 [x0,x3,x4,x6,x7] H =
  (bI .lss x7 x6).bind fun v22=>asB v22 fun t=>bif t then ((nilCheck x0).bind fun v23=>(fa 2 v23).bind fun v24=>(ld false 1 H v24).bind fun v25=>(unOp .not v25).bind fun v26=>asB v26 fun t=>bif t then ((fa 6 x3).bind fun v27=>(ld false 1 H v27).bind fun v28=>(callFn E (exec E) .raw 152 [x0] H).bind fun r29=>(ld false 1 r29.2 v27).bind fun w30=>again w30 v28 ((callFn E (exec E) .raw 152 [x0] r29.2).bind fun r31=>(ld false 1 r31.2 v27).bind fun w32=>again w32 v28 ((callFn E (exec E) .raw 152 [x0] r31.2).bind fun r33=>(ld false 1 r33.2 v27).bind fun w34=>again w34 v28 ((callFn E (exec E) .raw 152 [x0] r33.2).bind fun r35=>(ld false 1 r35.2 v27).bind fun w36=>again w36 v28 ((bld [.int .i64 0,.int .i64 0,.int .i64 0,.int .i64 0] [(0,1,false),(1,1,false),(2,1,false),(3,1,false)] [(0,r29.1),(1,r31.1),(2,r33.1),(3,r35.1)]).bind fun v37=>(bsl 4 [.int .i64 0,.int .i64 0,.int .i64 0,.int .i64 0] r35.2 1 [(0,v37)]).bind fun r38=>(app 4 32 r38.2 v28 r38.1).bind fun r39=>(fa 6 x3).bind fun v40=>(st 1 r39.2 v40 r39.1).bind fun H41=>(bI .add x7 (D.int .i64 1)).bind fun v42=>J E 177 11 [x0,x3,x4,x6,v42] H41))))) else ((callFn E (exec E) .raw 151 [x0] H).bind fun r43=>(bI .gtr r43.1 (D.int .i64 8)).bind fun v44=>asB v44 fun t=>bif t then ((nilCheck x0).bind fun v45=>(fa 2 v45).bind fun v46=>(st 1 r43.2 v46 (D.bool true)).bind fun H47=>J E 177 17 [x0,x3,x4,r43.1] H47) else (J E 177 17 [x0,x3,x4,r43.1] r43.2))) else ((callFn E (exec E) .raw 151 [x0] H).bind fun r48=>(bI .gtr r48.1 (D.int .i64 8)).bind fun v49=>asB v49 fun t=>bif t then ((nilCheck x0).bind fun v50=>(fa 2 v50).bind fun v51=>(st 1 r48.2 v51 (D.bool true)).bind fun H52=>J E 177 17 [x0,x3,x4,r48.1] H52) else (J E 177 17 [x0,x3,x4,r48.1] r48.2)):=
 (J_seg E 177 11 [6,10,11,17,18] 400 [x0,x3,x4,x6,x7] H).trans (by kernel_rfl)
theorem j177_17 (x0 x3 x4 x6:D) (H:Heap) :
  J E 177 17 [x0,x3,x4,x6] H =
  J E 177 18 [x0,x3,x4,x6,(D.int .i64 0)] H:=
 (J_seg E 177 17 [6,10,11,17,18] 400 [x0,x3,x4,x6] H).trans (by kernel_rfl)
theorem j177_18 (x0 x3 x4 x6 x8:D) (H:Heap) :
  J E 177 18 [x0,x3,x4,x6,x8] H =
  (bI .lss x8 x6).bind fun v53=>asB v53 fun t=>bif t then ((nilCheck x0).bind fun v54=>(fa 2 v54).bind fun v55=>(ld false 1 H v55).bind fun v56=>(unOp .not v56).bind fun v57=>asB v57 fun t=>bif t then ((fa 7 x3).bind fun v58=>(ld false 1 H v58).bind fun v59=>(callFn E (exec E) .raw 152 [x0] H).bind fun r60=>(ld false 1 r60.2 v58).bind fun w61=>again w61 v59 ((callFn E (exec E) .raw 189 [x0] r60.2).bind fun r62=>(ld false 1 r62.2 v58).bind fun w63=>again w63 v59 ((callFn E (exec E) .raw 189 [x0] r62.2).bind fun r64=>(ld false 1 r64.2 v58).bind fun w65=>again w65 v59 ((bld [.int .i64 0,.sl0,.sl0] [(0,1,false),(1,1,false),(2,1,false)] [(0,r60.1),(1,r62.1),(2,r64.1)]).bind fun v66=>(bsl 3 [.int .i64 0,.sl0,.sl0] r64.2 1 [(0,v66)]).bind fun r67=>(app 3 56 r67.2 v59 r67.1).bind fun r68=>(fa 7 x3).bind fun v69=>(st 1 r68.2 v69 r68.1).bind fun H70=>(bI .add x8 (D.int .i64 1)).bind fun v71=>J E 177 18 [x0,x3,x4,x6,v71] H70)))) else ((ld true 8 H x3).bind fun v72=>(st 8 H x4 v72).bind fun H73=>ret_ H73 [ld true 8 H73 x4])) else ((ld true 8 H x3).bind fun v74=>(st 8 H x4 v74).bind fun H75=>ret_ H75 [ld true 8 H75 x4]):=
 (J_seg E 177 18 [6,10,11,17,18] 400 [x0,x3,x4,x6,x8] H).trans (by kernel_rfl)
theorem e178 (x0 x1:D) (H:Heap) :
  ent E 178 [x0,x1] H =
  (lnL x0).bind fun v1=>(lnL x1).bind fun v2=>(bI .neq v1 v2).bind fun v3=>asB v3 fun t=>bif t then (ret_ H [some (D.bool false)]) else (J E 178 4 [x0,x1,(D.int .i64 0)] H):=
 (ent_seg E 178 [4] 400 [x0,x1] H).trans (by kernel_rfl)
theorem j178_4 (x0 x1 x5:D) (H:Heap) :
  J E 178 4 [x0,x1,x5] H =
  (lnL x0).bind fun v4=>(bI .lss x5 v4).bind fun v5=>asB v5 fun t=>bif t then ((ia 2 H x0 x5).bind fun v6=>(ld true 2 H v6).bind fun v7=>(ia 2 H x1 x5).bind fun v8=>(ld true 2 H v8).bind fun v9=>(bA [.int .i64,.int .i64] .neq v7 v9).bind fun v10=>asB v10 fun t=>bif t then (ret_ H [some (D.bool false)]) else ((bI .add x5 (D.int .i64 1)).bind fun v11=>J E 178 4 [x0,x1,v11] H)) else (ret_ H [some (D.bool true)]):=
 (J_seg E 178 4 [4] 400 [x0,x1,x5] H).trans (by kernel_rfl)
theorem e179 (x0:D) (H:Heap) :
  ent E 179 [x0] H =
  alloc_ H (D.cells x0) fun p1 H1=>alloc_ H1 [.int .i64 0,.int .i64 0] fun p2 H2=>alloc_ H2 [.int .i64 0,.int .i64 0] fun p3 H3=>(fa 0 p1).bind fun v4=>(ld false 1 H3 v4).bind fun v5=>(fa 0 p3).bind fun v6=>(st 1 H3 v6 v5).bind fun H7=>(fa 1 p1).bind fun v8=>(ld false 1 H7 v8).bind fun v9=>(fa 1 p3).bind fun v10=>(st 1 H7 v10 v9).bind fun H11=>(ld true 2 H11 p3).bind fun v12=>(st 2 H11 p2 v12).bind fun H13=>ret_ H13 [ld true 2 H13 p2]:=
 (ent_seg E 179 [] 400 [x0] H).trans (by kernel_rfl)
theorem e180 (x0 x1:D) (H:Heap) :
  ent E 180 [x0,x1] H =
  (callFn E (exec E) .pure 190 [x0,x1] H).bind fun r1=>(unOp .not r1.1).bind fun v2=>asB v2 fun t=>bif t then (ret_ r1.2 [some x0,some (D.bool false)]) else ((lnS x0).bind fun v3=>(lnS x1).bind fun v4=>(bI .sub v3 v4).bind fun v5=>(slS x0 none (some v5) none).bind fun v6=>ret_ r1.2 [some v6,some (D.bool true)]):=
 (ent_seg E 180 [] 400 [x0,x1] H).trans (by kernel_rfl)
theorem e181 (x0 x1:D) (H:Heap) :
  ent E 181 [x0,x1] H =
  (lnS x1).bind fun v1=>(bI .eql v1 (D.int .i64 0)).bind fun v2=>asB v2 fun t=>bif t then (ret_ H [some (D.int .i64 0)]) else ((bS .eql x1 x0).bind fun v3=>asB v3 fun t=>bif t then (ret_ H [some (D.int .i64 0)]) else ((bI .eql v1 (D.int .i64 1)).bind fun v4=>asB v4 fun t=>bif t then ((ix x1 (D.int .i64 0)).bind fun v5=>(callFn E (exec E) .pure 172 [x0,v5] H).bind fun r6=>ret_ r6.2 [some r6.1]) else ((lnS x0).bind fun v7=>(bI .geq v1 v7).bind fun v8=>asB v8 fun t=>bif t then (ret_ H [some (D.int .i64 (-1))]) else ((ld false 1 H D.undef).bind fun v9=>(bI .leq v1 v9).bind fun v10=>asB v10 fun t=>bif t then ((lnS x0).bind fun v11=>(bI .leq v11 (D.int .i64 64)).bind fun v12=>asB v12 fun t=>bif t then ((callFn E (exec E) .ext 191 [x0,x1] H).bind fun r13=>ret_ r13.2 [some r13.1]) else ((ix x1 (D.int .i64 0)).bind fun v14=>(ix x1 (D.int .i64 1)).bind fun v15=>(lnS x0).bind fun v16=>(bI .sub v16 v1).bind fun v17=>(bI .add v17 (D.int .i64 1)).bind fun v18=>J E 181 15 [x0,x1,v1,v14,v15,(D.int .i64 0),v18,(D.int .i64 0)] H)) else ((ix x1 (D.int .i64 0)).bind fun v19=>(ix x1 (D.int .i64 1)).bind fun v20=>(lnS x0).bind fun v21=>(bI .sub v21 v1).bind fun v22=>(bI .add v22 (D.int .i64 1)).bind fun v23=>J E 181 15 [x0,x1,v1,v19,v20,(D.int .i64 0),v23,(D.int .i64 0)] H))))):=
 (ent_seg E 181 [15,21] 400 [x0,x1] H).trans (by kernel_rfl)
theorem j181_15 (x0 x1 x5 x6 x7 x8 x9 x10:D) (H:Heap) :
  J E 181 15 [x0,x1,x5,x6,x7,x8,x9,x10] H =
  (bI .lss x8 x9).bind fun v24=>asB v24 fun t=>bif t then ((ix x0 x8).bind fun v25=>(bI .neq v25 x6).bind fun v26=>asB v26 fun t=>bif t then ((bI .add x8 (D.int .i64 1)).bind fun v27=>(slS x0 (some v27) (some x9) none).bind fun v28=>(callFn E (exec E) .pure 172 [v28,x6] H).bind fun r29=>(bI .lss r29.1 (D.int .i64 0)).bind fun v30=>asB v30 fun t=>bif t then (ret_ r29.2 [some (D.int .i64 (-1))]) else ((bI .add r29.1 (D.int .i64 1)).bind fun v31=>(bI .add x8 v31).bind fun v32=>J E 181 21 [x0,x1,x5,x6,x7,v32,x9,x10] r29.2)) else (J E 181 21 [x0,x1,x5,x6,x7,x8,x9,x10] H)) else (ret_ H [some (D.int .i64 (-1))]):=
 (J_seg E 181 15 [15,21] 400 [x0,x1,x5,x6,x7,x8,x9,x10] H).trans (by kernel_rfl)
theorem j181_21 (x0 x1 x5 x6 x7 x8 x9 x10:D) (H:Heap) :
  J E 181 21 [x0,x1,x5,x6,x7,x8,x9,x10] H =
  (bI .add x8 (D.int .i64 1)).bind fun v33=>(ix x0 v33).bind fun v34=>(bI .eql v34 x7).bind fun v35=>asB v35 fun t=>bif t then ((bI .add x8 x5).bind fun v36=>(slS x0 (some x8) (some v36) none).bind fun v37=>(bS .eql v37 x1).bind fun v38=>asB v38 fun t=>bif t then (ret_ H [some x8]) else ((bI .add x8 (D.int .i64 1)).bind fun v39=>(bI .add x10 (D.int .i64 1)).bind fun v40=>(ld false 1 H D.undef).bind fun v41=>(bI .leq x5 v41).bind fun v42=>asB v42 fun t=>bif t then ((callFn E (exec E) .pure 192 [v39] H).bind fun r43=>(bI .gtr v40 r43.1).bind fun v44=>asB v44 fun t=>bif t then ((slS x0 (some v39) none none).bind fun v45=>(callFn E (exec E) .ext 191 [v45,x1] r43.2).bind fun r46=>(bI .geq r46.1 (D.int .i64 0)).bind fun v47=>asB v47 fun t=>bif t then ((bI .add r46.1 v39).bind fun v48=>ret_ r46.2 [some v48]) else (ret_ r46.2 [some (D.int .i64 (-1))])) else ((ld false 1 r43.2 D.undef).bind fun v49=>(bI .gtr x5 v49).bind fun v50=>asB v50 fun t=>bif t then ((bI .shr v39 (D.int .u64 4)).bind fun v51=>(bI .add (D.int .i64 4) v51).bind fun v52=>(bI .geq v40 v52).bind fun v53=>asB v53 fun t=>bif t then ((bI .lss v39 x9).bind fun v54=>asB v54 fun t=>bif t then ((slS x0 (some v39) none none).bind fun v55=>(callFn E (exec E) .pure 193 [v55,x1] r43.2).bind fun r56=>(bI .lss r56.1 (D.int .i64 0)).bind fun v57=>asB v57 fun t=>bif t then (ret_ r56.2 [some (D.int .i64 (-1))]) else ((bI .add v39 r56.1).bind fun v58=>ret_ r56.2 [some v58])) else (J E 181 15 [x0,x1,x5,x6,x7,v39,x9,v40] r43.2)) else (J E 181 15 [x0,x1,x5,x6,x7,v39,x9,v40] r43.2)) else (J E 181 15 [x0,x1,x5,x6,x7,v39,x9,v40] r43.2))) else ((ld false 1 H D.undef).bind fun v59=>(bI .gtr x5 v59).bind fun v60=>asB v60 fun t=>bif t then ((bI .shr v39 (D.int .u64 4)).bind fun v61=>(bI .add (D.int .i64 4) v61).bind fun v62=>(bI .geq v40 v62).bind fun v63=>asB v63 fun t=>bif t then ((bI .lss v39 x9).bind fun v64=>asB v64 fun t=>bif t then ((slS x0 (some v39) none none).bind fun v65=>(callFn E (exec E) .pure 193 [v65,x1] H).bind fun r66=>(bI .lss r66.1 (D.int .i64 0)).bind fun v67=>asB v67 fun t=>bif t then (ret_ r66.2 [some (D.int .i64 (-1))]) else ((bI .add v39 r66.1).bind fun v68=>ret_ r66.2 [some v68])) else (J E 181 15 [x0,x1,x5,x6,x7,v39,x9,v40] H)) else (J E 181 15 [x0,x1,x5,x6,x7,v39,x9,v40] H)) else (J E 181 15 [x0,x1,x5,x6,x7,v39,x9,v40] H)))) else ((bI .add x8 (D.int .i64 1)).bind fun v69=>(bI .add x10 (D.int .i64 1)).bind fun v70=>(ld false 1 H D.undef).bind fun v71=>(bI .leq x5 v71).bind fun v72=>asB v72 fun t=>bif t then ((callFn E (exec E) .pure 192 [v69] H).bind fun r73=>(bI .gtr v70 r73.1).bind fun v74=>asB v74 fun t=>bif t then ((slS x0 (some v69) none none).bind fun v75=>(callFn E (exec E) .ext 191 [v75,x1] r73.2).bind fun r76=>(bI .geq r76.1 (D.int .i64 0)).bind fun v77=>asB v77 fun t=>bif t then ((bI .add r76.1 v69).bind fun v78=>ret_ r76.2 [some v78]) else (ret_ r76.2 [some (D.int .i64 (-1))])) else ((ld false 1 r73.2 D.undef).bind fun v79=>(bI .gtr x5 v79).bind fun v80=>asB v80 fun t=>bif t then ((bI .shr v69 (D.int .u64 4)).bind fun v81=>(bI .add (D.int .i64 4) v81).bind fun v82=>(bI .geq v70 v82).bind fun v83=>asB v83 fun t=>bif t then ((bI .lss v69 x9).bind fun v84=>asB v84 fun t=>bif t then ((slS x0 (some v69) none none).bind fun v85=>(callFn E (exec E) .pure 193 [v85,x1] r73.2).bind fun r86=>(bI .lss r86.1 (D.int .i64 0)).bind fun v87=>asB v87 fun t=>bif t then (ret_ r86.2 [some (D.int .i64 (-1))]) else ((bI .add v69 r86.1).bind fun v88=>ret_ r86.2 [some v88])) else (J E 181 15 [x0,x1,x5,x6,x7,v69,x9,v70] r73.2)) else (J E 181 15 [x0,x1,x5,x6,x7,v69,x9,v70] r73.2)) else (J E 181 15 [x0,x1,x5,x6,x7,v69,x9,v70] r73.2))) else ((ld false 1 H D.undef).bind fun v89=>(bI .gtr x5 v89).bind fun v90=>asB v90 fun t=>bif t then ((bI .shr v69 (D.int .u64 4)).bind fun v91=>(bI .add (D.int .i64 4) v91).bind fun v92=>(bI .geq v70 v92).bind fun v93=>asB v93 fun t=>bif t then ((bI .lss v69 x9).bind fun v94=>asB v94 fun t=>bif t then ((slS x0 (some v69) none none).bind fun v95=>(callFn E (exec E) .pure 193 [v95,x1] H).bind fun r96=>(bI .lss r96.1 (D.int .i64 0)).bind fun v97=>asB v97 fun t=>bif t then (ret_ r96.2 [some (D.int .i64 (-1))]) else ((bI .add v69 r96.1).bind fun v98=>ret_ r96.2 [some v98])) else (J E 181 15 [x0,x1,x5,x6,x7,v69,x9,v70] H)) else (J E 181 15 [x0,x1,x5,x6,x7,v69,x9,v70] H)) else (J E 181 15 [x0,x1,x5,x6,x7,v69,x9,v70] H))):=
 (J_seg E 181 21 [15,21] 400 [x0,x1,x5,x6,x7,x8,x9,x10] H).trans (by kernel_rfl)
theorem e182 (x0 x1:D) (H:Heap) :
  ent E 182 [x0,x1] H =
  (lnS x0).bind fun v1=>(lnS x1).bind fun v2=>(bI .geq v1 v2).bind fun v3=>asB v3 fun t=>bif t then ((lnS x1).bind fun v4=>(slS x0 none (some v4) none).bind fun v5=>(bS .eql v5 x1).bind fun v6=>ret_ H [some v6]) else (ret_ H [some (D.bool false)]):=
 (ent_seg E 182 [] 400 [x0,x1] H).trans (by kernel_rfl)
theorem e184 (x0:D) (H:Heap) :
  ent E 184 [x0] H =
  (bI .lss x0 (D.int .i64 10)).bind fun v1=>asB v1 fun t=>bif t then ((bI .add x0 (D.int .i64 1)).bind fun v2=>(slS (D.str [48,49,50,51,52,53,54,55,56,57,97,98,99,100,101,102,103,104,105,106,107,108,109,110,111,112,113,114,115,116,117,118,119,120,121,122]) (some x0) (some v2) none).bind fun v3=>ret_ H [some v3]) else ((bI .mul x0 (D.int .i64 2)).bind fun v4=>(bI .mul x0 (D.int .i64 2)).bind fun v5=>(bI .add v5 (D.int .i64 2)).bind fun v6=>(slS (D.str [48,48,48,49,48,50,48,51,48,52,48,53,48,54,48,55,48,56,48,57,49,48,49,49,49,50,49,51,49,52,49,53,49,54,49,55,49,56,49,57,50,48,50,49,50,50,50,51,50,52,50,53,50,54,50,55,50,56,50,57,51,48,51,49,51,50,51,51,51,52,51,53,51,54,51,55,51,56,51,57,52,48,52,49,52,50,52,51,52,52,52,53,52,54,52,55,52,56,52,57,53,48,53,49,53,50,53,51,53,52,53,53,53,54,53,55,53,56,53,57,54,48,54,49,54,50,54,51,54,52,54,53,54,54,54,55,54,56,54,57,55,48,55,49,55,50,55,51,55,52,55,53,55,54,55,55,55,56,55,57,56,48,56,49,56,50,56,51,56,52,56,53,56,54,56,55,56,56,56,57,57,48,57,49,57,50,57,51,57,52,57,53,57,54,57,55,57,56,57,57]) (some v4) (some v6) none).bind fun v7=>ret_ H [some v7]):=
 (ent_seg E 184 [] 400 [x0] H).trans (by kernel_rfl)
theorem e186 (x0 x1:D) (H:Heap) :
  ent E 186 [x0,x1] H =
  (lnL x0).bind fun v1=>J E 186 1 [x0,x1,v1] H:=
 (ent_seg E 186 [1,20,25] 400 [x0,x1] H).trans (by kernel_rfl)
theorem j186_1 (x0 x1 x4:D) (H:Heap) :
  J E 186 1 [x0,x1,x4] H =
  (bI .geq x4 (D.int .i64 8)).bind fun v2=>asB v2 fun t=>bif t then ((bI .rem x1 (D.int .u64 100000000)).bind fun v3=>(cI .u32 v3).bind fun v4=>(bI .quo x1 (D.int .u64 100000000)).bind fun v5=>(bI .quo v4 (D.int .u32 10000)).bind fun v6=>(bI .rem v4 (D.int .u32 10000)).bind fun v7=>(bI .quo v7 (D.int .u32 100)).bind fun v8=>(bI .mul v8 (D.int .u32 2)).bind fun v9=>(bI .rem v7 (D.int .u32 100)).bind fun v10=>(bI .mul v10 (D.int .u32 2)).bind fun v11=>(bI .quo v6 (D.int .u32 100)).bind fun v12=>(bI .mul v12 (D.int .u32 2)).bind fun v13=>(bI .rem v6 (D.int .u32 100)).bind fun v14=>(bI .mul v14 (D.int .u32 2)).bind fun v15=>(bI .sub x4 (D.int .i64 1)).bind fun v16=>(bI .sub x4 (D.int .i64 2)).bind fun v17=>(bI .add v11 (D.int .u32 1)).bind fun v18=>(ix (D.str [48,48,48,49,48,50,48,51,48,52,48,53,48,54,48,55,48,56,48,57,49,48,49,49,49,50,49,51,49,52,49,53,49,54,49,55,49,56,49,57,50,48,50,49,50,50,50,51,50,52,50,53,50,54,50,55,50,56,50,57,51,48,51,49,51,50,51,51,51,52,51,53,51,54,51,55,51,56,51,57,52,48,52,49,52,50,52,51,52,52,52,53,52,54,52,55,52,56,52,57,53,48,53,49,53,50,53,51,53,52,53,53,53,54,53,55,53,56,53,57,54,48,54,49,54,50,54,51,54,52,54,53,54,54,54,55,54,56,54,57,55,48,55,49,55,50,55,51,55,52,55,53,55,54,55,55,55,56,55,57,56,48,56,49,56,50,56,51,56,52,56,53,56,54,56,55,56,56,56,57,57,48,57,49,57,50,57,51,57,52,57,53,57,54,57,55,57,56,57,57]) v18).bind fun v19=>(ix (D.str [48,48,48,49,48,50,48,51,48,52,48,53,48,54,48,55,48,56,48,57,49,48,49,49,49,50,49,51,49,52,49,53,49,54,49,55,49,56,49,57,50,48,50,49,50,50,50,51,50,52,50,53,50,54,50,55,50,56,50,57,51,48,51,49,51,50,51,51,51,52,51,53,51,54,51,55,51,56,51,57,52,48,52,49,52,50,52,51,52,52,52,53,52,54,52,55,52,56,52,57,53,48,53,49,53,50,53,51,53,52,53,53,53,54,53,55,53,56,53,57,54,48,54,49,54,50,54,51,54,52,54,53,54,54,54,55,54,56,54,57,55,48,55,49,55,50,55,51,55,52,55,53,55,54,55,55,55,56,55,57,56,48,56,49,56,50,56,51,56,52,56,53,56,54,56,55,56,56,56,57,57,48,57,49,57,50,57,51,57,52,57,53,57,54,57,55,57,56,57,57]) v11).bind fun v20=>(ia 1 H x0 v16).bind fun v21=>(st 1 H v21 v19).bind fun H22=>(ia 1 H22 x0 v17).bind fun v23=>(st 1 H22 v23 v20).bind fun H24=>(bI .sub x4 (D.int .i64 3)).bind fun v25=>(bI .sub x4 (D.int .i64 4)).bind fun v26=>(bI .add v9 (D.int .u32 1)).bind fun v27=>(ix (D.str [48,48,48,49,48,50,48,51,48,52,48,53,48,54,48,55,48,56,48,57,49,48,49,49,49,50,49,51,49,52,49,53,49,54,49,55,49,56,49,57,50,48,50,49,50,50,50,51,50,52,50,53,50,54,50,55,50,56,50,57,51,48,51,49,51,50,51,51,51,52,51,53,51,54,51,55,51,56,51,57,52,48,52,49,52,50,52,51,52,52,52,53,52,54,52,55,52,56,52,57,53,48,53,49,53,50,53,51,53,52,53,53,53,54,53,55,53,56,53,57,54,48,54,49,54,50,54,51,54,52,54,53,54,54,54,55,54,56,54,57,55,48,55,49,55,50,55,51,55,52,55,53,55,54,55,55,55,56,55,57,56,48,56,49,56,50,56,51,56,52,56,53,56,54,56,55,56,56,56,57,57,48,57,49,57,50,57,51,57,52,57,53,57,54,57,55,57,56,57,57]) v27).bind fun v28=>(ix (D.str [48,48,48,49,48,50,48,51,48,52,48,53,48,54,48,55,48,56,48,57,49,48,49,49,49,50,49,51,49,52,49,53,49,54,49,55,49,56,49,57,50,48,50,49,50,50,50,51,50,52,50,53,50,54,50,55,50,56,50,57,51,48,51,49,51,50,51,51,51,52,51,53,51,54,51,55,51,56,51,57,52,48,52,49,52,50,52,51,52,52,52,53,52,54,52,55,52,56,52,57,53,48,53,49,53,50,53,51,53,52,53,53,53,54,53,55,53,56,53,57,54,48,54,49,54,50,54,51,54,52,54,53,54,54,54,55,54,56,54,57,55,48,55,49,55,50,55,51,55,52,55,53,55,54,55,55,55,56,55,57,56,48,56,49,56,50,56,51,56,52,56,53,56,54,56,55,56,56,56,57,57,48,57,49,57,50,57,51,57,52,57,53,57,54,57,55,57,56,57,57]) v9).bind fun v29=>(ia 1 H24 x0 v25).bind fun v30=>(st 1 H24 v30 v28).bind fun H31=>(ia 1 H31 x0 v26).bind fun v32=>(st 1 H31 v32 v29).bind fun H33=>(bI .sub x4 (D.int .i64 5)).bind fun v34=>(bI .sub x4 (D.int .i64 6)).bind fun v35=>(bI .add v15 (D.int .u32 1)).bind fun v36=>(ix (D.str [48,48,48,49,48,50,48,51,48,52,48,53,48,54,48,55,48,56,48,57,49,48,49,49,49,50,49,51,49,52,49,53,49,54,49,55,49,56,49,57,50,48,50,49,50,50,50,51,50,52,50,53,50,54,50,55,50,56,50,57,51,48,51,49,51,50,51,51,51,52,51,53,51,54,51,55,51,56,51,57,52,48,52,49,52,50,52,51,52,52,52,53,52,54,52,55,52,56,52,57,53,48,53,49,53,50,53,51,53,52,53,53,53,54,53,55,53,56,53,57,54,48,54,49,54,50,54,51,54,52,54,53,54,54,54,55,54,56,54,57,55,48,55,49,55,50,55,51,55,52,55,53,55,54,55,55,55,56,55,57,56,48,56,49,56,50,56,51,56,52,56,53,56,54,56,55,56,56,56,57,57,48,57,49,57,50,57,51,57,52,57,53,57,54,57,55,57,56,57,57]) v36).bind fun v37=>(ix (D.str [48,48,48,49,48,50,48,51,48,52,48,53,48,54,48,55,48,56,48,57,49,48,49,49,49,50,49,51,49,52,49,53,49,54,49,55,49,56,49,57,50,48,50,49,50,50,50,51,50,52,50,53,50,54,50,55,50,56,50,57,51,48,51,49,51,50,51,51,51,52,51,53,51,54,51,55,51,56,51,57,52,48,52,49,52,50,52,51,52,52,52,53,52,54,52,55,52,56,52,57,53,48,53,49,53,50,53,51,53,52,53,53,53,54,53,55,53,56,53,57,54,48,54,49,54,50,54,51,54,52,54,53,54,54,54,55,54,56,54,57,55,48,55,49,55,50,55,51,55,52,55,53,55,54,55,55,55,56,55,57,56,48,56,49,56,50,56,51,56,52,56,53,56,54,56,55,56,56,56,57,57,48,57,49,57,50,57,51,57,52,57,53,57,54,57,55,57,56,57,57]) v15).bind fun v38=>(ia 1 H33 x0 v34).bind fun v39=>(st 1 H33 v39 v37).bind fun H40=>(ia 1 H40 x0 v35).bind fun v41=>(st 1 H40 v41 v38).bind fun H42=>(bI .sub x4 (D.int .i64 7)).bind fun v43=>(bI .sub x4 (D.int .i64 8)).bind fun v44=>(bI .add v13 (D.int .u32 1)).bind fun v45=>(ix (D.str [48,48,48,49,48,50,48,51,48,52,48,53,48,54,48,55,48,56,48,57,49,48,49,49,49,50,49,51,49,52,49,53,49,54,49,55,49,56,49,57,50,48,50,49,50,50,50,51,50,52,50,53,50,54,50,55,50,56,50,57,51,48,51,49,51,50,51,51,51,52,51,53,51,54,51,55,51,56,51,57,52,48,52,49,52,50,52,51,52,52,52,53,52,54,52,55,52,56,52,57,53,48,53,49,53,50,53,51,53,52,53,53,53,54,53,55,53,56,53,57,54,48,54,49,54,50,54,51,54,52,54,53,54,54,54,55,54,56,54,57,55,48,55,49,55,50,55,51,55,52,55,53,55,54,55,55,55,56,55,57,56,48,56,49,56,50,56,51,56,52,56,53,56,54,56,55,56,56,56,57,57,48,57,49,57,50,57,51,57,52,57,53,57,54,57,55,57,56,57,57]) v45).bind fun v46=>(ix (D.str [48,48,48,49,48,50,48,51,48,52,48,53,48,54,48,55,48,56,48,57,49,48,49,49,49,50,49,51,49,52,49,53,49,54,49,55,49,56,49,57,50,48,50,49,50,50,50,51,50,52,50,53,50,54,50,55,50,56,50,57,51,48,51,49,51,50,51,51,51,52,51,53,51,54,51,55,51,56,51,57,52,48,52,49,52,50,52,51,52,52,52,53,52,54,52,55,52,56,52,57,53,48,53,49,53,50,53,51,53,52,53,53,53,54,53,55,53,56,53,57,54,48,54,49,54,50,54,51,54,52,54,53,54,54,54,55,54,56,54,57,55,48,55,49,55,50,55,51,55,52,55,53,55,54,55,55,55,56,55,57,56,48,56,49,56,50,56,51,56,52,56,53,56,54,56,55,56,56,56,57,57,48,57,49,57,50,57,51,57,52,57,53,57,54,57,55,57,56,57,57]) v13).bind fun v47=>(ia 1 H42 x0 v43).bind fun v48=>(st 1 H42 v48 v46).bind fun H49=>(ia 1 H49 x0 v44).bind fun v50=>(st 1 H49 v50 v47).bind fun H51=>(bI .sub x4 (D.int .i64 8)).bind fun v52=>J E 186 1 [x0,v5,v52] H51) else ((cI .u32 x1).bind fun v53=>(bI .geq x4 (D.int .i64 4)).bind fun v54=>asB v54 fun t=>bif t then ((bI .rem v53 (D.int .u32 10000)).bind fun v55=>(bI .quo v53 (D.int .u32 10000)).bind fun v56=>(bI .quo v55 (D.int .u32 100)).bind fun v57=>(bI .mul v57 (D.int .u32 2)).bind fun v58=>(bI .rem v55 (D.int .u32 100)).bind fun v59=>(bI .mul v59 (D.int .u32 2)).bind fun v60=>(bI .sub x4 (D.int .i64 1)).bind fun v61=>(bI .sub x4 (D.int .i64 2)).bind fun v62=>(bI .add v60 (D.int .u32 1)).bind fun v63=>(ix (D.str [48,48,48,49,48,50,48,51,48,52,48,53,48,54,48,55,48,56,48,57,49,48,49,49,49,50,49,51,49,52,49,53,49,54,49,55,49,56,49,57,50,48,50,49,50,50,50,51,50,52,50,53,50,54,50,55,50,56,50,57,51,48,51,49,51,50,51,51,51,52,51,53,51,54,51,55,51,56,51,57,52,48,52,49,52,50,52,51,52,52,52,53,52,54,52,55,52,56,52,57,53,48,53,49,53,50,53,51,53,52,53,53,53,54,53,55,53,56,53,57,54,48,54,49,54,50,54,51,54,52,54,53,54,54,54,55,54,56,54,57,55,48,55,49,55,50,55,51,55,52,55,53,55,54,55,55,55,56,55,57,56,48,56,49,56,50,56,51,56,52,56,53,56,54,56,55,56,56,56,57,57,48,57,49,57,50,57,51,57,52,57,53,57,54,57,55,57,56,57,57]) v63).bind fun v64=>(ix (D.str [48,48,48,49,48,50,48,51,48,52,48,53,48,54,48,55,48,56,48,57,49,48,49,49,49,50,49,51,49,52,49,53,49,54,49,55,49,56,49,57,50,48,50,49,50,50,50,51,50,52,50,53,50,54,50,55,50,56,50,57,51,48,51,49,51,50,51,51,51,52,51,53,51,54,51,55,51,56,51,57,52,48,52,49,52,50,52,51,52,52,52,53,52,54,52,55,52,56,52,57,53,48,53,49,53,50,53,51,53,52,53,53,53,54,53,55,53,56,53,57,54,48,54,49,54,50,54,51,54,52,54,53,54,54,54,55,54,56,54,57,55,48,55,49,55,50,55,51,55,52,55,53,55,54,55,55,55,56,55,57,56,48,56,49,56,50,56,51,56,52,56,53,56,54,56,55,56,56,56,57,57,48,57,49,57,50,57,51,57,52,57,53,57,54,57,55,57,56,57,57]) v60).bind fun v65=>(ia 1 H x0 v61).bind fun v66=>(st 1 H v66 v64).bind fun H67=>(ia 1 H67 x0 v62).bind fun v68=>(st 1 H67 v68 v65).bind fun H69=>(bI .sub x4 (D.int .i64 3)).bind fun v70=>(bI .sub x4 (D.int .i64 4)).bind fun v71=>(bI .add v58 (D.int .u32 1)).bind fun v72=>(ix (D.str [48,48,48,49,48,50,48,51,48,52,48,53,48,54,48,55,48,56,48,57,49,48,49,49,49,50,49,51,49,52,49,53,49,54,49,55,49,56,49,57,50,48,50,49,50,50,50,51,50,52,50,53,50,54,50,55,50,56,50,57,51,48,51,49,51,50,51,51,51,52,51,53,51,54,51,55,51,56,51,57,52,48,52,49,52,50,52,51,52,52,52,53,52,54,52,55,52,56,52,57,53,48,53,49,53,50,53,51,53,52,53,53,53,54,53,55,53,56,53,57,54,48,54,49,54,50,54,51,54,52,54,53,54,54,54,55,54,56,54,57,55,48,55,49,55,50,55,51,55,52,55,53,55,54,55,55,55,56,55,57,56,48,56,49,56,50,56,51,56,52,56,53,56,54,56,55,56,56,56,57,57,48,57,49,57,50,57,51,57,52,57,53,57,54,57,55,57,56,57,57]) v72).bind fun v73=>(ix (D.str [48,48,48,49,48,50,48,51,48,52,48,53,48,54,48,55,48,56,48,57,49,48,49,49,49,50,49,51,49,52,49,53,49,54,49,55,49,56,49,57,50,48,50,49,50,50,50,51,50,52,50,53,50,54,50,55,50,56,50,57,51,48,51,49,51,50,51,51,51,52,51,53,51,54,51,55,51,56,51,57,52,48,52,49,52,50,52,51,52,52,52,53,52,54,52,55,52,56,52,57,53,48,53,49,53,50,53,51,53,52,53,53,53,54,53,55,53,56,53,57,54,48,54,49,54,50,54,51,54,52,54,53,54,54,54,55,54,56,54,57,55,48,55,49,55,50,55,51,55,52,55,53,55,54,55,55,55,56,55,57,56,48,56,49,56,50,56,51,56,52,56,53,56,54,56,55,56,56,56,57,57,48,57,49,57,50,57,51,57,52,57,53,57,54,57,55,57,56,57,57]) v58).bind fun v74=>(ia 1 H69 x0 v70).bind fun v75=>(st 1 H69 v75 v73).bind fun H76=>(ia 1 H76 x0 v71).bind fun v77=>(st 1 H76 v77 v74).bind fun H78=>(bI .sub x4 (D.int .i64 4)).bind fun v79=>J E 186 20 [x0,v79,v56] H78) else (J E 186 20 [x0,x4,v53] H)):=
 (J_seg E 186 1 [1,20,25] 400 [x0,x1,x4] H).trans (by kernel_rfl)
theorem j186_20 (x0 x4 x12:D) (H:Heap) :
  J E 186 20 [x0,x4,x12] H =
  (bI .geq x4 (D.int .i64 2)).bind fun v80=>asB v80 fun t=>bif t then ((bI .rem x12 (D.int .u32 100)).bind fun v81=>(bI .mul v81 (D.int .u32 2)).bind fun v82=>(bI .quo x12 (D.int .u32 100)).bind fun v83=>(bI .sub x4 (D.int .i64 1)).bind fun v84=>(bI .sub x4 (D.int .i64 2)).bind fun v85=>(bI .add v82 (D.int .u32 1)).bind fun v86=>(ix (D.str [48,48,48,49,48,50,48,51,48,52,48,53,48,54,48,55,48,56,48,57,49,48,49,49,49,50,49,51,49,52,49,53,49,54,49,55,49,56,49,57,50,48,50,49,50,50,50,51,50,52,50,53,50,54,50,55,50,56,50,57,51,48,51,49,51,50,51,51,51,52,51,53,51,54,51,55,51,56,51,57,52,48,52,49,52,50,52,51,52,52,52,53,52,54,52,55,52,56,52,57,53,48,53,49,53,50,53,51,53,52,53,53,53,54,53,55,53,56,53,57,54,48,54,49,54,50,54,51,54,52,54,53,54,54,54,55,54,56,54,57,55,48,55,49,55,50,55,51,55,52,55,53,55,54,55,55,55,56,55,57,56,48,56,49,56,50,56,51,56,52,56,53,56,54,56,55,56,56,56,57,57,48,57,49,57,50,57,51,57,52,57,53,57,54,57,55,57,56,57,57]) v86).bind fun v87=>(ix (D.str [48,48,48,49,48,50,48,51,48,52,48,53,48,54,48,55,48,56,48,57,49,48,49,49,49,50,49,51,49,52,49,53,49,54,49,55,49,56,49,57,50,48,50,49,50,50,50,51,50,52,50,53,50,54,50,55,50,56,50,57,51,48,51,49,51,50,51,51,51,52,51,53,51,54,51,55,51,56,51,57,52,48,52,49,52,50,52,51,52,52,52,53,52,54,52,55,52,56,52,57,53,48,53,49,53,50,53,51,53,52,53,53,53,54,53,55,53,56,53,57,54,48,54,49,54,50,54,51,54,52,54,53,54,54,54,55,54,56,54,57,55,48,55,49,55,50,55,51,55,52,55,53,55,54,55,55,55,56,55,57,56,48,56,49,56,50,56,51,56,52,56,53,56,54,56,55,56,56,56,57,57,48,57,49,57,50,57,51,57,52,57,53,57,54,57,55,57,56,57,57]) v82).bind fun v88=>(ia 1 H x0 v84).bind fun v89=>(st 1 H v89 v87).bind fun H90=>(ia 1 H90 x0 v85).bind fun v91=>(st 1 H90 v91 v88).bind fun H92=>(bI .sub x4 (D.int .i64 2)).bind fun v93=>J E 186 25 [x0,v93,v83] H92) else (J E 186 25 [x0,x4,x12] H):=
 (J_seg E 186 20 [1,20,25] 400 [x0,x4,x12] H).trans (by kernel_rfl)
theorem j186_25 (x0 x4 x12:D) (H:Heap) :
  J E 186 25 [x0,x4,x12] H =
  (bI .gtr x4 (D.int .i64 0)).bind fun v94=>asB v94 fun t=>bif t then ((bI .add (D.int .u32 48) x12).bind fun v95=>(cI .u8 v95).bind fun v96=>(ia 1 H x0 (D.int .i64 0)).bind fun v97=>(st 1 H v97 v96).bind fun H98=>ret_ H98 []) else (ret_ H []):=
 (J_seg E 186 25 [1,20,25] 400 [x0,x4,x12] H).trans (by kernel_rfl)
theorem e188 (x0 x1:D) (H:Heap) :
  ent E 188 [x0,x1] H =
  alloc_ H (D.cells x0) fun p1 H1=>alloc_ H1 (D.cells x1) fun p2 H2=>(fa 0 p1).bind fun v3=>(ld false 1 H2 v3).bind fun v4=>(fa 0 p2).bind fun v5=>(ld false 1 H2 v5).bind fun v6=>(bI .neq v4 v6).bind fun v7=>asB v7 fun t=>bif t then (ret_ H2 [some (D.bool false)]) else ((fa 1 p1).bind fun v8=>(ld false 1 H2 v8).bind fun v9=>(fa 1 p2).bind fun v10=>(ld false 1 H2 v10).bind fun v11=>(bI .neq v9 v11).bind fun v12=>asB v12 fun t=>bif t then (ret_ H2 [some (D.bool false)]) else (ret_ H2 [some (D.bool true)])):=
 (ent_seg E 188 [] 400 [x0,x1] H).trans (by kernel_rfl)
theorem e189 (x0:D) (H:Heap) :
  ent E 189 [x0] H =
  (bsl 2 [.int .i64 0,.int .i64 0] H 0 []).bind fun r1=>(callFn E (exec E) .raw 151 [x0] r1.2).bind fun r2=>(bI .gtr r2.1 (D.int .i64 8)).bind fun v3=>asB v3 fun t=>bif t then ((nilCheck x0).bind fun v4=>(fa 2 v4).bind fun v5=>(st 1 r2.2 v5 (D.bool true)).bind fun H6=>J E 189 5 [x0,r1.1,r2.1] H6) else (J E 189 5 [x0,r1.1,r2.1] r2.2):=
 (ent_seg E 189 [5,6,11,13] 400 [x0] H).trans (by kernel_rfl)
theorem j189_5 (x0 x3 x4:D) (H:Heap) :
  J E 189 5 [x0,x3,x4] H =
  J E 189 6 [x0,x3,x4,(D.int .i64 0)] H:=
 (J_seg E 189 5 [5,6,11,13] 400 [x0,x3,x4] H).trans (by kernel_rfl)
theorem j189_6 (x0 x3 x4 x5:D) (H:Heap) :
  J E 189 6 [x0,x3,x4,x5] H =
  (bI .lss x5 x4).bind fun v7=>asB v7 fun t=>bif t then ((nilCheck x0).bind fun v8=>(fa 2 v8).bind fun v9=>(ld false 1 H v9).bind fun v10=>(unOp .not v10).bind fun v11=>asB v11 fun t=>bif t then ((callFn E (exec E) .raw 151 [x0] H).bind fun r12=>(bld [.int .i64 0,.int .i64 0] [(0,1,false),(1,1,false)] [(0,r12.1)]).bind fun v13=>alloc_ r12.2 [.int .i64 0,.int .i64 0] fun p14 H14=>(st 2 H14 p14 v13).bind fun H15=>(fa 0 p14).bind fun v16=>(ld false 1 H15 v16).bind fun v17=>(bI .eql v17 (D.int .i64 3)).bind fun v18=>asB v18 fun t=>bif t then ((callFn E (exec E) .raw 152 [x0] H15).bind fun r19=>(fa 1 p14).bind fun v20=>(st 1 r19.2 v20 r19.1).bind fun H21=>J E 189 11 [x0,x3,x4,x5,p14] H21) else (J E 189 11 [x0,x3,x4,x5,p14] H15)) else (ret_ H [some x3])) else (ret_ H [some x3]):=
 (J_seg E 189 6 [5,6,11,13] 400 [x0,x3,x4,x5] H).trans (by kernel_rfl)
theorem j189_11 (x0 x3 x4 x5 x6:D) (H:Heap) :
  J E 189 11 [x0,x3,x4,x5,x6] H =
  (fa 0 x6).bind fun v22=>(ld false 1 H v22).bind fun v23=>(bI .gtr v23 (D.int .i64 3)).bind fun v24=>asB v24 fun t=>bif t then ((nilCheck x0).bind fun v25=>(fa 2 v25).bind fun v26=>(st 1 H v26 (D.bool true)).bind fun H27=>J E 189 13 [x0,x3,x4,x5,x6] H27) else (J E 189 13 [x0,x3,x4,x5,x6] H):=
 (J_seg E 189 11 [5,6,11,13] 400 [x0,x3,x4,x5,x6] H).trans (by kernel_rfl)
theorem j189_13 (x0 x3 x4 x5 x6:D) (H:Heap) :
  J E 189 13 [x0,x3,x4,x5,x6] H =
  (ld true 2 H x6).bind fun v28=>(bsl 2 [.int .i64 0,.int .i64 0] H 1 [(0,v28)]).bind fun r29=>(app 2 16 r29.2 x3 r29.1).bind fun r30=>(bI .add x5 (D.int .i64 1)).bind fun v31=>J E 189 6 [x0,r30.1,x4,v31] r30.2:=
 (J_seg E 189 13 [5,6,11,13] 400 [x0,x3,x4,x5,x6] H).trans (by kernel_rfl)
theorem e190 (x0 x1:D) (H:Heap) :
  ent E 190 [x0,x1] H =
  (lnS x0).bind fun v1=>(lnS x1).bind fun v2=>(bI .geq v1 v2).bind fun v3=>asB v3 fun t=>bif t then ((lnS x0).bind fun v4=>(lnS x1).bind fun v5=>(bI .sub v4 v5).bind fun v6=>(slS x0 (some v6) none none).bind fun v7=>(bS .eql v7 x1).bind fun v8=>ret_ H [some v8]) else (ret_ H [some (D.bool false)]):=
 (ent_seg E 190 [] 400 [x0,x1] H).trans (by kernel_rfl)
theorem e192 (x0:D) (H:Heap) :
  ent E 192 [x0] H =
  (bI .add x0 (D.int .i64 16)).bind fun v1=>(bI .quo v1 (D.int .i64 8)).bind fun v2=>ret_ H [some v2]:=
 (ent_seg E 192 [] 400 [x0] H).trans (by kernel_rfl)
theorem e193 (x0 x1:D) (H:Heap) :
  ent E 193 [x0,x1] H =
  (callFn E (exec E) .pure 199 [x1] H).bind fun r1=>(extract r1.1 0).bind fun v2=>(extract r1.1 1).bind fun v3=>(lnS x1).bind fun v4=>J E 193 5 [x0,x1,v2,v3,v4,(D.int .u32 0),(D.int .i64 0)] r1.2:=
 (ent_seg E 193 [5,11] 400 [x0,x1] H).trans (by kernel_rfl)
theorem j193_5 (x0 x1 x5 x6 x7 x8 x9:D) (H:Heap) :
  J E 193 5 [x0,x1,x5,x6,x7,x8,x9] H =
  (bI .lss x9 x7).bind fun v5=>asB v5 fun t=>bif t then ((bI .mul x8 (D.int .u32 16777619)).bind fun v6=>(ix x0 x9).bind fun v7=>(cI .u32 v7).bind fun v8=>(bI .add v6 v8).bind fun v9=>(bI .add x9 (D.int .i64 1)).bind fun v10=>J E 193 5 [x0,x1,x5,x6,x7,v9,v10] H) else ((bI .eql x8 x5).bind fun v11=>asB v11 fun t=>bif t then ((slS x0 none (some x7) none).bind fun v12=>(bS .eql v12 x1).bind fun v13=>asB v13 fun t=>bif t then (ret_ H [some (D.int .i64 0)]) else (J E 193 11 [x0,x1,x5,x6,x7,x8,x7] H)) else (J E 193 11 [x0,x1,x5,x6,x7,x8,x7] H)):=
 (J_seg E 193 5 [5,11] 400 [x0,x1,x5,x6,x7,x8,x9] H).trans (by kernel_rfl)
theorem j193_11 (x0 x1 x5 x6 x7 x8 x10:D) (H:Heap) :
  J E 193 11 [x0,x1,x5,x6,x7,x8,x10] H =
  (lnS x0).bind fun v14=>(bI .lss x10 v14).bind fun v15=>asB v15 fun t=>bif t then ((bI .mul x8 (D.int .u32 16777619)).bind fun v16=>(ix x0 x10).bind fun v17=>(cI .u32 v17).bind fun v18=>(bI .add v16 v18).bind fun v19=>(bI .sub x10 x7).bind fun v20=>(ix x0 v20).bind fun v21=>(cI .u32 v21).bind fun v22=>(bI .mul x6 v22).bind fun v23=>(bI .sub v19 v23).bind fun v24=>(bI .add x10 (D.int .i64 1)).bind fun v25=>(bI .eql v24 x5).bind fun v26=>asB v26 fun t=>bif t then ((bI .sub v25 x7).bind fun v27=>(slS x0 (some v27) (some v25) none).bind fun v28=>(bS .eql v28 x1).bind fun v29=>asB v29 fun t=>bif t then ((bI .sub v25 x7).bind fun v30=>ret_ H [some v30]) else (J E 193 11 [x0,x1,x5,x6,x7,v24,v25] H)) else (J E 193 11 [x0,x1,x5,x6,x7,v24,v25] H)) else (ret_ H [some (D.int .i64 (-1))]):=
 (J_seg E 193 11 [5,11] 400 [x0,x1,x5,x6,x7,x8,x10] H).trans (by kernel_rfl)
theorem e194 (x0:D) (H:Heap) :
  ent E 194 [x0] H =
  (bI .mul x0 (D.int .i64 78913)).bind fun v1=>(bI .shr v1 (D.int .u64 18)).bind fun v2=>ret_ H [some v2]:=
 (ent_seg E 194 [] 400 [x0] H).trans (by kernel_rfl)
theorem e195 (x0:D) (H:Heap) :
  ent E 195 [x0] H =
  (bI .geq x0 (D.int .u64 4294967296)).bind fun v1=>asB v1 fun t=>bif t then ((bI .shr x0 (D.int .u64 32)).bind fun v2=>J E 195 4 [v2,(D.int .i64 32)] H) else (J E 195 4 [x0,(D.int .i64 0)] H):=
 (ent_seg E 195 [4,7,10] 400 [x0] H).trans (by kernel_rfl)
theorem j195_4 (x0 x2:D) (H:Heap) :
  J E 195 4 [x0,x2] H =
  (bI .geq x0 (D.int .u64 65536)).bind fun v3=>asB v3 fun t=>bif t then ((bI .shr x0 (D.int .u64 16)).bind fun v4=>(bI .add x2 (D.int .i64 16)).bind fun v5=>J E 195 7 [v4,v5] H) else (J E 195 7 [x0,x2] H):=
 (J_seg E 195 4 [4,7,10] 400 [x0,x2] H).trans (by kernel_rfl)
theorem j195_7 (x0 x2:D) (H:Heap) :
  J E 195 7 [x0,x2] H =
  (bI .geq x0 (D.int .u64 256)).bind fun v6=>asB v6 fun t=>bif t then ((bI .shr x0 (D.int .u64 8)).bind fun v7=>(bI .add x2 (D.int .i64 8)).bind fun v8=>J E 195 10 [v7,v8] H) else (J E 195 10 [x0,x2] H):=
 (J_seg E 195 7 [4,7,10] 400 [x0,x2] H).trans (by kernel_rfl)
theorem j195_10 (x0 x2:D) (H:Heap) :
  J E 195 10 [x0,x2] H =
  (cI .u8 x0).bind fun v9=>(ix (D.str [0,1,2,2,3,3,3,3,4,4,4,4,4,4,4,4,5,5,5,5,5,5,5,5,5,5,5,5,5,5,5,5,6,6,6,6,6,6,6,6,6,6,6,6,6,6,6,6,6,6,6,6,6,6,6,6,6,6,6,6,6,6,6,6,7,7,7,7,7,7,7,7,7,7,7,7,7,7,7,7,7,7,7,7,7,7,7,7,7,7,7,7,7,7,7,7,7,7,7,7,7,7,7,7,7,7,7,7,7,7,7,7,7,7,7,7,7,7,7,7,7,7,7,7,7,7,7,7,8,8,8,8,8,8,8,8,8,8,8,8,8,8,8,8,8,8,8,8,8,8,8,8,8,8,8,8,8,8,8,8,8,8,8,8,8,8,8,8,8,8,8,8,8,8,8,8,8,8,8,8,8,8,8,8,8,8,8,8,8,8,8,8,8,8,8,8,8,8,8,8,8,8,8,8,8,8,8,8,8,8,8,8,8,8,8,8,8,8,8,8,8,8,8,8,8,8,8,8,8,8,8,8,8,8,8,8,8,8,8,8,8,8,8,8,8,8,8,8,8,8,8,8,8,8,8,8]) v9).bind fun v10=>(cI .i64 v10).bind fun v11=>(bI .add x2 v11).bind fun v12=>ret_ H [some v12]:=
 (J_seg E 195 10 [4,7,10] 400 [x0,x2] H).trans (by kernel_rfl)
theorem e196 (x0:D) (H:Heap) :
  ent E 196 [x0] H =
  asB x0 fun t=>bif t then (ret_ H [some (D.int .i64 1)]) else (ret_ H [some (D.int .i64 0)]):=
 (ent_seg E 196 [] 400 [x0] H).trans (by kernel_rfl)
theorem e197 (x0:D) (H:Heap) :
  ent E 197 [x0] H =
  (bI .sub x0 (D.int .i64 1)).bind fun v1=>(bI .and x0 v1).bind fun v2=>(bI .eql v2 (D.int .i64 0)).bind fun v3=>ret_ H [some v3]:=
 (ent_seg E 197 [] 400 [x0] H).trans (by kernel_rfl)
theorem e198 (x0:D) (H:Heap) :
  ent E 198 [x0] H =
  (callFn E (exec E) .pure 201 [x0] H).bind fun r1=>ret_ r1.2 [some r1.1]:=
 (ent_seg E 198 [] 400 [x0] H).trans (by kernel_rfl)
theorem e199 (x0:D) (H:Heap) :
  ent E 199 [x0] H =
  J E 199 3 [x0,(D.int .u32 0),(D.int .i64 0)] H:=
 (ent_seg E 199 [3,8,12] 400 [x0] H).trans (by kernel_rfl)
theorem j199_3 (x0 x4 x5:D) (H:Heap) :
  J E 199 3 [x0,x4,x5] H =
  (lnS x0).bind fun v1=>(bI .lss x5 v1).bind fun v2=>asB v2 fun t=>bif t then ((bI .mul x4 (D.int .u32 16777619)).bind fun v3=>(ix x0 x5).bind fun v4=>(cI .u32 v4).bind fun v5=>(bI .add v3 v5).bind fun v6=>(bI .add x5 (D.int .i64 1)).bind fun v7=>J E 199 3 [x0,v6,v7] H) else ((lnS x0).bind fun v8=>J E 199 8 [x4,(D.int .u32 1),(D.int .u32 16777619),v8] H):=
 (J_seg E 199 3 [3,8,12] 400 [x0,x4,x5] H).trans (by kernel_rfl)
theorem j199_8 (x4 x6 x7 x8:D) (H:Heap) :
  J E 199 8 [x4,x6,x7,x8] H =
  (bI .gtr x8 (D.int .i64 0)).bind fun v9=>asB v9 fun t=>bif t then ((bI .and x8 (D.int .i64 1)).bind fun v10=>(bI .neq v10 (D.int .i64 0)).bind fun v11=>asB v11 fun t=>bif t then ((bI .mul x6 x7).bind fun v12=>J E 199 12 [x4,v12,x7,x8] H) else (J E 199 12 [x4,x6,x7,x8] H)) else (ret_ H [some x4,some x6]):=
 (J_seg E 199 8 [3,8,12] 400 [x4,x6,x7,x8] H).trans (by kernel_rfl)
theorem j199_12 (x4 x6 x7 x8:D) (H:Heap) :
  J E 199 12 [x4,x6,x7,x8] H =
  (bI .mul x7 x7).bind fun v13=>(bI .shr x8 (D.int .u64 1)).bind fun v14=>J E 199 8 [x4,x6,v13,v14] H:=
 (J_seg E 199 12 [3,8,12] 400 [x4,x6,x7,x8] H).trans (by kernel_rfl)
end Go.Ev.YtmpfooibdekppaaGreatDoor
