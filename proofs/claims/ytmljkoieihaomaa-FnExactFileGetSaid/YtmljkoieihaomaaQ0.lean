import Derived.Test.YtmljkoieihaomaaEn
namespace Go.Ev.Ytmljkoieihaomaa
set_option maxRecDepth 100000
set_option linter.unusedVariables false
-- laws.FnExactFileGet
theorem e4 (x0 : D) (H : Heap) :
    ent E 4 [x0] H =
    (lnS x0).bind fun v1 => (bI .gtr v1 (D.int .i64 1048576)).bind fun v2 => asB v2 fun t => bif t then (ret_ H [some (D.bool true)]) else ((callFn E (exec E) .view 15 [x0] H).bind fun r3 => (extract r3.1 0).bind fun v4 => (extract r3.1 1).bind fun v5 => alloc_ r3.2 [.sl0, .int .i64 0, .int .i64 0, .int .i64 0, .sl0, .sl0, .sl0] fun p6 H6 => (st 7 H6 p6 v4).bind fun H7 => (callFn E (exec E) .own 16 [x0] H7).bind fun r8 => (extract r8.1 0).bind fun v9 => (extract r8.1 1).bind fun v10 => alloc_ r8.2 [.sl0, .int .i64 0, .int .i64 0, .int .i64 0, .sl0, .sl0, .sl0] fun p11 H11 => (st 7 H11 p11 v9).bind fun H12 => (ld true 7 H12 p11).bind fun v13 => (ld true 7 H12 p6).bind fun v14 => (callFn E (exec E) .pure 17 [v13, v14] H12).bind fun r15 => (unOp .not r15.1).bind fun v16 => asB v16 fun t => bif t then (ret_ r15.2 [some (D.bool false)]) else ((bB .neq v10 v5).bind fun v17 => asB v17 fun t => bif t then (ret_ r15.2 [some (D.bool false)]) else ((ld true 7 r15.2 p11).bind fun v18 => (callFn E (exec E) .raw 18 [v18, (D.int .i64 1)] r15.2).bind fun r19 => (ld true 7 r19.2 p11).bind fun v20 => (callFn E (exec E) .pure 19 [v20, (D.int .i64 1)] r19.2).bind fun r21 => (bI .lss r21.1 (D.int .i64 0)).bind fun v22 => asB v22 fun t => bif t then (ret_ r21.2 [some (D.bool false)]) else ((bI .neq r21.1 r19.1).bind fun v23 => asB v23 fun t => bif t then (ret_ r21.2 [some (D.bool false)]) else ((callFn E (exec E) .own 16 [x0] r21.2).bind fun r24 => (extract r24.1 0).bind fun v25 => (extract r24.1 1).bind fun v26 => alloc_ r24.2 [.sl0, .int .i64 0, .int .i64 0, .int .i64 0, .sl0, .sl0, .sl0] fun p27 H27 => (st 7 H27 p27 v25).bind fun H28 => (ld true 7 H28 p27).bind fun v29 => (ld true 7 H28 p6).bind fun v30 => (callFn E (exec E) .pure 17 [v29, v30] H28).bind fun r31 => (unOp .not r31.1).bind fun v32 => asB v32 fun t => bif t then (ret_ r31.2 [some (D.bool false)]) else ((bB .neq v26 v5).bind fun v33 => asB v33 fun t => bif t then (ret_ r31.2 [some (D.bool false)]) else ((ld true 7 r31.2 p11).bind fun v34 => (callFn E (exec E) .pure 19 [v34, (D.int .i64 1)] r31.2).bind fun r35 => (bI .lss r35.1 (D.int .i64 0)).bind fun v36 => asB v36 fun t => bif t then (ret_ r35.2 [some (D.bool false)]) else ((bI .neq r35.1 r19.1).bind fun v37 => asB v37 fun t => bif t then (ret_ r35.2 [some (D.bool false)]) else (ret_ r35.2 [some (D.bool true)]))))))))) :=
  (ent_seg E 4 [] 400 [x0] H).trans (by kernel_rfl)
-- laws.eqIntS
theorem e10 (x0 x1 : D) (H : Heap) :
    ent E 10 [x0, x1] H =
    (lnL x0).bind fun v1 => (lnL x1).bind fun v2 => (bI .neq v1 v2).bind fun v3 => asB v3 fun t => bif t then (ret_ H [some (D.bool false)]) else (J E 10 4 [x0, x1, (D.int .i64 0)] H) :=
  (ent_seg E 10 [4] 400 [x0, x1] H).trans (by kernel_rfl)
theorem j10_4 (x0 x1 x5 : D) (H : Heap) :
    J E 10 4 [x0, x1, x5] H =
    (lnL x0).bind fun v4 => (bI .lss x5 v4).bind fun v5 => asB v5 fun t => bif t then ((ia 1 H x0 x5).bind fun v6 => (ld false 1 H v6).bind fun v7 => (ia 1 H x1 x5).bind fun v8 => (ld false 1 H v8).bind fun v9 => (bI .neq v7 v9).bind fun v10 => asB v10 fun t => bif t then (ret_ H [some (D.bool false)]) else ((bI .add x5 (D.int .i64 1)).bind fun v11 => J E 10 4 [x0, x1, v11] H)) else (ret_ H [some (D.bool true)]) :=
  (J_seg E 10 4 [4] 400 [x0, x1, x5] H).trans (by kernel_rfl)
-- laws.markIntS
theorem e13 (x0 x1 : D) (H : Heap) :
    ent E 13 [x0, x1] H =
    J E 13 2 [x0, x1, (D.int .i64 0)] H :=
  (ent_seg E 13 [2] 400 [x0, x1] H).trans (by kernel_rfl)
theorem j13_2 (x0 x1 x5 : D) (H : Heap) :
    J E 13 2 [x0, x1, x5] H =
    (lnL x0).bind fun v1 => (bI .lss x5 v1).bind fun v2 => asB v2 fun t => bif t then ((ia 1 H x0 x5).bind fun v3 => (st 1 H v3 x1).bind fun H4 => (bI .add x1 (D.int .i64 1)).bind fun v5 => (bI .add x5 (D.int .i64 1)).bind fun v6 => J E 13 2 [x0, v5, v6] H4) else (ret_ H [some x1]) :=
  (J_seg E 13 2 [2] 400 [x0, x1, x5] H).trans (by kernel_rfl)
-- laws.heldIntS
theorem e14 (x0 x1 : D) (H : Heap) :
    ent E 14 [x0, x1] H =
    J E 14 2 [x0, x1, (D.int .i64 0)] H :=
  (ent_seg E 14 [2] 400 [x0, x1] H).trans (by kernel_rfl)
theorem j14_2 (x0 x1 x5 : D) (H : Heap) :
    J E 14 2 [x0, x1, x5] H =
    (lnL x0).bind fun v1 => (bI .lss x5 v1).bind fun v2 => asB v2 fun t => bif t then ((ia 1 H x0 x5).bind fun v3 => (ld false 1 H v3).bind fun v4 => (bI .neq v4 x1).bind fun v5 => asB v5 fun t => bif t then (ret_ H [some (D.int .i64 (-1))]) else ((bI .add x1 (D.int .i64 1)).bind fun v6 => (bI .add x5 (D.int .i64 1)).bind fun v7 => J E 14 2 [x0, v6, v7] H)) else (ret_ H [some x1]) :=
  (J_seg E 14 2 [2] 400 [x0, x1, x5] H).trans (by kernel_rfl)
-- spec.FileGet
theorem e15 (x0 : D) (H : Heap) :
    ent E 15 [x0] H =
    alloc_ H [.sl0, .int .i64 0, .int .i64 0, .int .i64 0, .sl0, .sl0, .sl0] fun p1 H1 => (callFn E (exec E) .view 33 [x0] H1).bind fun r2 => (extract r2.1 0).bind fun v3 => (extract r2.1 1).bind fun v4 => (st 7 r2.2 p1 v3).bind fun H5 => ret_ H5 [ld true 7 H5 p1, some v4] :=
  (ent_seg E 15 [] 400 [x0] H).trans (by kernel_rfl)
-- impl.FileGet
theorem e16 (x0 : D) (H : Heap) :
    ent E 16 [x0] H =
    alloc_ H [.sl0, .int .i64 0, .int .i64 0, .int .i64 0, .sl0, .sl0, .sl0] fun p1 H1 => (lnS x0).bind fun v2 => (bI .gtr v2 (D.int .i64 900)).bind fun v3 => asB v3 fun t => bif t then ((bld [.sl0, .int .i64 0, .int .i64 0, .int .i64 0, .sl0, .sl0, .sl0] [(0, 1, false), (1, 1, false), (2, 1, false), (3, 1, false), (4, 1, false), (5, 1, false), (6, 1, false)] []).bind fun v4 => (st 7 H1 p1 v4).bind fun H5 => ret_ H5 [ld true 7 H5 p1, some (D.bool false)]) else ((bld [.str [], .bool false] [(0, 1, false), (1, 1, false)] [(0, x0)]).bind fun v6 => alloc_ H1 (D.cells v6) fun p7 H7 => (callFn E (exec E) .raw 34 [p7, (D.int .i64 4)] H7).bind fun r8 => (bS .neq r8.1 (D.str [83, 84, 79, 87])).bind fun v9 => asB v9 fun t => bif t then ((bld [.sl0, .int .i64 0, .int .i64 0, .int .i64 0, .sl0, .sl0, .sl0] [(0, 1, false), (1, 1, false), (2, 1, false), (3, 1, false), (4, 1, false), (5, 1, false), (6, 1, false)] []).bind fun v10 => (st 7 r8.2 p1 v10).bind fun H11 => ret_ H11 [ld true 7 H11 p1, some (D.bool false)]) else (alloc_ r8.2 [.sl0, .int .i64 0, .int .i64 0, .int .i64 0, .sl0, .sl0, .sl0] fun p12 H12 => (callFn E (exec E) .raw 36 [p7] H12).bind fun r13 => (callFn E (exec E) .raw 35 [p7, r13.1, (D.int .i64 60)] r13.2).bind fun r14 => J E 16 8 [p1, p7, p12, r14.1] r14.2)) :=
  (ent_seg E 16 [8, 15, 19, 26] 400 [x0] H).trans (by kernel_rfl)
theorem j16_8 (x2 x4 x5 x6 : D) (H : Heap) :
    J E 16 8 [x2, x4, x5, x6] H =
    (bI .gtr x6 (D.int .i64 0)).bind fun v15 => asB v15 fun t => bif t then ((nilCheck x4).bind fun v16 => (fa 1 v16).bind fun v17 => (ld false 1 H v17).bind fun v18 => (unOp .not v18).bind fun v19 => asB v19 fun t => bif t then ((fa 0 x5).bind fun v20 => (ld false 1 H v20).bind fun v21 => (callFn E (exec E) .raw 37 [x4] H).bind fun r22 => (ld false 1 r22.2 v20).bind fun w23 => again w23 v21 ((bsl 4 [.int .i64 0, .str [], .int .i64 0, .int .i64 0] r22.2 1 [(0, r22.1)]).bind fun r24 => (app 4 40 r24.2 v21 r24.1).bind fun r25 => (fa 0 x5).bind fun v26 => (st 1 r25.2 v26 r25.1).bind fun H27 => (bI .sub x6 (D.int .i64 1)).bind fun v28 => J E 16 8 [x2, x4, x5, v28] H27)) else ((callFn E (exec E) .raw 36 [x4] H).bind fun r29 => (fa 1 x5).bind fun v30 => (st 1 r29.2 v30 r29.1).bind fun H31 => (callFn E (exec E) .raw 38 [x4] H31).bind fun r32 => (fa 2 x5).bind fun v33 => (st 1 r32.2 v33 r32.1).bind fun H34 => (callFn E (exec E) .raw 38 [x4] H34).bind fun r35 => (fa 3 x5).bind fun v36 => (st 1 r35.2 v36 r35.1).bind fun H37 => (callFn E (exec E) .raw 36 [x4] H37).bind fun r38 => (callFn E (exec E) .raw 35 [x4, r38.1, (D.int .i64 3)] r38.2).bind fun r39 => J E 16 15 [x2, x4, x5, r39.1] r39.2)) else ((callFn E (exec E) .raw 36 [x4] H).bind fun r40 => (fa 1 x5).bind fun v41 => (st 1 r40.2 v41 r40.1).bind fun H42 => (callFn E (exec E) .raw 38 [x4] H42).bind fun r43 => (fa 2 x5).bind fun v44 => (st 1 r43.2 v44 r43.1).bind fun H45 => (callFn E (exec E) .raw 38 [x4] H45).bind fun r46 => (fa 3 x5).bind fun v47 => (st 1 r46.2 v47 r46.1).bind fun H48 => (callFn E (exec E) .raw 36 [x4] H48).bind fun r49 => (callFn E (exec E) .raw 35 [x4, r49.1, (D.int .i64 3)] r49.2).bind fun r50 => J E 16 15 [x2, x4, x5, r50.1] r50.2) :=
  (J_seg E 16 8 [8, 15, 19, 26] 400 [x2, x4, x5, x6] H).trans (by kernel_rfl)
theorem j16_15 (x2 x4 x5 x7 : D) (H : Heap) :
    J E 16 15 [x2, x4, x5, x7] H =
    (bI .gtr x7 (D.int .i64 0)).bind fun v51 => asB v51 fun t => bif t then ((nilCheck x4).bind fun v52 => (fa 1 v52).bind fun v53 => (ld false 1 H v53).bind fun v54 => (unOp .not v54).bind fun v55 => asB v55 fun t => bif t then ((fa 4 x5).bind fun v56 => (ld false 1 H v56).bind fun v57 => (callFn E (exec E) .raw 38 [x4] H).bind fun r58 => (ld false 1 r58.2 v56).bind fun w59 => again w59 v57 ((bsl 1 [.int .i64 0] r58.2 1 [(0, r58.1)]).bind fun r60 => (app 1 8 r60.2 v57 r60.1).bind fun r61 => (fa 4 x5).bind fun v62 => (st 1 r61.2 v62 r61.1).bind fun H63 => (bI .sub x7 (D.int .i64 1)).bind fun v64 => J E 16 15 [x2, x4, x5, v64] H63)) else ((callFn E (exec E) .raw 36 [x4] H).bind fun r65 => (callFn E (exec E) .raw 35 [x4, r65.1, (D.int .i64 5)] r65.2).bind fun r66 => J E 16 19 [x2, x4, x5, r66.1] r66.2)) else ((callFn E (exec E) .raw 36 [x4] H).bind fun r67 => (callFn E (exec E) .raw 35 [x4, r67.1, (D.int .i64 5)] r67.2).bind fun r68 => J E 16 19 [x2, x4, x5, r68.1] r68.2) :=
  (J_seg E 16 15 [8, 15, 19, 26] 400 [x2, x4, x5, x7] H).trans (by kernel_rfl)
theorem j16_19 (x2 x4 x5 x8 : D) (H : Heap) :
    J E 16 19 [x2, x4, x5, x8] H =
    (bI .gtr x8 (D.int .i64 0)).bind fun v69 => asB v69 fun t => bif t then ((nilCheck x4).bind fun v70 => (fa 1 v70).bind fun v71 => (ld false 1 H v71).bind fun v72 => (unOp .not v72).bind fun v73 => asB v73 fun t => bif t then ((callFn E (exec E) .raw 36 [x4] H).bind fun r74 => (bld [.int .i64 0, .int .i64 0, .int .i64 0] [(0, 1, false), (1, 1, false), (2, 1, false)] [(0, r74.1)]).bind fun v75 => alloc_ r74.2 [.int .i64 0, .int .i64 0, .int .i64 0] fun p76 H76 => (st 3 H76 p76 v75).bind fun H77 => (callFn E (exec E) .raw 38 [x4] H77).bind fun r78 => (fa 1 p76).bind fun v79 => (st 1 r78.2 v79 r78.1).bind fun H80 => (callFn E (exec E) .raw 38 [x4] H80).bind fun r81 => (fa 2 p76).bind fun v82 => (st 1 r81.2 v82 r81.1).bind fun H83 => (fa 5 x5).bind fun v84 => (ld false 1 H83 v84).bind fun v85 => (ld true 3 H83 p76).bind fun v86 => (bsl 3 [.int .i64 0, .int .i64 0, .int .i64 0] H83 1 [(0, v86)]).bind fun r87 => (app 3 24 r87.2 v85 r87.1).bind fun r88 => (fa 5 x5).bind fun v89 => (st 1 r88.2 v89 r88.1).bind fun H90 => (bI .sub x8 (D.int .i64 1)).bind fun v91 => J E 16 19 [x2, x4, x5, v91] H90) else ((callFn E (exec E) .raw 36 [x4] H).bind fun r92 => (callFn E (exec E) .raw 35 [x4, r92.1, (D.int .i64 6)] r92.2).bind fun r93 => J E 16 26 [x2, x4, x5, r93.1] r93.2)) else ((callFn E (exec E) .raw 36 [x4] H).bind fun r94 => (callFn E (exec E) .raw 35 [x4, r94.1, (D.int .i64 6)] r94.2).bind fun r95 => J E 16 26 [x2, x4, x5, r95.1] r95.2) :=
  (J_seg E 16 19 [8, 15, 19, 26] 400 [x2, x4, x5, x8] H).trans (by kernel_rfl)
theorem j16_26 (x2 x4 x5 x10 : D) (H : Heap) :
    J E 16 26 [x2, x4, x5, x10] H =
    (bI .gtr x10 (D.int .i64 0)).bind fun v96 => asB v96 fun t => bif t then ((nilCheck x4).bind fun v97 => (fa 1 v97).bind fun v98 => (ld false 1 H v98).bind fun v99 => (unOp .not v99).bind fun v100 => asB v100 fun t => bif t then ((fa 6 x5).bind fun v101 => (ld false 1 H v101).bind fun v102 => (callFn E (exec E) .raw 39 [x4] H).bind fun r103 => (ld false 1 r103.2 v101).bind fun w104 => again w104 v102 ((bsl 8 [.int .i64 0, .int .i64 0, .int .i64 0, .int .i64 0, .int .i64 0, .str [], .sl0, .sl0] r103.2 1 [(0, r103.1)]).bind fun r105 => (app 8 104 r105.2 v102 r105.1).bind fun r106 => (fa 6 x5).bind fun v107 => (st 1 r106.2 v107 r106.1).bind fun H108 => (bI .sub x10 (D.int .i64 1)).bind fun v109 => J E 16 26 [x2, x4, x5, v109] H108)) else ((nilCheck x4).bind fun v110 => (fa 1 v110).bind fun v111 => (ld false 1 H v111).bind fun v112 => asB v112 fun t => bif t then ((bld [.sl0, .int .i64 0, .int .i64 0, .int .i64 0, .sl0, .sl0, .sl0] [(0, 1, false), (1, 1, false), (2, 1, false), (3, 1, false), (4, 1, false), (5, 1, false), (6, 1, false)] []).bind fun v113 => (st 7 H x2 v113).bind fun H114 => ret_ H114 [ld true 7 H114 x2, some (D.bool false)]) else ((nilCheck x4).bind fun v115 => (fa 0 v115).bind fun v116 => (ld false 1 H v116).bind fun v117 => (bS .neq v117 (D.str [])).bind fun v118 => asB v118 fun t => bif t then ((bld [.sl0, .int .i64 0, .int .i64 0, .int .i64 0, .sl0, .sl0, .sl0] [(0, 1, false), (1, 1, false), (2, 1, false), (3, 1, false), (4, 1, false), (5, 1, false), (6, 1, false)] []).bind fun v119 => (st 7 H x2 v119).bind fun H120 => ret_ H120 [ld true 7 H120 x2, some (D.bool false)]) else ((ld true 7 H x5).bind fun v121 => (st 7 H x2 v121).bind fun H122 => ret_ H122 [ld true 7 H122 x2, some (D.bool true)])))) else ((nilCheck x4).bind fun v123 => (fa 1 v123).bind fun v124 => (ld false 1 H v124).bind fun v125 => asB v125 fun t => bif t then ((bld [.sl0, .int .i64 0, .int .i64 0, .int .i64 0, .sl0, .sl0, .sl0] [(0, 1, false), (1, 1, false), (2, 1, false), (3, 1, false), (4, 1, false), (5, 1, false), (6, 1, false)] []).bind fun v126 => (st 7 H x2 v126).bind fun H127 => ret_ H127 [ld true 7 H127 x2, some (D.bool false)]) else ((nilCheck x4).bind fun v128 => (fa 0 v128).bind fun v129 => (ld false 1 H v129).bind fun v130 => (bS .neq v130 (D.str [])).bind fun v131 => asB v131 fun t => bif t then ((bld [.sl0, .int .i64 0, .int .i64 0, .int .i64 0, .sl0, .sl0, .sl0] [(0, 1, false), (1, 1, false), (2, 1, false), (3, 1, false), (4, 1, false), (5, 1, false), (6, 1, false)] []).bind fun v132 => (st 7 H x2 v132).bind fun H133 => ret_ H133 [ld true 7 H133 x2, some (D.bool false)]) else ((ld true 7 H x5).bind fun v134 => (st 7 H x2 v134).bind fun H135 => ret_ H135 [ld true 7 H135 x2, some (D.bool true)]))) :=
  (J_seg E 16 26 [8, 15, 19, 26] 400 [x2, x4, x5, x10] H).trans (by kernel_rfl)
-- laws.eqClass
theorem e17 (x0 x1 : D) (H : Heap) :
    ent E 17 [x0, x1] H =
    alloc_ H (D.cells x0) fun p1 H1 => alloc_ H1 (D.cells x1) fun p2 H2 => (fa 0 p1).bind fun v3 => (ld false 1 H2 v3).bind fun v4 => (fa 0 p2).bind fun v5 => (ld false 1 H2 v5).bind fun v6 => (callFn E (exec E) .pure 40 [v4, v6] H2).bind fun r7 => (unOp .not r7.1).bind fun v8 => asB v8 fun t => bif t then (ret_ r7.2 [some (D.bool false)]) else ((fa 1 p1).bind fun v9 => (ld false 1 r7.2 v9).bind fun v10 => (fa 1 p2).bind fun v11 => (ld false 1 r7.2 v11).bind fun v12 => (bI .neq v10 v12).bind fun v13 => asB v13 fun t => bif t then (ret_ r7.2 [some (D.bool false)]) else ((fa 2 p1).bind fun v14 => (ld false 1 r7.2 v14).bind fun v15 => (fa 2 p2).bind fun v16 => (ld false 1 r7.2 v16).bind fun v17 => (bI .neq v15 v17).bind fun v18 => asB v18 fun t => bif t then (ret_ r7.2 [some (D.bool false)]) else ((fa 3 p1).bind fun v19 => (ld false 1 r7.2 v19).bind fun v20 => (fa 3 p2).bind fun v21 => (ld false 1 r7.2 v21).bind fun v22 => (bI .neq v20 v22).bind fun v23 => asB v23 fun t => bif t then (ret_ r7.2 [some (D.bool false)]) else ((fa 4 p1).bind fun v24 => (ld false 1 r7.2 v24).bind fun v25 => (fa 4 p2).bind fun v26 => (ld false 1 r7.2 v26).bind fun v27 => (callFn E (exec E) .pure 10 [v25, v27] r7.2).bind fun r28 => (unOp .not r28.1).bind fun v29 => asB v29 fun t => bif t then (ret_ r28.2 [some (D.bool false)]) else ((fa 5 p1).bind fun v30 => (ld false 1 r28.2 v30).bind fun v31 => (fa 5 p2).bind fun v32 => (ld false 1 r28.2 v32).bind fun v33 => (callFn E (exec E) .pure 41 [v31, v33] r28.2).bind fun r34 => (unOp .not r34.1).bind fun v35 => asB v35 fun t => bif t then (ret_ r34.2 [some (D.bool false)]) else ((fa 6 p1).bind fun v36 => (ld false 1 r34.2 v36).bind fun v37 => (fa 6 p2).bind fun v38 => (ld false 1 r34.2 v38).bind fun v39 => (callFn E (exec E) .pure 42 [v37, v39] r34.2).bind fun r40 => (unOp .not r40.1).bind fun v41 => asB v41 fun t => bif t then (ret_ r40.2 [some (D.bool false)]) else (ret_ r40.2 [some (D.bool true)]))))))) :=
  (ent_seg E 17 [] 400 [x0, x1] H).trans (by kernel_rfl)
-- laws.markClass
theorem e18 (x0 x1 : D) (H : Heap) :
    ent E 18 [x0, x1] H =
    alloc_ H (D.cells x0) fun p1 H1 => (fa 0 p1).bind fun v2 => (ld false 1 H1 v2).bind fun v3 => (callFn E (exec E) .raw 43 [v3, x1] H1).bind fun r4 => (fa 4 p1).bind fun v5 => (ld false 1 r4.2 v5).bind fun v6 => (callFn E (exec E) .raw 13 [v6, r4.1] r4.2).bind fun r7 => (fa 5 p1).bind fun v8 => (ld false 1 r7.2 v8).bind fun v9 => (callFn E (exec E) .raw 44 [v9, r7.1] r7.2).bind fun r10 => (fa 6 p1).bind fun v11 => (ld false 1 r10.2 v11).bind fun v12 => (callFn E (exec E) .raw 45 [v12, r10.1] r10.2).bind fun r13 => ret_ r13.2 [some r13.1] :=
  (ent_seg E 18 [] 400 [x0, x1] H).trans (by kernel_rfl)
-- laws.heldClass
theorem e19 (x0 x1 : D) (H : Heap) :
    ent E 19 [x0, x1] H =
    alloc_ H (D.cells x0) fun p1 H1 => (fa 0 p1).bind fun v2 => (ld false 1 H1 v2).bind fun v3 => (callFn E (exec E) .pure 46 [v3, x1] H1).bind fun r4 => (bI .lss r4.1 (D.int .i64 0)).bind fun v5 => asB v5 fun t => bif t then (ret_ r4.2 [some (D.int .i64 (-1))]) else ((fa 4 p1).bind fun v6 => (ld false 1 r4.2 v6).bind fun v7 => (callFn E (exec E) .pure 14 [v7, r4.1] r4.2).bind fun r8 => (bI .lss r8.1 (D.int .i64 0)).bind fun v9 => asB v9 fun t => bif t then (ret_ r8.2 [some (D.int .i64 (-1))]) else ((fa 5 p1).bind fun v10 => (ld false 1 r8.2 v10).bind fun v11 => (callFn E (exec E) .pure 47 [v11, r8.1] r8.2).bind fun r12 => (bI .lss r12.1 (D.int .i64 0)).bind fun v13 => asB v13 fun t => bif t then (ret_ r12.2 [some (D.int .i64 (-1))]) else ((fa 6 p1).bind fun v14 => (ld false 1 r12.2 v14).bind fun v15 => (callFn E (exec E) .pure 48 [v15, r12.1] r12.2).bind fun r16 => (bI .lss r16.1 (D.int .i64 0)).bind fun v17 => asB v17 fun t => bif t then (ret_ r16.2 [some (D.int .i64 (-1))]) else (ret_ r16.2 [some r16.1])))) :=
  (ent_seg E 19 [] 400 [x0, x1] H).trans (by kernel_rfl)
-- spec.l1Get
theorem e33 (x0 : D) (H : Heap) :
    ent E 33 [x0] H =
    alloc_ H [.sl0, .int .i64 0, .int .i64 0, .int .i64 0, .sl0, .sl0, .sl0] fun p1 H1 => (lnS x0).bind fun v2 => (bI .gtr v2 (D.int .i64 900)).bind fun v3 => asB v3 fun t => bif t then ((bld [.sl0, .int .i64 0, .int .i64 0, .int .i64 0, .sl0, .sl0, .sl0] [(0, 1, false), (1, 1, false), (2, 1, false), (3, 1, false), (4, 1, false), (5, 1, false), (6, 1, false)] []).bind fun v4 => (st 7 H1 p1 v4).bind fun H5 => ret_ H5 [ld true 7 H5 p1, some (D.bool false)]) else ((bld [.str [], .int .i64 0, .bool false] [(0, 1, false), (1, 1, false), (2, 1, false)] [(0, x0)]).bind fun v6 => alloc_ H1 (D.cells v6) fun p7 H7 => (callFn E (exec E) .raw 83 [p7] H7).bind fun r8 => alloc_ r8.2 [.sl0, .int .i64 0, .int .i64 0, .int .i64 0, .sl0, .sl0, .sl0] fun p9 H9 => (st 7 H9 p9 r8.1).bind fun H10 => (nilCheck p7).bind fun v11 => (fa 2 v11).bind fun v12 => (ld false 1 H10 v12).bind fun v13 => asB v13 fun t => bif t then ((bld [.sl0, .int .i64 0, .int .i64 0, .int .i64 0, .sl0, .sl0, .sl0] [(0, 1, false), (1, 1, false), (2, 1, false), (3, 1, false), (4, 1, false), (5, 1, false), (6, 1, false)] []).bind fun v14 => (st 7 H10 p1 v14).bind fun H15 => ret_ H15 [ld true 7 H15 p1, some (D.bool false)]) else ((nilCheck p7).bind fun v16 => (fa 1 v16).bind fun v17 => (ld false 1 H10 v17).bind fun v18 => (lnS x0).bind fun v19 => (bI .neq v18 v19).bind fun v20 => asB v20 fun t => bif t then ((bld [.sl0, .int .i64 0, .int .i64 0, .int .i64 0, .sl0, .sl0, .sl0] [(0, 1, false), (1, 1, false), (2, 1, false), (3, 1, false), (4, 1, false), (5, 1, false), (6, 1, false)] []).bind fun v21 => (st 7 H10 p1 v21).bind fun H22 => ret_ H22 [ld true 7 H22 p1, some (D.bool false)]) else ((ld true 7 H10 p9).bind fun v23 => (callFn E (exec E) .pure 54 [v23] H10).bind fun r24 => (bS .neq r24.1 x0).bind fun v25 => asB v25 fun t => bif t then ((bld [.sl0, .int .i64 0, .int .i64 0, .int .i64 0, .sl0, .sl0, .sl0] [(0, 1, false), (1, 1, false), (2, 1, false), (3, 1, false), (4, 1, false), (5, 1, false), (6, 1, false)] []).bind fun v26 => (st 7 r24.2 p1 v26).bind fun H27 => ret_ H27 [ld true 7 H27 p1, some (D.bool false)]) else ((ld true 7 r24.2 p9).bind fun v28 => (st 7 r24.2 p1 v28).bind fun H29 => ret_ H29 [ld true 7 H29 p1, some (D.bool true)])))) :=
  (ent_seg E 33 [] 400 [x0] H).trans (by kernel_rfl)
-- (*impl.taker).text
theorem e34 (x0 x1 : D) (H : Heap) :
    ent E 34 [x0, x1] H =
    (nilCheck x0).bind fun v1 => (fa 1 v1).bind fun v2 => (ld false 1 H v2).bind fun v3 => asB v3 fun t => bif t then ((nilCheck x0).bind fun v4 => (fa 1 v4).bind fun v5 => (st 1 H v5 (D.bool true)).bind fun H6 => ret_ H6 [some (D.str [])]) else ((nilCheck x0).bind fun v7 => (fa 0 v7).bind fun v8 => (ld false 1 H v8).bind fun v9 => (lnS v9).bind fun v10 => (bI .gtr x1 v10).bind fun v11 => asB v11 fun t => bif t then ((nilCheck x0).bind fun v12 => (fa 1 v12).bind fun v13 => (st 1 H v13 (D.bool true)).bind fun H14 => ret_ H14 [some (D.str [])]) else ((nilCheck x0).bind fun v15 => (fa 0 v15).bind fun v16 => (ld false 1 H v16).bind fun v17 => (slS v17 none (some x1) none).bind fun v18 => (nilCheck x0).bind fun v19 => (fa 0 v19).bind fun v20 => (ld false 1 H v20).bind fun v21 => (slS v21 (some x1) none none).bind fun v22 => (nilCheck x0).bind fun v23 => (fa 0 v23).bind fun v24 => (st 1 H v24 v22).bind fun H25 => ret_ H25 [some v18])) :=
  (ent_seg E 34 [] 400 [x0, x1] H).trans (by kernel_rfl)
-- (*impl.taker).upTo
theorem e35 (x0 x1 x2 : D) (H : Heap) :
    ent E 35 [x0, x1, x2] H =
    (bI .gtr x1 x2).bind fun v1 => asB v1 fun t => bif t then ((nilCheck x0).bind fun v2 => (fa 1 v2).bind fun v3 => (st 1 H v3 (D.bool true)).bind fun H4 => ret_ H4 [some (D.int .i64 0)]) else (ret_ H [some x1]) :=
  (ent_seg E 35 [] 400 [x0, x1, x2] H).trans (by kernel_rfl)
-- (*impl.taker).one
theorem e36 (x0 : D) (H : Heap) :
    ent E 36 [x0] H =
    (callFn E (exec E) .raw 34 [x0, (D.int .i64 1)] H).bind fun r1 => (nilCheck x0).bind fun v2 => (fa 1 v2).bind fun v3 => (ld false 1 r1.2 v3).bind fun v4 => asB v4 fun t => bif t then (ret_ r1.2 [some (D.int .i64 0)]) else ((ix r1.1 (D.int .i64 0)).bind fun v5 => (cI .i64 v5).bind fun v6 => ret_ r1.2 [some v6]) :=
  (ent_seg E 36 [] 400 [x0] H).trans (by kernel_rfl)
-- (*impl.taker).constant
theorem e37 (x0 : D) (H : Heap) :
    ent E 37 [x0] H =
    alloc_ H [.int .i64 0, .str [], .int .i64 0, .int .i64 0] fun p1 H1 => (callFn E (exec E) .raw 36 [x0] H1).bind fun r2 => (bld [.int .i64 0, .str [], .int .i64 0, .int .i64 0] [(0, 1, false), (1, 1, false), (2, 1, false), (3, 1, false)] [(0, r2.1)]).bind fun v3 => alloc_ r2.2 [.int .i64 0, .str [], .int .i64 0, .int .i64 0] fun p4 H4 => (st 4 H4 p4 v3).bind fun H5 => (fa 0 p4).bind fun v6 => (ld false 1 H5 v6).bind fun v7 => (bI .eql v7 (D.int .i64 1)).bind fun v8 => asB v8 fun t => bif t then ((callFn E (exec E) .raw 36 [x0] H5).bind fun r9 => (callFn E (exec E) .raw 34 [x0, r9.1] r9.2).bind fun r10 => (fa 1 p4).bind fun v11 => (st 1 r10.2 v11 r10.1).bind fun H12 => J E 37 14 [p1, p4] H12) else ((bI .eql v7 (D.int .i64 2)).bind fun v13 => asB v13 fun t => bif t then ((callFn E (exec E) .raw 38 [x0] H5).bind fun r14 => (fa 2 p4).bind fun v15 => (st 1 r14.2 v15 r14.1).bind fun H16 => J E 37 14 [p1, p4] H16) else ((bI .eql v7 (D.int .i64 3)).bind fun v17 => asB v17 fun t => bif t then (asB v17 fun t => bif t then (J E 37 12 [x0, p1, p4] H5) else (J E 37 3 [x0, p1, p4] H5)) else ((bI .eql v7 (D.int .i64 4)).bind fun v18 => asB v18 fun t => bif t then (asB v18 fun t => bif t then (J E 37 12 [x0, p1, p4] H5) else (J E 37 3 [x0, p1, p4] H5)) else ((bI .eql v7 (D.int .i64 5)).bind fun v19 => asB v19 fun t => bif t then (asB v19 fun t => bif t then (J E 37 12 [x0, p1, p4] H5) else (J E 37 3 [x0, p1, p4] H5)) else ((bI .eql v7 (D.int .i64 6)).bind fun v20 => asB v20 fun t => bif t then (J E 37 12 [x0, p1, p4] H5) else (J E 37 3 [x0, p1, p4] H5)))))) :=
  (ent_seg E 37 [3, 12, 14] 400 [x0] H).trans (by kernel_rfl)
theorem j37_3 (x0 x2 x3 : D) (H : Heap) :
    J E 37 3 [x0, x2, x3] H =
    (nilCheck x0).bind fun v21 => (fa 1 v21).bind fun v22 => (st 1 H v22 (D.bool true)).bind fun H23 => J E 37 14 [x2, x3] H23 :=
  (J_seg E 37 3 [3, 12, 14] 400 [x0, x2, x3] H).trans (by kernel_rfl)
theorem j37_12 (x0 x2 x3 : D) (H : Heap) :
    J E 37 12 [x0, x2, x3] H =
    (callFn E (exec E) .raw 38 [x0] H).bind fun r24 => (fa 2 x3).bind fun v25 => (st 1 r24.2 v25 r24.1).bind fun H26 => (callFn E (exec E) .raw 38 [x0] H26).bind fun r27 => (fa 3 x3).bind fun v28 => (st 1 r27.2 v28 r27.1).bind fun H29 => J E 37 14 [x2, x3] H29 :=
  (J_seg E 37 12 [3, 12, 14] 400 [x0, x2, x3] H).trans (by kernel_rfl)
theorem j37_14 (x2 x3 : D) (H : Heap) :
    J E 37 14 [x2, x3] H =
    (ld true 4 H x3).bind fun v30 => (st 4 H x2 v30).bind fun H31 => ret_ H31 [ld true 4 H31 x2] :=
  (J_seg E 37 14 [3, 12, 14] 400 [x2, x3] H).trans (by kernel_rfl)
-- (*impl.taker).two
theorem e38 (x0 : D) (H : Heap) :
    ent E 38 [x0] H =
    (callFn E (exec E) .raw 36 [x0] H).bind fun r1 => (bI .mul (D.int .i64 256) r1.1).bind fun v2 => (callFn E (exec E) .raw 36 [x0] r1.2).bind fun r3 => (bI .add v2 r3.1).bind fun v4 => ret_ r3.2 [some v4] :=
  (ent_seg E 38 [] 400 [x0] H).trans (by kernel_rfl)
-- (*impl.taker).method
theorem e39 (x0 : D) (H : Heap) :
    ent E 39 [x0] H =
    alloc_ H [.int .i64 0, .int .i64 0, .int .i64 0, .int .i64 0, .int .i64 0, .str [], .sl0, .sl0] fun p1 H1 => (callFn E (exec E) .raw 36 [x0] H1).bind fun r2 => (bld [.int .i64 0, .int .i64 0, .int .i64 0, .int .i64 0, .int .i64 0, .str [], .sl0, .sl0] [(0, 1, false), (1, 1, false), (2, 1, false), (3, 1, false), (4, 1, false), (5, 1, false), (6, 1, false), (7, 1, false)] [(0, r2.1)]).bind fun v3 => alloc_ r2.2 [.int .i64 0, .int .i64 0, .int .i64 0, .int .i64 0, .int .i64 0, .str [], .sl0, .sl0] fun p4 H4 => (st 8 H4 p4 v3).bind fun H5 => (callFn E (exec E) .raw 38 [x0] H5).bind fun r6 => (fa 1 p4).bind fun v7 => (st 1 r6.2 v7 r6.1).bind fun H8 => (callFn E (exec E) .raw 38 [x0] H8).bind fun r9 => (fa 2 p4).bind fun v10 => (st 1 r9.2 v10 r9.1).bind fun H11 => (fa 0 p4).bind fun v12 => (ld false 1 H11 v12).bind fun v13 => (callFn E (exec E) .pure 84 [v13] H11).bind fun r14 => asB r14.1 fun t => bif t then ((ld true 8 r14.2 p4).bind fun v15 => (st 8 r14.2 p1 v15).bind fun H16 => ret_ H16 [ld true 8 H16 p1]) else ((callFn E (exec E) .raw 36 [x0] r14.2).bind fun r17 => (fa 3 p4).bind fun v18 => (st 1 r17.2 v18 r17.1).bind fun H19 => (callFn E (exec E) .raw 36 [x0] H19).bind fun r20 => (fa 4 p4).bind fun v21 => (st 1 r20.2 v21 r20.1).bind fun H22 => (callFn E (exec E) .raw 38 [x0] H22).bind fun r23 => (callFn E (exec E) .raw 35 [x0, r23.1, (D.int .i64 120)] r23.2).bind fun r24 => (callFn E (exec E) .raw 34 [x0, r24.1] r24.2).bind fun r25 => (fa 5 p4).bind fun v26 => (st 1 r25.2 v26 r25.1).bind fun H27 => (callFn E (exec E) .raw 36 [x0] H27).bind fun r28 => (callFn E (exec E) .raw 35 [x0, r28.1, (D.int .i64 3)] r28.2).bind fun r29 => J E 39 10 [x0, p1, p4, r29.1] r29.2) :=
  (ent_seg E 39 [10, 18] 400 [x0] H).trans (by kernel_rfl)
theorem j39_10 (x0 x2 x3 x4 : D) (H : Heap) :
    J E 39 10 [x0, x2, x3, x4] H =
    (bI .gtr x4 (D.int .i64 0)).bind fun v30 => asB v30 fun t => bif t then ((nilCheck x0).bind fun v31 => (fa 1 v31).bind fun v32 => (ld false 1 H v32).bind fun v33 => (unOp .not v33).bind fun v34 => asB v34 fun t => bif t then ((callFn E (exec E) .raw 38 [x0] H).bind fun r35 => (bld [.int .i64 0, .int .i64 0, .int .i64 0, .int .i64 0] [(0, 1, false), (1, 1, false), (2, 1, false), (3, 1, false)] [(0, r35.1)]).bind fun v36 => alloc_ r35.2 [.int .i64 0, .int .i64 0, .int .i64 0, .int .i64 0] fun p37 H37 => (st 4 H37 p37 v36).bind fun H38 => (callFn E (exec E) .raw 38 [x0] H38).bind fun r39 => (fa 1 p37).bind fun v40 => (st 1 r39.2 v40 r39.1).bind fun H41 => (callFn E (exec E) .raw 38 [x0] H41).bind fun r42 => (fa 2 p37).bind fun v43 => (st 1 r42.2 v43 r42.1).bind fun H44 => (callFn E (exec E) .raw 38 [x0] H44).bind fun r45 => (fa 3 p37).bind fun v46 => (st 1 r45.2 v46 r45.1).bind fun H47 => (fa 6 x3).bind fun v48 => (ld false 1 H47 v48).bind fun v49 => (ld true 4 H47 p37).bind fun v50 => (bsl 4 [.int .i64 0, .int .i64 0, .int .i64 0, .int .i64 0] H47 1 [(0, v50)]).bind fun r51 => (app 4 32 r51.2 v49 r51.1).bind fun r52 => (fa 6 x3).bind fun v53 => (st 1 r52.2 v53 r52.1).bind fun H54 => (bI .sub x4 (D.int .i64 1)).bind fun v55 => J E 39 10 [x0, x2, x3, v55] H54) else ((callFn E (exec E) .raw 36 [x0] H).bind fun r56 => (callFn E (exec E) .raw 35 [x0, r56.1, (D.int .i64 8)] r56.2).bind fun r57 => J E 39 18 [x0, x2, x3, r57.1] r57.2)) else ((callFn E (exec E) .raw 36 [x0] H).bind fun r58 => (callFn E (exec E) .raw 35 [x0, r58.1, (D.int .i64 8)] r58.2).bind fun r59 => J E 39 18 [x0, x2, x3, r59.1] r59.2) :=
  (J_seg E 39 10 [10, 18] 400 [x0, x2, x3, x4] H).trans (by kernel_rfl)
theorem j39_18 (x0 x2 x3 x6 : D) (H : Heap) :
    J E 39 18 [x0, x2, x3, x6] H =
    (bI .gtr x6 (D.int .i64 0)).bind fun v60 => asB v60 fun t => bif t then ((nilCheck x0).bind fun v61 => (fa 1 v61).bind fun v62 => (ld false 1 H v62).bind fun v63 => (unOp .not v63).bind fun v64 => asB v64 fun t => bif t then ((callFn E (exec E) .raw 38 [x0] H).bind fun r65 => (bld [.int .i64 0, .sl0, .sl0] [(0, 1, false), (1, 1, false), (2, 1, false)] [(0, r65.1)]).bind fun v66 => alloc_ r65.2 [.int .i64 0, .sl0, .sl0] fun p67 H67 => (st 3 H67 p67 v66).bind fun H68 => (callFn E (exec E) .raw 85 [x0] H68).bind fun r69 => (fa 1 p67).bind fun v70 => (st 1 r69.2 v70 r69.1).bind fun H71 => (callFn E (exec E) .raw 85 [x0] H71).bind fun r72 => (fa 2 p67).bind fun v73 => (st 1 r72.2 v73 r72.1).bind fun H74 => (fa 7 x3).bind fun v75 => (ld false 1 H74 v75).bind fun v76 => (ld true 3 H74 p67).bind fun v77 => (bsl 3 [.int .i64 0, .sl0, .sl0] H74 1 [(0, v77)]).bind fun r78 => (app 3 56 r78.2 v76 r78.1).bind fun r79 => (fa 7 x3).bind fun v80 => (st 1 r79.2 v80 r79.1).bind fun H81 => (bI .sub x6 (D.int .i64 1)).bind fun v82 => J E 39 18 [x0, x2, x3, v82] H81) else ((ld true 8 H x3).bind fun v83 => (st 8 H x2 v83).bind fun H84 => ret_ H84 [ld true 8 H84 x2])) else ((ld true 8 H x3).bind fun v85 => (st 8 H x2 v85).bind fun H86 => ret_ H86 [ld true 8 H86 x2]) :=
  (J_seg E 39 18 [10, 18] 400 [x0, x2, x3, x6] H).trans (by kernel_rfl)
-- laws.eqConstS
theorem e40 (x0 x1 : D) (H : Heap) :
    ent E 40 [x0, x1] H =
    (lnL x0).bind fun v1 => (lnL x1).bind fun v2 => (bI .neq v1 v2).bind fun v3 => asB v3 fun t => bif t then (ret_ H [some (D.bool false)]) else (J E 40 4 [x0, x1, (D.int .i64 0)] H) :=
  (ent_seg E 40 [4] 400 [x0, x1] H).trans (by kernel_rfl)
theorem j40_4 (x0 x1 x5 : D) (H : Heap) :
    J E 40 4 [x0, x1, x5] H =
    (lnL x0).bind fun v4 => (bI .lss x5 v4).bind fun v5 => asB v5 fun t => bif t then ((ia 4 H x0 x5).bind fun v6 => (ld true 4 H v6).bind fun v7 => (ia 4 H x1 x5).bind fun v8 => (ld true 4 H v8).bind fun v9 => (callFn E (exec E) .pure 86 [v7, v9] H).bind fun r10 => (unOp .not r10.1).bind fun v11 => asB v11 fun t => bif t then (ret_ r10.2 [some (D.bool false)]) else ((bI .add x5 (D.int .i64 1)).bind fun v12 => J E 40 4 [x0, x1, v12] r10.2)) else (ret_ H [some (D.bool true)]) :=
  (J_seg E 40 4 [4] 400 [x0, x1, x5] H).trans (by kernel_rfl)
-- laws.eqFieldS
theorem e41 (x0 x1 : D) (H : Heap) :
    ent E 41 [x0, x1] H =
    (lnL x0).bind fun v1 => (lnL x1).bind fun v2 => (bI .neq v1 v2).bind fun v3 => asB v3 fun t => bif t then (ret_ H [some (D.bool false)]) else (J E 41 4 [x0, x1, (D.int .i64 0)] H) :=
  (ent_seg E 41 [4] 400 [x0, x1] H).trans (by kernel_rfl)
theorem j41_4 (x0 x1 x5 : D) (H : Heap) :
    J E 41 4 [x0, x1, x5] H =
    (lnL x0).bind fun v4 => (bI .lss x5 v4).bind fun v5 => asB v5 fun t => bif t then ((ia 3 H x0 x5).bind fun v6 => (ld true 3 H v6).bind fun v7 => (ia 3 H x1 x5).bind fun v8 => (ld true 3 H v8).bind fun v9 => (callFn E (exec E) .pure 87 [v7, v9] H).bind fun r10 => (unOp .not r10.1).bind fun v11 => asB v11 fun t => bif t then (ret_ r10.2 [some (D.bool false)]) else ((bI .add x5 (D.int .i64 1)).bind fun v12 => J E 41 4 [x0, x1, v12] r10.2)) else (ret_ H [some (D.bool true)]) :=
  (J_seg E 41 4 [4] 400 [x0, x1, x5] H).trans (by kernel_rfl)
-- laws.eqMethodS
theorem e42 (x0 x1 : D) (H : Heap) :
    ent E 42 [x0, x1] H =
    (lnL x0).bind fun v1 => (lnL x1).bind fun v2 => (bI .neq v1 v2).bind fun v3 => asB v3 fun t => bif t then (ret_ H [some (D.bool false)]) else (J E 42 4 [x0, x1, (D.int .i64 0)] H) :=
  (ent_seg E 42 [4] 400 [x0, x1] H).trans (by kernel_rfl)
theorem j42_4 (x0 x1 x5 : D) (H : Heap) :
    J E 42 4 [x0, x1, x5] H =
    (lnL x0).bind fun v4 => (bI .lss x5 v4).bind fun v5 => asB v5 fun t => bif t then ((ia 8 H x0 x5).bind fun v6 => (ld true 8 H v6).bind fun v7 => (ia 8 H x1 x5).bind fun v8 => (ld true 8 H v8).bind fun v9 => (callFn E (exec E) .pure 88 [v7, v9] H).bind fun r10 => (unOp .not r10.1).bind fun v11 => asB v11 fun t => bif t then (ret_ r10.2 [some (D.bool false)]) else ((bI .add x5 (D.int .i64 1)).bind fun v12 => J E 42 4 [x0, x1, v12] r10.2)) else (ret_ H [some (D.bool true)]) :=
  (J_seg E 42 4 [4] 400 [x0, x1, x5] H).trans (by kernel_rfl)
-- laws.markConstS
theorem e43 (x0 x1 : D) (H : Heap) :
    ent E 43 [x0, x1] H =
    J E 43 2 [x0, x1, (D.int .i64 0)] H :=
  (ent_seg E 43 [2] 400 [x0, x1] H).trans (by kernel_rfl)
theorem j43_2 (x0 x1 x5 : D) (H : Heap) :
    J E 43 2 [x0, x1, x5] H =
    (lnL x0).bind fun v1 => (bI .lss x5 v1).bind fun v2 => asB v2 fun t => bif t then ((ia 4 H x0 x5).bind fun v3 => (fa 0 v3).bind fun v4 => (st 1 H v4 x1).bind fun H5 => (bI .add x1 (D.int .i64 1)).bind fun v6 => (callFn E (exec E) .pure 82 [v6] H5).bind fun r7 => (ia 4 r7.2 x0 x5).bind fun v8 => (fa 1 v8).bind fun v9 => (st 1 r7.2 v9 r7.1).bind fun H10 => (bI .add v6 (D.int .i64 1)).bind fun v11 => (ia 4 H10 x0 x5).bind fun v12 => (fa 2 v12).bind fun v13 => (st 1 H10 v13 v11).bind fun H14 => (bI .add v11 (D.int .i64 1)).bind fun v15 => (ia 4 H14 x0 x5).bind fun v16 => (fa 3 v16).bind fun v17 => (st 1 H14 v17 v15).bind fun H18 => (bI .add v15 (D.int .i64 1)).bind fun v19 => (bI .add x5 (D.int .i64 1)).bind fun v20 => J E 43 2 [x0, v19, v20] H18) else (ret_ H [some x1]) :=
  (J_seg E 43 2 [2] 400 [x0, x1, x5] H).trans (by kernel_rfl)
-- laws.markFieldS
theorem e44 (x0 x1 : D) (H : Heap) :
    ent E 44 [x0, x1] H =
    J E 44 2 [x0, x1, (D.int .i64 0)] H :=
  (ent_seg E 44 [2] 400 [x0, x1] H).trans (by kernel_rfl)
theorem j44_2 (x0 x1 x5 : D) (H : Heap) :
    J E 44 2 [x0, x1, x5] H =
    (lnL x0).bind fun v1 => (bI .lss x5 v1).bind fun v2 => asB v2 fun t => bif t then ((ia 3 H x0 x5).bind fun v3 => (fa 0 v3).bind fun v4 => (st 1 H v4 x1).bind fun H5 => (bI .add x1 (D.int .i64 1)).bind fun v6 => (ia 3 H5 x0 x5).bind fun v7 => (fa 1 v7).bind fun v8 => (st 1 H5 v8 v6).bind fun H9 => (bI .add v6 (D.int .i64 1)).bind fun v10 => (ia 3 H9 x0 x5).bind fun v11 => (fa 2 v11).bind fun v12 => (st 1 H9 v12 v10).bind fun H13 => (bI .add v10 (D.int .i64 1)).bind fun v14 => (bI .add x5 (D.int .i64 1)).bind fun v15 => J E 44 2 [x0, v14, v15] H13) else (ret_ H [some x1]) :=
  (J_seg E 44 2 [2] 400 [x0, x1, x5] H).trans (by kernel_rfl)
-- laws.markMethodS
theorem e45 (x0 x1 : D) (H : Heap) :
    ent E 45 [x0, x1] H =
    J E 45 2 [x0, x1, (D.int .i64 0)] H :=
  (ent_seg E 45 [2] 400 [x0, x1] H).trans (by kernel_rfl)
theorem j45_2 (x0 x1 x5 : D) (H : Heap) :
    J E 45 2 [x0, x1, x5] H =
    (lnL x0).bind fun v1 => (bI .lss x5 v1).bind fun v2 => asB v2 fun t => bif t then ((ia 8 H x0 x5).bind fun v3 => (fa 0 v3).bind fun v4 => (st 1 H v4 x1).bind fun H5 => (bI .add x1 (D.int .i64 1)).bind fun v6 => (ia 8 H5 x0 x5).bind fun v7 => (fa 1 v7).bind fun v8 => (st 1 H5 v8 v6).bind fun H9 => (bI .add v6 (D.int .i64 1)).bind fun v10 => (ia 8 H9 x0 x5).bind fun v11 => (fa 2 v11).bind fun v12 => (st 1 H9 v12 v10).bind fun H13 => (bI .add v10 (D.int .i64 1)).bind fun v14 => (ia 8 H13 x0 x5).bind fun v15 => (fa 3 v15).bind fun v16 => (st 1 H13 v16 v14).bind fun H17 => (bI .add v14 (D.int .i64 1)).bind fun v18 => (ia 8 H17 x0 x5).bind fun v19 => (fa 4 v19).bind fun v20 => (st 1 H17 v20 v18).bind fun H21 => (bI .add v18 (D.int .i64 1)).bind fun v22 => (callFn E (exec E) .pure 82 [v22] H21).bind fun r23 => (ia 8 r23.2 x0 x5).bind fun v24 => (fa 5 v24).bind fun v25 => (st 1 r23.2 v25 r23.1).bind fun H26 => (bI .add v22 (D.int .i64 1)).bind fun v27 => (ia 8 H26 x0 x5).bind fun v28 => (fa 6 v28).bind fun v29 => (ld false 1 H26 v29).bind fun v30 => (callFn E (exec E) .raw 89 [v30, v27] H26).bind fun r31 => (ia 8 r31.2 x0 x5).bind fun v32 => (fa 7 v32).bind fun v33 => (ld false 1 r31.2 v33).bind fun v34 => (callFn E (exec E) .raw 90 [v34, r31.1] r31.2).bind fun r35 => (bI .add x5 (D.int .i64 1)).bind fun v36 => J E 45 2 [x0, r35.1, v36] r35.2) else (ret_ H [some x1]) :=
  (J_seg E 45 2 [2] 400 [x0, x1, x5] H).trans (by kernel_rfl)
-- laws.heldConstS
theorem e46 (x0 x1 : D) (H : Heap) :
    ent E 46 [x0, x1] H =
    J E 46 2 [x0, x1, (D.int .i64 0)] H :=
  (ent_seg E 46 [2] 400 [x0, x1] H).trans (by kernel_rfl)
theorem j46_2 (x0 x1 x5 : D) (H : Heap) :
    J E 46 2 [x0, x1, x5] H =
    (lnL x0).bind fun v1 => (bI .lss x5 v1).bind fun v2 => asB v2 fun t => bif t then ((ia 4 H x0 x5).bind fun v3 => (fa 0 v3).bind fun v4 => (ld false 1 H v4).bind fun v5 => (bI .neq v5 x1).bind fun v6 => asB v6 fun t => bif t then (ret_ H [some (D.int .i64 (-1))]) else ((bI .add x1 (D.int .i64 1)).bind fun v7 => (ia 4 H x0 x5).bind fun v8 => (fa 1 v8).bind fun v9 => (ld false 1 H v9).bind fun v10 => (callFn E (exec E) .pure 82 [v7] H).bind fun r11 => (bS .neq v10 r11.1).bind fun v12 => asB v12 fun t => bif t then (ret_ r11.2 [some (D.int .i64 (-1))]) else ((bI .add v7 (D.int .i64 1)).bind fun v13 => (ia 4 r11.2 x0 x5).bind fun v14 => (fa 2 v14).bind fun v15 => (ld false 1 r11.2 v15).bind fun v16 => (bI .neq v16 v13).bind fun v17 => asB v17 fun t => bif t then (ret_ r11.2 [some (D.int .i64 (-1))]) else ((bI .add v13 (D.int .i64 1)).bind fun v18 => (ia 4 r11.2 x0 x5).bind fun v19 => (fa 3 v19).bind fun v20 => (ld false 1 r11.2 v20).bind fun v21 => (bI .neq v21 v18).bind fun v22 => asB v22 fun t => bif t then (ret_ r11.2 [some (D.int .i64 (-1))]) else ((bI .add v18 (D.int .i64 1)).bind fun v23 => (bI .add x5 (D.int .i64 1)).bind fun v24 => J E 46 2 [x0, v23, v24] r11.2))))) else (ret_ H [some x1]) :=
  (J_seg E 46 2 [2] 400 [x0, x1, x5] H).trans (by kernel_rfl)
-- laws.heldFieldS
theorem e47 (x0 x1 : D) (H : Heap) :
    ent E 47 [x0, x1] H =
    J E 47 2 [x0, x1, (D.int .i64 0)] H :=
  (ent_seg E 47 [2] 400 [x0, x1] H).trans (by kernel_rfl)
theorem j47_2 (x0 x1 x5 : D) (H : Heap) :
    J E 47 2 [x0, x1, x5] H =
    (lnL x0).bind fun v1 => (bI .lss x5 v1).bind fun v2 => asB v2 fun t => bif t then ((ia 3 H x0 x5).bind fun v3 => (fa 0 v3).bind fun v4 => (ld false 1 H v4).bind fun v5 => (bI .neq v5 x1).bind fun v6 => asB v6 fun t => bif t then (ret_ H [some (D.int .i64 (-1))]) else ((bI .add x1 (D.int .i64 1)).bind fun v7 => (ia 3 H x0 x5).bind fun v8 => (fa 1 v8).bind fun v9 => (ld false 1 H v9).bind fun v10 => (bI .neq v10 v7).bind fun v11 => asB v11 fun t => bif t then (ret_ H [some (D.int .i64 (-1))]) else ((bI .add v7 (D.int .i64 1)).bind fun v12 => (ia 3 H x0 x5).bind fun v13 => (fa 2 v13).bind fun v14 => (ld false 1 H v14).bind fun v15 => (bI .neq v15 v12).bind fun v16 => asB v16 fun t => bif t then (ret_ H [some (D.int .i64 (-1))]) else ((bI .add v12 (D.int .i64 1)).bind fun v17 => (bI .add x5 (D.int .i64 1)).bind fun v18 => J E 47 2 [x0, v17, v18] H)))) else (ret_ H [some x1]) :=
  (J_seg E 47 2 [2] 400 [x0, x1, x5] H).trans (by kernel_rfl)
-- laws.heldMethodS
theorem e48 (x0 x1 : D) (H : Heap) :
    ent E 48 [x0, x1] H =
    J E 48 2 [x0, x1, (D.int .i64 0)] H :=
  (ent_seg E 48 [2] 400 [x0, x1] H).trans (by kernel_rfl)
theorem j48_2 (x0 x1 x5 : D) (H : Heap) :
    J E 48 2 [x0, x1, x5] H =
    (lnL x0).bind fun v1 => (bI .lss x5 v1).bind fun v2 => asB v2 fun t => bif t then ((ia 8 H x0 x5).bind fun v3 => (fa 0 v3).bind fun v4 => (ld false 1 H v4).bind fun v5 => (bI .neq v5 x1).bind fun v6 => asB v6 fun t => bif t then (ret_ H [some (D.int .i64 (-1))]) else ((bI .add x1 (D.int .i64 1)).bind fun v7 => (ia 8 H x0 x5).bind fun v8 => (fa 1 v8).bind fun v9 => (ld false 1 H v9).bind fun v10 => (bI .neq v10 v7).bind fun v11 => asB v11 fun t => bif t then (ret_ H [some (D.int .i64 (-1))]) else ((bI .add v7 (D.int .i64 1)).bind fun v12 => (ia 8 H x0 x5).bind fun v13 => (fa 2 v13).bind fun v14 => (ld false 1 H v14).bind fun v15 => (bI .neq v15 v12).bind fun v16 => asB v16 fun t => bif t then (ret_ H [some (D.int .i64 (-1))]) else ((bI .add v12 (D.int .i64 1)).bind fun v17 => (ia 8 H x0 x5).bind fun v18 => (fa 3 v18).bind fun v19 => (ld false 1 H v19).bind fun v20 => (bI .neq v20 v17).bind fun v21 => asB v21 fun t => bif t then (ret_ H [some (D.int .i64 (-1))]) else ((bI .add v17 (D.int .i64 1)).bind fun v22 => (ia 8 H x0 x5).bind fun v23 => (fa 4 v23).bind fun v24 => (ld false 1 H v24).bind fun v25 => (bI .neq v25 v22).bind fun v26 => asB v26 fun t => bif t then (ret_ H [some (D.int .i64 (-1))]) else ((bI .add v22 (D.int .i64 1)).bind fun v27 => (ia 8 H x0 x5).bind fun v28 => (fa 5 v28).bind fun v29 => (ld false 1 H v29).bind fun v30 => (callFn E (exec E) .pure 82 [v27] H).bind fun r31 => (bS .neq v30 r31.1).bind fun v32 => asB v32 fun t => bif t then (ret_ r31.2 [some (D.int .i64 (-1))]) else ((bI .add v27 (D.int .i64 1)).bind fun v33 => (ia 8 r31.2 x0 x5).bind fun v34 => (fa 6 v34).bind fun v35 => (ld false 1 r31.2 v35).bind fun v36 => (callFn E (exec E) .pure 91 [v36, v33] r31.2).bind fun r37 => (bI .lss r37.1 (D.int .i64 0)).bind fun v38 => asB v38 fun t => bif t then (ret_ r37.2 [some (D.int .i64 (-1))]) else ((ia 8 r37.2 x0 x5).bind fun v39 => (fa 7 v39).bind fun v40 => (ld false 1 r37.2 v40).bind fun v41 => (callFn E (exec E) .pure 92 [v41, r37.1] r37.2).bind fun r42 => (bI .lss r42.1 (D.int .i64 0)).bind fun v43 => asB v43 fun t => bif t then (ret_ r42.2 [some (D.int .i64 (-1))]) else ((bI .add x5 (D.int .i64 1)).bind fun v44 => J E 48 2 [x0, r42.1, v44] r42.2))))))))) else (ret_ H [some x1]) :=
  (J_seg E 48 2 [2] 400 [x0, x1, x5] H).trans (by kernel_rfl)
-- spec.l1Put
theorem e54 (x0 : D) (H : Heap) :
    ent E 54 [x0] H =
    alloc_ H (D.cells x0) fun p1 H1 => (fa 0 p1).bind fun v2 => (ld false 1 H1 v2).bind fun v3 => (lnL v3).bind fun v4 => (callFn E (exec E) .pure 95 [v4] H1).bind fun r5 => (bS .add (D.str [83, 84, 79, 87]) r5.1).bind fun v6 => J E 54 3 [p1, v6, (D.int .i64 0)] r5.2 :=
  (ent_seg E 54 [3, 8, 13, 15, 18] 400 [x0] H).trans (by kernel_rfl)
theorem j54_3 (x1 x3 x4 : D) (H : Heap) :
    J E 54 3 [x1, x3, x4] H =
    (fa 0 x1).bind fun v7 => (ld false 1 H v7).bind fun v8 => (lnL v8).bind fun v9 => (bI .lss x4 v9).bind fun v10 => asB v10 fun t => bif t then ((fa 0 x1).bind fun v11 => (ld false 1 H v11).bind fun v12 => (ia 4 H v12 x4).bind fun v13 => (ld true 4 H v13).bind fun v14 => (callFn E (exec E) .pure 96 [v14] H).bind fun r15 => (bS .add x3 r15.1).bind fun v16 => (bI .add x4 (D.int .i64 1)).bind fun v17 => J E 54 3 [x1, v16, v17] r15.2) else ((fa 1 x1).bind fun v18 => (ld false 1 H v18).bind fun v19 => (callFn E (exec E) .pure 95 [v19] H).bind fun r20 => (bS .add x3 r20.1).bind fun v21 => (fa 2 x1).bind fun v22 => (ld false 1 r20.2 v22).bind fun v23 => (callFn E (exec E) .pure 97 [v23] r20.2).bind fun r24 => (bS .add v21 r24.1).bind fun v25 => (fa 3 x1).bind fun v26 => (ld false 1 r24.2 v26).bind fun v27 => (callFn E (exec E) .pure 97 [v27] r24.2).bind fun r28 => (bS .add v25 r28.1).bind fun v29 => (fa 4 x1).bind fun v30 => (ld false 1 r28.2 v30).bind fun v31 => (lnL v31).bind fun v32 => (callFn E (exec E) .pure 95 [v32] r28.2).bind fun r33 => (bS .add v29 r33.1).bind fun v34 => J E 54 8 [x1, v34, (D.int .i64 0)] r33.2) :=
  (J_seg E 54 3 [3, 8, 13, 15, 18] 400 [x1, x3, x4] H).trans (by kernel_rfl)
theorem j54_8 (x1 x3 x5 : D) (H : Heap) :
    J E 54 8 [x1, x3, x5] H =
    (fa 4 x1).bind fun v35 => (ld false 1 H v35).bind fun v36 => (lnL v36).bind fun v37 => (bI .lss x5 v37).bind fun v38 => asB v38 fun t => bif t then ((fa 4 x1).bind fun v39 => (ld false 1 H v39).bind fun v40 => (ia 1 H v40 x5).bind fun v41 => (ld false 1 H v41).bind fun v42 => (callFn E (exec E) .pure 97 [v42] H).bind fun r43 => (bS .add x3 r43.1).bind fun v44 => (bI .add x5 (D.int .i64 1)).bind fun v45 => J E 54 8 [x1, v44, v45] r43.2) else ((fa 5 x1).bind fun v46 => (ld false 1 H v46).bind fun v47 => (lnL v47).bind fun v48 => (callFn E (exec E) .pure 95 [v48] H).bind fun r49 => (bS .add x3 r49.1).bind fun v50 => J E 54 13 [x1, v50, (D.int .i64 0)] r49.2) :=
  (J_seg E 54 8 [3, 8, 13, 15, 18] 400 [x1, x3, x5] H).trans (by kernel_rfl)
theorem j54_13 (x1 x3 x6 : D) (H : Heap) :
    J E 54 13 [x1, x3, x6] H =
    (fa 5 x1).bind fun v51 => (ld false 1 H v51).bind fun v52 => (lnL v52).bind fun v53 => (bI .lss x6 v53).bind fun v54 => asB v54 fun t => bif t then (J E 54 15 [x1, x3, x6] H) else ((fa 6 x1).bind fun v55 => (ld false 1 H v55).bind fun v56 => (lnL v56).bind fun v57 => (callFn E (exec E) .pure 95 [v57] H).bind fun r58 => (bS .add x3 r58.1).bind fun v59 => J E 54 18 [x1, v59, (D.int .i64 0)] r58.2) :=
  (J_seg E 54 13 [3, 8, 13, 15, 18] 400 [x1, x3, x6] H).trans (by kernel_rfl)
theorem j54_15 (x1 x3 x6 : D) (H : Heap) :
    J E 54 15 [x1, x3, x6] H =
    (fa 5 x1).bind fun v60 => (ld false 1 H v60).bind fun v61 => (ia 3 H v61 x6).bind fun v62 => (fa 0 v62).bind fun v63 => (ld false 1 H v63).bind fun v64 => (callFn E (exec E) .pure 95 [v64] H).bind fun r65 => (bS .add x3 r65.1).bind fun v66 => (fa 5 x1).bind fun v67 => (ld false 1 r65.2 v67).bind fun v68 => (ia 3 r65.2 v68 x6).bind fun v69 => (fa 1 v69).bind fun v70 => (ld false 1 r65.2 v70).bind fun v71 => (callFn E (exec E) .pure 97 [v71] r65.2).bind fun r72 => (bS .add v66 r72.1).bind fun v73 => (fa 5 x1).bind fun v74 => (ld false 1 r72.2 v74).bind fun v75 => (ia 3 r72.2 v75 x6).bind fun v76 => (fa 2 v76).bind fun v77 => (ld false 1 r72.2 v77).bind fun v78 => (callFn E (exec E) .pure 97 [v78] r72.2).bind fun r79 => (bS .add v73 r79.1).bind fun v80 => (bI .add x6 (D.int .i64 1)).bind fun v81 => J E 54 13 [x1, v80, v81] r79.2 :=
  (J_seg E 54 15 [3, 8, 13, 15, 18] 400 [x1, x3, x6] H).trans (by kernel_rfl)
theorem j54_18 (x1 x3 x7 : D) (H : Heap) :
    J E 54 18 [x1, x3, x7] H =
    (fa 6 x1).bind fun v82 => (ld false 1 H v82).bind fun v83 => (lnL v83).bind fun v84 => (bI .lss x7 v84).bind fun v85 => asB v85 fun t => bif t then ((fa 6 x1).bind fun v86 => (ld false 1 H v86).bind fun v87 => (ia 8 H v87 x7).bind fun v88 => (ld true 8 H v88).bind fun v89 => (callFn E (exec E) .pure 98 [v89] H).bind fun r90 => (bS .add x3 r90.1).bind fun v91 => (bI .add x7 (D.int .i64 1)).bind fun v92 => J E 54 18 [x1, v91, v92] r90.2) else (ret_ H [some x3]) :=
  (J_seg E 54 18 [3, 8, 13, 15, 18] 400 [x1, x3, x7] H).trans (by kernel_rfl)
-- laws.markText
theorem e82 (x0 : D) (H : Heap) :
    ent E 82 [x0] H =
    (bI .leq x0 (D.int .i64 0)).bind fun v1 => asB v1 fun t => bif t then (ret_ H [some (D.str [109, 48])]) else (J E 82 4 [x0, (D.str [])] H) :=
  (ent_seg E 82 [4] 400 [x0] H).trans (by kernel_rfl)
theorem j82_4 (x0 x3 : D) (H : Heap) :
    J E 82 4 [x0, x3] H =
    (bI .gtr x0 (D.int .i64 0)).bind fun v2 => asB v2 fun t => bif t then ((bI .rem x0 (D.int .i64 10)).bind fun v3 => (bI .add (D.int .i64 48) v3).bind fun v4 => (cI .u8 v4).bind fun v5 => (bsl 1 [.int .u8 0] H 1 [(0, v5)]).bind fun r6 => (cBS r6.2 r6.1).bind fun r7 => (bS .add r7.1 x3).bind fun v8 => (bI .quo x0 (D.int .i64 10)).bind fun v9 => J E 82 4 [v9, v8] r7.2) else ((bS .add (D.str [109]) x3).bind fun v10 => ret_ H [some v10]) :=
  (J_seg E 82 4 [4] 400 [x0, x3] H).trans (by kernel_rfl)
-- (*spec.l1Rd).class
theorem e83 (x0 : D) (H : Heap) :
    ent E 83 [x0] H =
    alloc_ H [.sl0, .int .i64 0, .int .i64 0, .int .i64 0, .sl0, .sl0, .sl0] fun p1 H1 => (bld [.sl0, .int .i64 0, .int .i64 0, .int .i64 0, .sl0, .sl0, .sl0] [(0, 1, false), (1, 1, false), (2, 1, false), (3, 1, false), (4, 1, false), (5, 1, false), (6, 1, false)] []).bind fun v2 => alloc_ H1 [.sl0, .int .i64 0, .int .i64 0, .int .i64 0, .sl0, .sl0, .sl0] fun p3 H3 => (st 7 H3 p3 v2).bind fun H4 => (callFn E (exec E) .raw 127 [x0, (D.int .i64 4)] H4).bind fun r5 => (bS .neq r5.1 (D.str [83, 84, 79, 87])).bind fun v6 => asB v6 fun t => bif t then ((nilCheck x0).bind fun v7 => (fa 2 v7).bind fun v8 => (st 1 r5.2 v8 (D.bool true)).bind fun H9 => J E 83 4 [x0, p1, p3] H9) else (J E 83 4 [x0, p1, p3] r5.2) :=
  (ent_seg E 83 [4, 11, 12, 18, 19, 25, 26] 400 [x0] H).trans (by kernel_rfl)
theorem j83_4 (x0 x2 x3 : D) (H : Heap) :
    J E 83 4 [x0, x2, x3] H =
    (callFn E (exec E) .raw 128 [x0] H).bind fun r10 => (fa 0 x3).bind fun v11 => (st 1 r10.2 v11 r10.1).bind fun H12 => (callFn E (exec E) .raw 129 [x0] H12).bind fun r13 => (fa 1 x3).bind fun v14 => (st 1 r13.2 v14 r13.1).bind fun H15 => (callFn E (exec E) .raw 130 [x0] H15).bind fun r16 => (fa 2 x3).bind fun v17 => (st 1 r16.2 v17 r16.1).bind fun H18 => (callFn E (exec E) .raw 130 [x0] H18).bind fun r19 => (fa 3 x3).bind fun v20 => (st 1 r19.2 v20 r19.1).bind fun H21 => (callFn E (exec E) .raw 129 [x0] H21).bind fun r22 => (bI .gtr r22.1 (D.int .i64 3)).bind fun v23 => asB v23 fun t => bif t then ((nilCheck x0).bind fun v24 => (fa 2 v24).bind fun v25 => (st 1 r22.2 v25 (D.bool true)).bind fun H26 => J E 83 11 [x0, x2, x3, r22.1] H26) else (J E 83 11 [x0, x2, x3, r22.1] r22.2) :=
  (J_seg E 83 4 [4, 11, 12, 18, 19, 25, 26] 400 [x0, x2, x3] H).trans (by kernel_rfl)
theorem j83_11 (x0 x2 x3 x4 : D) (H : Heap) :
    J E 83 11 [x0, x2, x3, x4] H =
    J E 83 12 [x0, x2, x3, x4, (D.int .i64 0)] H :=
  (J_seg E 83 11 [4, 11, 12, 18, 19, 25, 26] 400 [x0, x2, x3, x4] H).trans (by kernel_rfl)
theorem j83_12 (x0 x2 x3 x4 x5 : D) (H : Heap) :
    J E 83 12 [x0, x2, x3, x4, x5] H =
    (bI .lss x5 x4).bind fun v27 => asB v27 fun t => bif t then ((nilCheck x0).bind fun v28 => (fa 2 v28).bind fun v29 => (ld false 1 H v29).bind fun v30 => (unOp .not v30).bind fun v31 => asB v31 fun t => bif t then ((fa 4 x3).bind fun v32 => (ld false 1 H v32).bind fun v33 => (callFn E (exec E) .raw 130 [x0] H).bind fun r34 => (ld false 1 r34.2 v32).bind fun w35 => again w35 v33 ((bsl 1 [.int .i64 0] r34.2 1 [(0, r34.1)]).bind fun r36 => (app 1 8 r36.2 v33 r36.1).bind fun r37 => (fa 4 x3).bind fun v38 => (st 1 r37.2 v38 r37.1).bind fun H39 => (bI .add x5 (D.int .i64 1)).bind fun v40 => J E 83 12 [x0, x2, x3, x4, v40] H39)) else ((callFn E (exec E) .raw 129 [x0] H).bind fun r41 => (bI .gtr r41.1 (D.int .i64 5)).bind fun v42 => asB v42 fun t => bif t then ((nilCheck x0).bind fun v43 => (fa 2 v43).bind fun v44 => (st 1 r41.2 v44 (D.bool true)).bind fun H45 => J E 83 18 [x0, x2, x3, r41.1] H45) else (J E 83 18 [x0, x2, x3, r41.1] r41.2))) else ((callFn E (exec E) .raw 129 [x0] H).bind fun r46 => (bI .gtr r46.1 (D.int .i64 5)).bind fun v47 => asB v47 fun t => bif t then ((nilCheck x0).bind fun v48 => (fa 2 v48).bind fun v49 => (st 1 r46.2 v49 (D.bool true)).bind fun H50 => J E 83 18 [x0, x2, x3, r46.1] H50) else (J E 83 18 [x0, x2, x3, r46.1] r46.2)) :=
  (J_seg E 83 12 [4, 11, 12, 18, 19, 25, 26] 400 [x0, x2, x3, x4, x5] H).trans (by kernel_rfl)
theorem j83_18 (x0 x2 x3 x4 : D) (H : Heap) :
    J E 83 18 [x0, x2, x3, x4] H =
    J E 83 19 [x0, x2, x3, x4, (D.int .i64 0)] H :=
  (J_seg E 83 18 [4, 11, 12, 18, 19, 25, 26] 400 [x0, x2, x3, x4] H).trans (by kernel_rfl)
theorem j83_19 (x0 x2 x3 x4 x6 : D) (H : Heap) :
    J E 83 19 [x0, x2, x3, x4, x6] H =
    (bI .lss x6 x4).bind fun v51 => asB v51 fun t => bif t then ((nilCheck x0).bind fun v52 => (fa 2 v52).bind fun v53 => (ld false 1 H v53).bind fun v54 => (unOp .not v54).bind fun v55 => asB v55 fun t => bif t then ((fa 5 x3).bind fun v56 => (ld false 1 H v56).bind fun v57 => (callFn E (exec E) .raw 129 [x0] H).bind fun r58 => (ld false 1 r58.2 v56).bind fun w59 => again w59 v57 ((callFn E (exec E) .raw 130 [x0] r58.2).bind fun r60 => (ld false 1 r60.2 v56).bind fun w61 => again w61 v57 ((callFn E (exec E) .raw 130 [x0] r60.2).bind fun r62 => (ld false 1 r62.2 v56).bind fun w63 => again w63 v57 ((bld [.int .i64 0, .int .i64 0, .int .i64 0] [(0, 1, false), (1, 1, false), (2, 1, false)] [(0, r58.1), (1, r60.1), (2, r62.1)]).bind fun v64 => (bsl 3 [.int .i64 0, .int .i64 0, .int .i64 0] r62.2 1 [(0, v64)]).bind fun r65 => (app 3 24 r65.2 v57 r65.1).bind fun r66 => (fa 5 x3).bind fun v67 => (st 1 r66.2 v67 r66.1).bind fun H68 => (bI .add x6 (D.int .i64 1)).bind fun v69 => J E 83 19 [x0, x2, x3, x4, v69] H68)))) else ((callFn E (exec E) .raw 129 [x0] H).bind fun r70 => (bI .gtr r70.1 (D.int .i64 6)).bind fun v71 => asB v71 fun t => bif t then ((nilCheck x0).bind fun v72 => (fa 2 v72).bind fun v73 => (st 1 r70.2 v73 (D.bool true)).bind fun H74 => J E 83 25 [x0, x2, x3, r70.1] H74) else (J E 83 25 [x0, x2, x3, r70.1] r70.2))) else ((callFn E (exec E) .raw 129 [x0] H).bind fun r75 => (bI .gtr r75.1 (D.int .i64 6)).bind fun v76 => asB v76 fun t => bif t then ((nilCheck x0).bind fun v77 => (fa 2 v77).bind fun v78 => (st 1 r75.2 v78 (D.bool true)).bind fun H79 => J E 83 25 [x0, x2, x3, r75.1] H79) else (J E 83 25 [x0, x2, x3, r75.1] r75.2)) :=
  (J_seg E 83 19 [4, 11, 12, 18, 19, 25, 26] 400 [x0, x2, x3, x4, x6] H).trans (by kernel_rfl)
theorem j83_25 (x0 x2 x3 x4 : D) (H : Heap) :
    J E 83 25 [x0, x2, x3, x4] H =
    J E 83 26 [x0, x2, x3, x4, (D.int .i64 0)] H :=
  (J_seg E 83 25 [4, 11, 12, 18, 19, 25, 26] 400 [x0, x2, x3, x4] H).trans (by kernel_rfl)
theorem j83_26 (x0 x2 x3 x4 x7 : D) (H : Heap) :
    J E 83 26 [x0, x2, x3, x4, x7] H =
    (bI .lss x7 x4).bind fun v80 => asB v80 fun t => bif t then ((nilCheck x0).bind fun v81 => (fa 2 v81).bind fun v82 => (ld false 1 H v82).bind fun v83 => (unOp .not v83).bind fun v84 => asB v84 fun t => bif t then ((fa 6 x3).bind fun v85 => (ld false 1 H v85).bind fun v86 => (callFn E (exec E) .raw 131 [x0] H).bind fun r87 => (ld false 1 r87.2 v85).bind fun w88 => again w88 v86 ((bsl 8 [.int .i64 0, .int .i64 0, .int .i64 0, .int .i64 0, .int .i64 0, .str [], .sl0, .sl0] r87.2 1 [(0, r87.1)]).bind fun r89 => (app 8 104 r89.2 v86 r89.1).bind fun r90 => (fa 6 x3).bind fun v91 => (st 1 r90.2 v91 r90.1).bind fun H92 => (bI .add x7 (D.int .i64 1)).bind fun v93 => J E 83 26 [x0, x2, x3, x4, v93] H92)) else ((ld true 7 H x3).bind fun v94 => (st 7 H x2 v94).bind fun H95 => ret_ H95 [ld true 7 H95 x2])) else ((ld true 7 H x3).bind fun v96 => (st 7 H x2 v96).bind fun H97 => ret_ H97 [ld true 7 H97 x2]) :=
  (J_seg E 83 26 [4, 11, 12, 18, 19, 25, 26] 400 [x0, x2, x3, x4, x7] H).trans (by kernel_rfl)
-- impl.isAbstract
theorem e84 (x0 : D) (H : Heap) :
    ent E 84 [x0] H =
    (bI .and x0 (D.int .i64 8)).bind fun v1 => (bI .neq v1 (D.int .i64 0)).bind fun v2 => ret_ H [some v2] :=
  (ent_seg E 84 [] 400 [x0] H).trans (by kernel_rfl)
-- (*impl.taker).kinds
theorem e85 (x0 : D) (H : Heap) :
    ent E 85 [x0] H =
    (callFn E (exec E) .raw 36 [x0] H).bind fun r1 => (callFn E (exec E) .raw 35 [x0, r1.1, (D.int .i64 8)] r1.2).bind fun r2 => J E 85 3 [x0, D.sl0, r2.1] r2.2 :=
  (ent_seg E 85 [3, 8] 400 [x0] H).trans (by kernel_rfl)
theorem j85_3 (x0 x3 x4 : D) (H : Heap) :
    J E 85 3 [x0, x3, x4] H =
    (bI .gtr x4 (D.int .i64 0)).bind fun v3 => asB v3 fun t => bif t then ((nilCheck x0).bind fun v4 => (fa 1 v4).bind fun v5 => (ld false 1 H v5).bind fun v6 => (unOp .not v6).bind fun v7 => asB v7 fun t => bif t then ((callFn E (exec E) .raw 36 [x0] H).bind fun r8 => (callFn E (exec E) .raw 35 [x0, r8.1, (D.int .i64 3)] r8.2).bind fun r9 => (bld [.int .i64 0, .int .i64 0] [(0, 1, false), (1, 1, false)] [(0, r9.1)]).bind fun v10 => alloc_ r9.2 [.int .i64 0, .int .i64 0] fun p11 H11 => (st 2 H11 p11 v10).bind fun H12 => (fa 0 p11).bind fun v13 => (ld false 1 H12 v13).bind fun v14 => (bI .eql v14 (D.int .i64 3)).bind fun v15 => asB v15 fun t => bif t then ((callFn E (exec E) .raw 38 [x0] H12).bind fun r16 => (fa 1 p11).bind fun v17 => (st 1 r16.2 v17 r16.1).bind fun H18 => J E 85 8 [x0, x3, x4, p11] H18) else (J E 85 8 [x0, x3, x4, p11] H12)) else (ret_ H [some x3])) else (ret_ H [some x3]) :=
  (J_seg E 85 3 [3, 8] 400 [x0, x3, x4] H).trans (by kernel_rfl)
theorem j85_8 (x0 x3 x4 x5 : D) (H : Heap) :
    J E 85 8 [x0, x3, x4, x5] H =
    (ld true 2 H x5).bind fun v19 => (bsl 2 [.int .i64 0, .int .i64 0] H 1 [(0, v19)]).bind fun r20 => (app 2 16 r20.2 x3 r20.1).bind fun r21 => (bI .sub x4 (D.int .i64 1)).bind fun v22 => J E 85 3 [x0, r21.1, v22] r21.2 :=
  (J_seg E 85 8 [3, 8] 400 [x0, x3, x4, x5] H).trans (by kernel_rfl)
-- laws.eqConst
theorem e86 (x0 x1 : D) (H : Heap) :
    ent E 86 [x0, x1] H =
    alloc_ H (D.cells x0) fun p1 H1 => alloc_ H1 (D.cells x1) fun p2 H2 => (fa 0 p1).bind fun v3 => (ld false 1 H2 v3).bind fun v4 => (fa 0 p2).bind fun v5 => (ld false 1 H2 v5).bind fun v6 => (bI .neq v4 v6).bind fun v7 => asB v7 fun t => bif t then (ret_ H2 [some (D.bool false)]) else ((fa 1 p1).bind fun v8 => (ld false 1 H2 v8).bind fun v9 => (fa 1 p2).bind fun v10 => (ld false 1 H2 v10).bind fun v11 => (bS .neq v9 v11).bind fun v12 => asB v12 fun t => bif t then (ret_ H2 [some (D.bool false)]) else ((fa 2 p1).bind fun v13 => (ld false 1 H2 v13).bind fun v14 => (fa 2 p2).bind fun v15 => (ld false 1 H2 v15).bind fun v16 => (bI .neq v14 v16).bind fun v17 => asB v17 fun t => bif t then (ret_ H2 [some (D.bool false)]) else ((fa 3 p1).bind fun v18 => (ld false 1 H2 v18).bind fun v19 => (fa 3 p2).bind fun v20 => (ld false 1 H2 v20).bind fun v21 => (bI .neq v19 v21).bind fun v22 => asB v22 fun t => bif t then (ret_ H2 [some (D.bool false)]) else (ret_ H2 [some (D.bool true)])))) :=
  (ent_seg E 86 [] 400 [x0, x1] H).trans (by kernel_rfl)
-- laws.eqField
theorem e87 (x0 x1 : D) (H : Heap) :
    ent E 87 [x0, x1] H =
    alloc_ H (D.cells x0) fun p1 H1 => alloc_ H1 (D.cells x1) fun p2 H2 => (fa 0 p1).bind fun v3 => (ld false 1 H2 v3).bind fun v4 => (fa 0 p2).bind fun v5 => (ld false 1 H2 v5).bind fun v6 => (bI .neq v4 v6).bind fun v7 => asB v7 fun t => bif t then (ret_ H2 [some (D.bool false)]) else ((fa 1 p1).bind fun v8 => (ld false 1 H2 v8).bind fun v9 => (fa 1 p2).bind fun v10 => (ld false 1 H2 v10).bind fun v11 => (bI .neq v9 v11).bind fun v12 => asB v12 fun t => bif t then (ret_ H2 [some (D.bool false)]) else ((fa 2 p1).bind fun v13 => (ld false 1 H2 v13).bind fun v14 => (fa 2 p2).bind fun v15 => (ld false 1 H2 v15).bind fun v16 => (bI .neq v14 v16).bind fun v17 => asB v17 fun t => bif t then (ret_ H2 [some (D.bool false)]) else (ret_ H2 [some (D.bool true)]))) :=
  (ent_seg E 87 [] 400 [x0, x1] H).trans (by kernel_rfl)
-- laws.eqMethod
theorem e88 (x0 x1 : D) (H : Heap) :
    ent E 88 [x0, x1] H =
    alloc_ H (D.cells x0) fun p1 H1 => alloc_ H1 (D.cells x1) fun p2 H2 => (fa 0 p1).bind fun v3 => (ld false 1 H2 v3).bind fun v4 => (fa 0 p2).bind fun v5 => (ld false 1 H2 v5).bind fun v6 => (bI .neq v4 v6).bind fun v7 => asB v7 fun t => bif t then (ret_ H2 [some (D.bool false)]) else ((fa 1 p1).bind fun v8 => (ld false 1 H2 v8).bind fun v9 => (fa 1 p2).bind fun v10 => (ld false 1 H2 v10).bind fun v11 => (bI .neq v9 v11).bind fun v12 => asB v12 fun t => bif t then (ret_ H2 [some (D.bool false)]) else ((fa 2 p1).bind fun v13 => (ld false 1 H2 v13).bind fun v14 => (fa 2 p2).bind fun v15 => (ld false 1 H2 v15).bind fun v16 => (bI .neq v14 v16).bind fun v17 => asB v17 fun t => bif t then (ret_ H2 [some (D.bool false)]) else ((fa 3 p1).bind fun v18 => (ld false 1 H2 v18).bind fun v19 => (fa 3 p2).bind fun v20 => (ld false 1 H2 v20).bind fun v21 => (bI .neq v19 v21).bind fun v22 => asB v22 fun t => bif t then (ret_ H2 [some (D.bool false)]) else ((fa 4 p1).bind fun v23 => (ld false 1 H2 v23).bind fun v24 => (fa 4 p2).bind fun v25 => (ld false 1 H2 v25).bind fun v26 => (bI .neq v24 v26).bind fun v27 => asB v27 fun t => bif t then (ret_ H2 [some (D.bool false)]) else ((fa 5 p1).bind fun v28 => (ld false 1 H2 v28).bind fun v29 => (fa 5 p2).bind fun v30 => (ld false 1 H2 v30).bind fun v31 => (bS .neq v29 v31).bind fun v32 => asB v32 fun t => bif t then (ret_ H2 [some (D.bool false)]) else ((fa 6 p1).bind fun v33 => (ld false 1 H2 v33).bind fun v34 => (fa 6 p2).bind fun v35 => (ld false 1 H2 v35).bind fun v36 => (callFn E (exec E) .pure 132 [v34, v36] H2).bind fun r37 => (unOp .not r37.1).bind fun v38 => asB v38 fun t => bif t then (ret_ r37.2 [some (D.bool false)]) else ((fa 7 p1).bind fun v39 => (ld false 1 r37.2 v39).bind fun v40 => (fa 7 p2).bind fun v41 => (ld false 1 r37.2 v41).bind fun v42 => (callFn E (exec E) .pure 133 [v40, v42] r37.2).bind fun r43 => (unOp .not r43.1).bind fun v44 => asB v44 fun t => bif t then (ret_ r43.2 [some (D.bool false)]) else (ret_ r43.2 [some (D.bool true)])))))))) :=
  (ent_seg E 88 [] 400 [x0, x1] H).trans (by kernel_rfl)
-- laws.markTrapS
theorem e89 (x0 x1 : D) (H : Heap) :
    ent E 89 [x0, x1] H =
    J E 89 2 [x0, x1, (D.int .i64 0)] H :=
  (ent_seg E 89 [2] 400 [x0, x1] H).trans (by kernel_rfl)
theorem j89_2 (x0 x1 x5 : D) (H : Heap) :
    J E 89 2 [x0, x1, x5] H =
    (lnL x0).bind fun v1 => (bI .lss x5 v1).bind fun v2 => asB v2 fun t => bif t then ((ia 4 H x0 x5).bind fun v3 => (fa 0 v3).bind fun v4 => (st 1 H v4 x1).bind fun H5 => (bI .add x1 (D.int .i64 1)).bind fun v6 => (ia 4 H5 x0 x5).bind fun v7 => (fa 1 v7).bind fun v8 => (st 1 H5 v8 v6).bind fun H9 => (bI .add v6 (D.int .i64 1)).bind fun v10 => (ia 4 H9 x0 x5).bind fun v11 => (fa 2 v11).bind fun v12 => (st 1 H9 v12 v10).bind fun H13 => (bI .add v10 (D.int .i64 1)).bind fun v14 => (ia 4 H13 x0 x5).bind fun v15 => (fa 3 v15).bind fun v16 => (st 1 H13 v16 v14).bind fun H17 => (bI .add v14 (D.int .i64 1)).bind fun v18 => (bI .add x5 (D.int .i64 1)).bind fun v19 => J E 89 2 [x0, v18, v19] H17) else (ret_ H [some x1]) :=
  (J_seg E 89 2 [2] 400 [x0, x1, x5] H).trans (by kernel_rfl)
-- laws.markFrameS
theorem e90 (x0 x1 : D) (H : Heap) :
    ent E 90 [x0, x1] H =
    J E 90 2 [x0, x1, (D.int .i64 0)] H :=
  (ent_seg E 90 [2] 400 [x0, x1] H).trans (by kernel_rfl)
theorem j90_2 (x0 x1 x5 : D) (H : Heap) :
    J E 90 2 [x0, x1, x5] H =
    (lnL x0).bind fun v1 => (bI .lss x5 v1).bind fun v2 => asB v2 fun t => bif t then ((ia 3 H x0 x5).bind fun v3 => (fa 0 v3).bind fun v4 => (st 1 H v4 x1).bind fun H5 => (bI .add x1 (D.int .i64 1)).bind fun v6 => (ia 3 H5 x0 x5).bind fun v7 => (fa 1 v7).bind fun v8 => (ld false 1 H5 v8).bind fun v9 => (callFn E (exec E) .raw 134 [v9, v6] H5).bind fun r10 => (ia 3 r10.2 x0 x5).bind fun v11 => (fa 2 v11).bind fun v12 => (ld false 1 r10.2 v12).bind fun v13 => (callFn E (exec E) .raw 134 [v13, r10.1] r10.2).bind fun r14 => (bI .add x5 (D.int .i64 1)).bind fun v15 => J E 90 2 [x0, r14.1, v15] r14.2) else (ret_ H [some x1]) :=
  (J_seg E 90 2 [2] 400 [x0, x1, x5] H).trans (by kernel_rfl)
-- laws.heldTrapS
theorem e91 (x0 x1 : D) (H : Heap) :
    ent E 91 [x0, x1] H =
    J E 91 2 [x0, x1, (D.int .i64 0)] H :=
  (ent_seg E 91 [2] 400 [x0, x1] H).trans (by kernel_rfl)
theorem j91_2 (x0 x1 x5 : D) (H : Heap) :
    J E 91 2 [x0, x1, x5] H =
    (lnL x0).bind fun v1 => (bI .lss x5 v1).bind fun v2 => asB v2 fun t => bif t then ((ia 4 H x0 x5).bind fun v3 => (fa 0 v3).bind fun v4 => (ld false 1 H v4).bind fun v5 => (bI .neq v5 x1).bind fun v6 => asB v6 fun t => bif t then (ret_ H [some (D.int .i64 (-1))]) else ((bI .add x1 (D.int .i64 1)).bind fun v7 => (ia 4 H x0 x5).bind fun v8 => (fa 1 v8).bind fun v9 => (ld false 1 H v9).bind fun v10 => (bI .neq v10 v7).bind fun v11 => asB v11 fun t => bif t then (ret_ H [some (D.int .i64 (-1))]) else ((bI .add v7 (D.int .i64 1)).bind fun v12 => (ia 4 H x0 x5).bind fun v13 => (fa 2 v13).bind fun v14 => (ld false 1 H v14).bind fun v15 => (bI .neq v15 v12).bind fun v16 => asB v16 fun t => bif t then (ret_ H [some (D.int .i64 (-1))]) else ((bI .add v12 (D.int .i64 1)).bind fun v17 => (ia 4 H x0 x5).bind fun v18 => (fa 3 v18).bind fun v19 => (ld false 1 H v19).bind fun v20 => (bI .neq v20 v17).bind fun v21 => asB v21 fun t => bif t then (ret_ H [some (D.int .i64 (-1))]) else ((bI .add v17 (D.int .i64 1)).bind fun v22 => (bI .add x5 (D.int .i64 1)).bind fun v23 => J E 91 2 [x0, v22, v23] H))))) else (ret_ H [some x1]) :=
  (J_seg E 91 2 [2] 400 [x0, x1, x5] H).trans (by kernel_rfl)
-- laws.heldFrameS
theorem e92 (x0 x1 : D) (H : Heap) :
    ent E 92 [x0, x1] H =
    J E 92 2 [x0, x1, (D.int .i64 0)] H :=
  (ent_seg E 92 [2] 400 [x0, x1] H).trans (by kernel_rfl)
theorem j92_2 (x0 x1 x5 : D) (H : Heap) :
    J E 92 2 [x0, x1, x5] H =
    (lnL x0).bind fun v1 => (bI .lss x5 v1).bind fun v2 => asB v2 fun t => bif t then ((ia 3 H x0 x5).bind fun v3 => (fa 0 v3).bind fun v4 => (ld false 1 H v4).bind fun v5 => (bI .neq v5 x1).bind fun v6 => asB v6 fun t => bif t then (ret_ H [some (D.int .i64 (-1))]) else ((bI .add x1 (D.int .i64 1)).bind fun v7 => (ia 3 H x0 x5).bind fun v8 => (fa 1 v8).bind fun v9 => (ld false 1 H v9).bind fun v10 => (callFn E (exec E) .pure 135 [v10, v7] H).bind fun r11 => (bI .lss r11.1 (D.int .i64 0)).bind fun v12 => asB v12 fun t => bif t then (ret_ r11.2 [some (D.int .i64 (-1))]) else ((ia 3 r11.2 x0 x5).bind fun v13 => (fa 2 v13).bind fun v14 => (ld false 1 r11.2 v14).bind fun v15 => (callFn E (exec E) .pure 135 [v15, r11.1] r11.2).bind fun r16 => (bI .lss r16.1 (D.int .i64 0)).bind fun v17 => asB v17 fun t => bif t then (ret_ r16.2 [some (D.int .i64 (-1))]) else ((bI .add x5 (D.int .i64 1)).bind fun v18 => J E 92 2 [x0, r16.1, v18] r16.2)))) else (ret_ H [some x1]) :=
  (J_seg E 92 2 [2] 400 [x0, x1, x5] H).trans (by kernel_rfl)
-- spec.l1One
theorem e95 (x0 : D) (H : Heap) :
    ent E 95 [x0] H =
    (cI .u8 x0).bind fun v1 => (bsl 1 [.int .u8 0] H 1 [(0, v1)]).bind fun r2 => (cBS r2.2 r2.1).bind fun r3 => ret_ r3.2 [some r3.1] :=
  (ent_seg E 95 [] 400 [x0] H).trans (by kernel_rfl)
-- spec.l1PutEntry
theorem e96 (x0 : D) (H : Heap) :
    ent E 96 [x0] H =
    alloc_ H (D.cells x0) fun p1 H1 => (fa 0 p1).bind fun v2 => (ld false 1 H1 v2).bind fun v3 => (bI .eql v3 (D.int .i64 1)).bind fun v4 => asB v4 fun t => bif t then ((fa 0 p1).bind fun v5 => (ld false 1 H1 v5).bind fun v6 => (callFn E (exec E) .pure 95 [v6] H1).bind fun r7 => (fa 1 p1).bind fun v8 => (ld false 1 r7.2 v8).bind fun v9 => (lnS v9).bind fun v10 => (callFn E (exec E) .pure 95 [v10] r7.2).bind fun r11 => (bS .add r7.1 r11.1).bind fun v12 => (fa 1 p1).bind fun v13 => (ld false 1 r11.2 v13).bind fun v14 => (bS .add v12 v14).bind fun v15 => ret_ r11.2 [some v15]) else ((bI .eql v3 (D.int .i64 2)).bind fun v16 => asB v16 fun t => bif t then ((fa 0 p1).bind fun v17 => (ld false 1 H1 v17).bind fun v18 => (callFn E (exec E) .pure 95 [v18] H1).bind fun r19 => (fa 2 p1).bind fun v20 => (ld false 1 r19.2 v20).bind fun v21 => (callFn E (exec E) .pure 97 [v21] r19.2).bind fun r22 => (bS .add r19.1 r22.1).bind fun v23 => ret_ r22.2 [some v23]) else ((fa 0 p1).bind fun v24 => (ld false 1 H1 v24).bind fun v25 => (callFn E (exec E) .pure 95 [v25] H1).bind fun r26 => (fa 2 p1).bind fun v27 => (ld false 1 r26.2 v27).bind fun v28 => (callFn E (exec E) .pure 97 [v28] r26.2).bind fun r29 => (bS .add r26.1 r29.1).bind fun v30 => (fa 3 p1).bind fun v31 => (ld false 1 r29.2 v31).bind fun v32 => (callFn E (exec E) .pure 97 [v32] r29.2).bind fun r33 => (bS .add v30 r33.1).bind fun v34 => ret_ r33.2 [some v34])) :=
  (ent_seg E 96 [] 400 [x0] H).trans (by kernel_rfl)
-- spec.l1Two
theorem e97 (x0 : D) (H : Heap) :
    ent E 97 [x0] H =
    (bI .quo x0 (D.int .i64 256)).bind fun v1 => (cI .u8 v1).bind fun v2 => (bI .rem x0 (D.int .i64 256)).bind fun v3 => (cI .u8 v3).bind fun v4 => (bsl 1 [.int .u8 0] H 2 [(0, v2), (1, v4)]).bind fun r5 => (cBS r5.2 r5.1).bind fun r6 => ret_ r6.2 [some r6.1] :=
  (ent_seg E 97 [] 400 [x0] H).trans (by kernel_rfl)
-- spec.l1PutMethod
theorem e98 (x0 : D) (H : Heap) :
    ent E 98 [x0] H =
    alloc_ H (D.cells x0) fun p1 H1 => (fa 0 p1).bind fun v2 => (ld false 1 H1 v2).bind fun v3 => (callFn E (exec E) .pure 95 [v3] H1).bind fun r4 => (fa 1 p1).bind fun v5 => (ld false 1 r4.2 v5).bind fun v6 => (callFn E (exec E) .pure 97 [v6] r4.2).bind fun r7 => (bS .add r4.1 r7.1).bind fun v8 => (fa 2 p1).bind fun v9 => (ld false 1 r7.2 v9).bind fun v10 => (callFn E (exec E) .pure 97 [v10] r7.2).bind fun r11 => (bS .add v8 r11.1).bind fun v12 => (fa 0 p1).bind fun v13 => (ld false 1 r11.2 v13).bind fun v14 => (bI .rem v14 (D.int .i64 16)).bind fun v15 => (bI .quo v15 (D.int .i64 8)).bind fun v16 => (bI .eql v16 (D.int .i64 1)).bind fun v17 => asB v17 fun t => bif t then (ret_ r11.2 [some v12]) else ((fa 3 p1).bind fun v18 => (ld false 1 r11.2 v18).bind fun v19 => (callFn E (exec E) .pure 95 [v19] r11.2).bind fun r20 => (bS .add v12 r20.1).bind fun v21 => (fa 4 p1).bind fun v22 => (ld false 1 r20.2 v22).bind fun v23 => (callFn E (exec E) .pure 95 [v23] r20.2).bind fun r24 => (bS .add v21 r24.1).bind fun v25 => (fa 5 p1).bind fun v26 => (ld false 1 r24.2 v26).bind fun v27 => (lnS v27).bind fun v28 => (callFn E (exec E) .pure 97 [v28] r24.2).bind fun r29 => (bS .add v25 r29.1).bind fun v30 => (fa 5 p1).bind fun v31 => (ld false 1 r29.2 v31).bind fun v32 => (bS .add v30 v32).bind fun v33 => (fa 6 p1).bind fun v34 => (ld false 1 r29.2 v34).bind fun v35 => (lnL v35).bind fun v36 => (callFn E (exec E) .pure 95 [v36] r29.2).bind fun r37 => (bS .add v33 r37.1).bind fun v38 => J E 98 6 [p1, v38, (D.int .i64 0)] r37.2) :=
  (ent_seg E 98 [6, 12, 14] 400 [x0] H).trans (by kernel_rfl)
theorem j98_6 (x1 x3 x4 : D) (H : Heap) :
    J E 98 6 [x1, x3, x4] H =
    (fa 6 x1).bind fun v39 => (ld false 1 H v39).bind fun v40 => (lnL v40).bind fun v41 => (bI .lss x4 v41).bind fun v42 => asB v42 fun t => bif t then ((fa 6 x1).bind fun v43 => (ld false 1 H v43).bind fun v44 => (ia 4 H v44 x4).bind fun v45 => (ld true 4 H v45).bind fun v46 => alloc_ H [.int .i64 0, .int .i64 0, .int .i64 0, .int .i64 0] fun p47 H47 => (st 4 H47 p47 v46).bind fun H48 => (fa 0 p47).bind fun v49 => (ld false 1 H48 v49).bind fun v50 => (callFn E (exec E) .pure 97 [v50] H48).bind fun r51 => (bS .add x3 r51.1).bind fun v52 => (fa 1 p47).bind fun v53 => (ld false 1 r51.2 v53).bind fun v54 => (callFn E (exec E) .pure 97 [v54] r51.2).bind fun r55 => (bS .add v52 r55.1).bind fun v56 => (fa 2 p47).bind fun v57 => (ld false 1 r55.2 v57).bind fun v58 => (callFn E (exec E) .pure 97 [v58] r55.2).bind fun r59 => (bS .add v56 r59.1).bind fun v60 => (fa 3 p47).bind fun v61 => (ld false 1 r59.2 v61).bind fun v62 => (callFn E (exec E) .pure 97 [v62] r59.2).bind fun r63 => (bS .add v60 r63.1).bind fun v64 => (bI .add x4 (D.int .i64 1)).bind fun v65 => J E 98 6 [x1, v64, v65] r63.2) else ((fa 7 x1).bind fun v66 => (ld false 1 H v66).bind fun v67 => (lnL v67).bind fun v68 => (callFn E (exec E) .pure 95 [v68] H).bind fun r69 => (bS .add x3 r69.1).bind fun v70 => J E 98 12 [x1, v70, (D.int .i64 0)] r69.2) :=
  (J_seg E 98 6 [6, 12, 14] 400 [x1, x3, x4] H).trans (by kernel_rfl)
theorem j98_12 (x1 x3 x6 : D) (H : Heap) :
    J E 98 12 [x1, x3, x6] H =
    (fa 7 x1).bind fun v71 => (ld false 1 H v71).bind fun v72 => (lnL v72).bind fun v73 => (bI .lss x6 v73).bind fun v74 => asB v74 fun t => bif t then (J E 98 14 [x1, x3, x6] H) else (ret_ H [some x3]) :=
  (J_seg E 98 12 [6, 12, 14] 400 [x1, x3, x6] H).trans (by kernel_rfl)
theorem j98_14 (x1 x3 x6 : D) (H : Heap) :
    J E 98 14 [x1, x3, x6] H =
    (fa 7 x1).bind fun v75 => (ld false 1 H v75).bind fun v76 => (ia 3 H v76 x6).bind fun v77 => (fa 0 v77).bind fun v78 => (ld false 1 H v78).bind fun v79 => (callFn E (exec E) .pure 97 [v79] H).bind fun r80 => (bS .add x3 r80.1).bind fun v81 => (fa 7 x1).bind fun v82 => (ld false 1 r80.2 v82).bind fun v83 => (ia 3 r80.2 v83 x6).bind fun v84 => (fa 1 v84).bind fun v85 => (ld false 1 r80.2 v85).bind fun v86 => (callFn E (exec E) .pure 138 [v86] r80.2).bind fun r87 => (bS .add v81 r87.1).bind fun v88 => (fa 7 x1).bind fun v89 => (ld false 1 r87.2 v89).bind fun v90 => (ia 3 r87.2 v90 x6).bind fun v91 => (fa 2 v91).bind fun v92 => (ld false 1 r87.2 v92).bind fun v93 => (callFn E (exec E) .pure 138 [v93] r87.2).bind fun r94 => (bS .add v88 r94.1).bind fun v95 => (bI .add x6 (D.int .i64 1)).bind fun v96 => J E 98 12 [x1, v95, v96] r94.2 :=
  (J_seg E 98 14 [6, 12, 14] 400 [x1, x3, x6] H).trans (by kernel_rfl)
-- (*spec.l1Rd).text
theorem e127 (x0 x1 : D) (H : Heap) :
    ent E 127 [x0, x1] H =
    (nilCheck x0).bind fun v1 => (fa 2 v1).bind fun v2 => (ld false 1 H v2).bind fun v3 => asB v3 fun t => bif t then ((nilCheck x0).bind fun v4 => (fa 2 v4).bind fun v5 => (st 1 H v5 (D.bool true)).bind fun H6 => ret_ H6 [some (D.str [])]) else ((nilCheck x0).bind fun v7 => (fa 1 v7).bind fun v8 => (ld false 1 H v8).bind fun v9 => (bI .add v9 x1).bind fun v10 => (nilCheck x0).bind fun v11 => (fa 0 v11).bind fun v12 => (ld false 1 H v12).bind fun v13 => (lnS v13).bind fun v14 => (bI .gtr v10 v14).bind fun v15 => asB v15 fun t => bif t then ((nilCheck x0).bind fun v16 => (fa 2 v16).bind fun v17 => (st 1 H v17 (D.bool true)).bind fun H18 => ret_ H18 [some (D.str [])]) else ((nilCheck x0).bind fun v19 => (fa 1 v19).bind fun v20 => (ld false 1 H v20).bind fun v21 => (bI .add v21 x1).bind fun v22 => (nilCheck x0).bind fun v23 => (fa 1 v23).bind fun v24 => (st 1 H v24 v22).bind fun H25 => (nilCheck x0).bind fun v26 => (fa 0 v26).bind fun v27 => (ld false 1 H25 v27).bind fun v28 => (nilCheck x0).bind fun v29 => (fa 1 v29).bind fun v30 => (ld false 1 H25 v30).bind fun v31 => (bI .sub v31 x1).bind fun v32 => (nilCheck x0).bind fun v33 => (fa 1 v33).bind fun v34 => (ld false 1 H25 v34).bind fun v35 => (slS v28 (some v32) (some v35) none).bind fun v36 => ret_ H25 [some v36])) :=
  (ent_seg E 127 [] 400 [x0, x1] H).trans (by kernel_rfl)
-- (*spec.l1Rd).pool
theorem e128 (x0 : D) (H : Heap) :
    ent E 128 [x0] H =
    (bsl 4 [.int .i64 0, .str [], .int .i64 0, .int .i64 0] H 0 []).bind fun r1 => (callFn E (exec E) .raw 129 [x0] r1.2).bind fun r2 => (bI .gtr r2.1 (D.int .i64 60)).bind fun v3 => asB v3 fun t => bif t then ((nilCheck x0).bind fun v4 => (fa 2 v4).bind fun v5 => (st 1 r2.2 v5 (D.bool true)).bind fun H6 => J E 128 5 [x0, r1.1, r2.1] H6) else (J E 128 5 [x0, r1.1, r2.1] r2.2) :=
  (ent_seg E 128 [5, 6] 400 [x0] H).trans (by kernel_rfl)
theorem j128_5 (x0 x3 x4 : D) (H : Heap) :
    J E 128 5 [x0, x3, x4] H =
    J E 128 6 [x0, x3, x4, (D.int .i64 0)] H :=
  (J_seg E 128 5 [5, 6] 400 [x0, x3, x4] H).trans (by kernel_rfl)
theorem j128_6 (x0 x3 x4 x5 : D) (H : Heap) :
    J E 128 6 [x0, x3, x4, x5] H =
    (bI .lss x5 x4).bind fun v7 => asB v7 fun t => bif t then ((nilCheck x0).bind fun v8 => (fa 2 v8).bind fun v9 => (ld false 1 H v9).bind fun v10 => (unOp .not v10).bind fun v11 => asB v11 fun t => bif t then ((callFn E (exec E) .raw 153 [x0] H).bind fun r12 => (bsl 4 [.int .i64 0, .str [], .int .i64 0, .int .i64 0] r12.2 1 [(0, r12.1)]).bind fun r13 => (app 4 40 r13.2 x3 r13.1).bind fun r14 => (bI .add x5 (D.int .i64 1)).bind fun v15 => J E 128 6 [x0, r14.1, x4, v15] r14.2) else (ret_ H [some x3])) else (ret_ H [some x3]) :=
  (J_seg E 128 6 [5, 6] 400 [x0, x3, x4, x5] H).trans (by kernel_rfl)
-- (*spec.l1Rd).one
theorem e129 (x0 : D) (H : Heap) :
    ent E 129 [x0] H =
    (nilCheck x0).bind fun v1 => (fa 2 v1).bind fun v2 => (ld false 1 H v2).bind fun v3 => asB v3 fun t => bif t then ((nilCheck x0).bind fun v4 => (fa 2 v4).bind fun v5 => (st 1 H v5 (D.bool true)).bind fun H6 => ret_ H6 [some (D.int .i64 0)]) else ((nilCheck x0).bind fun v7 => (fa 1 v7).bind fun v8 => (ld false 1 H v8).bind fun v9 => (nilCheck x0).bind fun v10 => (fa 0 v10).bind fun v11 => (ld false 1 H v11).bind fun v12 => (lnS v12).bind fun v13 => (bI .geq v9 v13).bind fun v14 => asB v14 fun t => bif t then ((nilCheck x0).bind fun v15 => (fa 2 v15).bind fun v16 => (st 1 H v16 (D.bool true)).bind fun H17 => ret_ H17 [some (D.int .i64 0)]) else ((nilCheck x0).bind fun v18 => (fa 1 v18).bind fun v19 => (ld false 1 H v19).bind fun v20 => (bI .add v20 (D.int .i64 1)).bind fun v21 => (nilCheck x0).bind fun v22 => (fa 1 v22).bind fun v23 => (st 1 H v23 v21).bind fun H24 => (nilCheck x0).bind fun v25 => (fa 0 v25).bind fun v26 => (ld false 1 H24 v26).bind fun v27 => (nilCheck x0).bind fun v28 => (fa 1 v28).bind fun v29 => (ld false 1 H24 v29).bind fun v30 => (bI .sub v30 (D.int .i64 1)).bind fun v31 => (ix v27 v31).bind fun v32 => (cI .i64 v32).bind fun v33 => ret_ H24 [some v33])) :=
  (ent_seg E 129 [] 400 [x0] H).trans (by kernel_rfl)
-- (*spec.l1Rd).two
theorem e130 (x0 : D) (H : Heap) :
    ent E 130 [x0] H =
    (callFn E (exec E) .raw 129 [x0] H).bind fun r1 => (callFn E (exec E) .raw 129 [x0] r1.2).bind fun r2 => (bI .mul r1.1 (D.int .i64 256)).bind fun v3 => (bI .add v3 r2.1).bind fun v4 => ret_ r2.2 [some v4] :=
  (ent_seg E 130 [] 400 [x0] H).trans (by kernel_rfl)
-- (*spec.l1Rd).method
theorem e131 (x0 : D) (H : Heap) :
    ent E 131 [x0] H =
    alloc_ H [.int .i64 0, .int .i64 0, .int .i64 0, .int .i64 0, .int .i64 0, .str [], .sl0, .sl0] fun p1 H1 => (callFn E (exec E) .raw 129 [x0] H1).bind fun r2 => (callFn E (exec E) .raw 130 [x0] r2.2).bind fun r3 => (callFn E (exec E) .raw 130 [x0] r3.2).bind fun r4 => (bld [.int .i64 0, .int .i64 0, .int .i64 0, .int .i64 0, .int .i64 0, .str [], .sl0, .sl0] [(0, 1, false), (1, 1, false), (2, 1, false), (3, 1, false), (4, 1, false), (5, 1, false), (6, 1, false), (7, 1, false)] [(0, r2.1), (1, r3.1), (2, r4.1)]).bind fun v5 => alloc_ r4.2 [.int .i64 0, .int .i64 0, .int .i64 0, .int .i64 0, .int .i64 0, .str [], .sl0, .sl0] fun p6 H6 => (st 8 H6 p6 v5).bind fun H7 => (fa 0 p6).bind fun v8 => (ld false 1 H7 v8).bind fun v9 => (bI .rem v9 (D.int .i64 16)).bind fun v10 => (bI .quo v10 (D.int .i64 8)).bind fun v11 => (bI .eql v11 (D.int .i64 1)).bind fun v12 => asB v12 fun t => bif t then ((ld true 8 H7 p6).bind fun v13 => (st 8 H7 p1 v13).bind fun H14 => ret_ H14 [ld true 8 H14 p1]) else ((ld true 8 H7 p6).bind fun v15 => (callFn E (exec E) .raw 154 [x0, v15] H7).bind fun r16 => (st 8 r16.2 p1 r16.1).bind fun H17 => ret_ H17 [ld true 8 H17 p1]) :=
  (ent_seg E 131 [] 400 [x0] H).trans (by kernel_rfl)
-- laws.eqTrapS
theorem e132 (x0 x1 : D) (H : Heap) :
    ent E 132 [x0, x1] H =
    (lnL x0).bind fun v1 => (lnL x1).bind fun v2 => (bI .neq v1 v2).bind fun v3 => asB v3 fun t => bif t then (ret_ H [some (D.bool false)]) else (J E 132 4 [x0, x1, (D.int .i64 0)] H) :=
  (ent_seg E 132 [4] 400 [x0, x1] H).trans (by kernel_rfl)
theorem j132_4 (x0 x1 x5 : D) (H : Heap) :
    J E 132 4 [x0, x1, x5] H =
    (lnL x0).bind fun v4 => (bI .lss x5 v4).bind fun v5 => asB v5 fun t => bif t then ((ia 4 H x0 x5).bind fun v6 => (ld true 4 H v6).bind fun v7 => (ia 4 H x1 x5).bind fun v8 => (ld true 4 H v8).bind fun v9 => (callFn E (exec E) .pure 155 [v7, v9] H).bind fun r10 => (unOp .not r10.1).bind fun v11 => asB v11 fun t => bif t then (ret_ r10.2 [some (D.bool false)]) else ((bI .add x5 (D.int .i64 1)).bind fun v12 => J E 132 4 [x0, x1, v12] r10.2)) else (ret_ H [some (D.bool true)]) :=
  (J_seg E 132 4 [4] 400 [x0, x1, x5] H).trans (by kernel_rfl)
-- laws.eqFrameS
theorem e133 (x0 x1 : D) (H : Heap) :
    ent E 133 [x0, x1] H =
    (lnL x0).bind fun v1 => (lnL x1).bind fun v2 => (bI .neq v1 v2).bind fun v3 => asB v3 fun t => bif t then (ret_ H [some (D.bool false)]) else (J E 133 4 [x0, x1, (D.int .i64 0)] H) :=
  (ent_seg E 133 [4] 400 [x0, x1] H).trans (by kernel_rfl)
theorem j133_4 (x0 x1 x5 : D) (H : Heap) :
    J E 133 4 [x0, x1, x5] H =
    (lnL x0).bind fun v4 => (bI .lss x5 v4).bind fun v5 => asB v5 fun t => bif t then ((ia 3 H x0 x5).bind fun v6 => (ld true 3 H v6).bind fun v7 => (ia 3 H x1 x5).bind fun v8 => (ld true 3 H v8).bind fun v9 => (callFn E (exec E) .pure 156 [v7, v9] H).bind fun r10 => (unOp .not r10.1).bind fun v11 => asB v11 fun t => bif t then (ret_ r10.2 [some (D.bool false)]) else ((bI .add x5 (D.int .i64 1)).bind fun v12 => J E 133 4 [x0, x1, v12] r10.2)) else (ret_ H [some (D.bool true)]) :=
  (J_seg E 133 4 [4] 400 [x0, x1, x5] H).trans (by kernel_rfl)
-- laws.markKindS
theorem e134 (x0 x1 : D) (H : Heap) :
    ent E 134 [x0, x1] H =
    J E 134 2 [x0, x1, (D.int .i64 0)] H :=
  (ent_seg E 134 [2] 400 [x0, x1] H).trans (by kernel_rfl)
theorem j134_2 (x0 x1 x5 : D) (H : Heap) :
    J E 134 2 [x0, x1, x5] H =
    (lnL x0).bind fun v1 => (bI .lss x5 v1).bind fun v2 => asB v2 fun t => bif t then ((ia 2 H x0 x5).bind fun v3 => (fa 0 v3).bind fun v4 => (st 1 H v4 x1).bind fun H5 => (bI .add x1 (D.int .i64 1)).bind fun v6 => (ia 2 H5 x0 x5).bind fun v7 => (fa 1 v7).bind fun v8 => (st 1 H5 v8 v6).bind fun H9 => (bI .add v6 (D.int .i64 1)).bind fun v10 => (bI .add x5 (D.int .i64 1)).bind fun v11 => J E 134 2 [x0, v10, v11] H9) else (ret_ H [some x1]) :=
  (J_seg E 134 2 [2] 400 [x0, x1, x5] H).trans (by kernel_rfl)
-- laws.heldKindS
theorem e135 (x0 x1 : D) (H : Heap) :
    ent E 135 [x0, x1] H =
    J E 135 2 [x0, x1, (D.int .i64 0)] H :=
  (ent_seg E 135 [2] 400 [x0, x1] H).trans (by kernel_rfl)
theorem j135_2 (x0 x1 x5 : D) (H : Heap) :
    J E 135 2 [x0, x1, x5] H =
    (lnL x0).bind fun v1 => (bI .lss x5 v1).bind fun v2 => asB v2 fun t => bif t then ((ia 2 H x0 x5).bind fun v3 => (fa 0 v3).bind fun v4 => (ld false 1 H v4).bind fun v5 => (bI .neq v5 x1).bind fun v6 => asB v6 fun t => bif t then (ret_ H [some (D.int .i64 (-1))]) else ((bI .add x1 (D.int .i64 1)).bind fun v7 => (ia 2 H x0 x5).bind fun v8 => (fa 1 v8).bind fun v9 => (ld false 1 H v9).bind fun v10 => (bI .neq v10 v7).bind fun v11 => asB v11 fun t => bif t then (ret_ H [some (D.int .i64 (-1))]) else ((bI .add v7 (D.int .i64 1)).bind fun v12 => (bI .add x5 (D.int .i64 1)).bind fun v13 => J E 135 2 [x0, v12, v13] H))) else (ret_ H [some x1]) :=
  (J_seg E 135 2 [2] 400 [x0, x1, x5] H).trans (by kernel_rfl)
-- spec.l1PutKinds
theorem e138 (x0 : D) (H : Heap) :
    ent E 138 [x0] H =
    (lnL x0).bind fun v1 => (callFn E (exec E) .pure 95 [v1] H).bind fun r2 => J E 138 3 [x0, r2.1, (D.int .i64 0)] r2.2 :=
  (ent_seg E 138 [3, 4] 400 [x0] H).trans (by kernel_rfl)
theorem j138_3 (x0 x3 x4 : D) (H : Heap) :
    J E 138 3 [x0, x3, x4] H =
    (lnL x0).bind fun v3 => (bI .lss x4 v3).bind fun v4 => asB v4 fun t => bif t then ((ia 2 H x0 x4).bind fun v5 => (fa 0 v5).bind fun v6 => (ld false 1 H v6).bind fun v7 => (callFn E (exec E) .pure 95 [v7] H).bind fun r8 => (bS .add x3 r8.1).bind fun v9 => (ia 2 r8.2 x0 x4).bind fun v10 => (fa 0 v10).bind fun v11 => (ld false 1 r8.2 v11).bind fun v12 => (bI .eql v12 (D.int .i64 3)).bind fun v13 => asB v13 fun t => bif t then ((ia 2 r8.2 x0 x4).bind fun v14 => (fa 1 v14).bind fun v15 => (ld false 1 r8.2 v15).bind fun v16 => (callFn E (exec E) .pure 97 [v16] r8.2).bind fun r17 => (bS .add v9 r17.1).bind fun v18 => J E 138 4 [x0, v18, x4] r17.2) else (J E 138 4 [x0, v9, x4] r8.2)) else (ret_ H [some x3]) :=
  (J_seg E 138 3 [3, 4] 400 [x0, x3, x4] H).trans (by kernel_rfl)
theorem j138_4 (x0 x3 x4 : D) (H : Heap) :
    J E 138 4 [x0, x3, x4] H =
    (bI .add x4 (D.int .i64 1)).bind fun v19 => J E 138 3 [x0, x3, v19] H :=
  (J_seg E 138 4 [3, 4] 400 [x0, x3, x4] H).trans (by kernel_rfl)
-- (*spec.l1Rd).entry
theorem e153 (x0 : D) (H : Heap) :
    ent E 153 [x0] H =
    alloc_ H [.int .i64 0, .str [], .int .i64 0, .int .i64 0] fun p1 H1 => (callFn E (exec E) .raw 129 [x0] H1).bind fun r2 => (bld [.int .i64 0, .str [], .int .i64 0, .int .i64 0] [(0, 1, false), (1, 1, false), (2, 1, false), (3, 1, false)] [(0, r2.1)]).bind fun v3 => alloc_ r2.2 [.int .i64 0, .str [], .int .i64 0, .int .i64 0] fun p4 H4 => (st 4 H4 p4 v3).bind fun H5 => (fa 0 p4).bind fun v6 => (ld false 1 H5 v6).bind fun v7 => (bI .eql v7 (D.int .i64 1)).bind fun v8 => asB v8 fun t => bif t then ((callFn E (exec E) .raw 129 [x0] H5).bind fun r9 => (callFn E (exec E) .raw 127 [x0, r9.1] r9.2).bind fun r10 => (fa 1 p4).bind fun v11 => (st 1 r10.2 v11 r10.1).bind fun H12 => J E 153 14 [p1, p4] H12) else ((bI .eql v7 (D.int .i64 2)).bind fun v13 => asB v13 fun t => bif t then ((callFn E (exec E) .raw 130 [x0] H5).bind fun r14 => (fa 2 p4).bind fun v15 => (st 1 r14.2 v15 r14.1).bind fun H16 => J E 153 14 [p1, p4] H16) else ((bI .eql v7 (D.int .i64 3)).bind fun v17 => asB v17 fun t => bif t then (asB v17 fun t => bif t then (J E 153 12 [x0, p1, p4] H5) else (J E 153 3 [x0, p1, p4] H5)) else ((bI .eql v7 (D.int .i64 4)).bind fun v18 => asB v18 fun t => bif t then (asB v18 fun t => bif t then (J E 153 12 [x0, p1, p4] H5) else (J E 153 3 [x0, p1, p4] H5)) else ((bI .eql v7 (D.int .i64 5)).bind fun v19 => asB v19 fun t => bif t then (asB v19 fun t => bif t then (J E 153 12 [x0, p1, p4] H5) else (J E 153 3 [x0, p1, p4] H5)) else ((bI .eql v7 (D.int .i64 6)).bind fun v20 => asB v20 fun t => bif t then (J E 153 12 [x0, p1, p4] H5) else (J E 153 3 [x0, p1, p4] H5)))))) :=
  (ent_seg E 153 [3, 12, 14] 400 [x0] H).trans (by kernel_rfl)
theorem j153_3 (x0 x2 x3 : D) (H : Heap) :
    J E 153 3 [x0, x2, x3] H =
    (nilCheck x0).bind fun v21 => (fa 2 v21).bind fun v22 => (st 1 H v22 (D.bool true)).bind fun H23 => J E 153 14 [x2, x3] H23 :=
  (J_seg E 153 3 [3, 12, 14] 400 [x0, x2, x3] H).trans (by kernel_rfl)
theorem j153_12 (x0 x2 x3 : D) (H : Heap) :
    J E 153 12 [x0, x2, x3] H =
    (callFn E (exec E) .raw 130 [x0] H).bind fun r24 => (fa 2 x3).bind fun v25 => (st 1 r24.2 v25 r24.1).bind fun H26 => (callFn E (exec E) .raw 130 [x0] H26).bind fun r27 => (fa 3 x3).bind fun v28 => (st 1 r27.2 v28 r27.1).bind fun H29 => J E 153 14 [x2, x3] H29 :=
  (J_seg E 153 12 [3, 12, 14] 400 [x0, x2, x3] H).trans (by kernel_rfl)
theorem j153_14 (x2 x3 : D) (H : Heap) :
    J E 153 14 [x2, x3] H =
    (ld true 4 H x3).bind fun v30 => (st 4 H x2 v30).bind fun H31 => ret_ H31 [ld true 4 H31 x2] :=
  (J_seg E 153 14 [3, 12, 14] 400 [x2, x3] H).trans (by kernel_rfl)
-- (*spec.l1Rd).body
theorem e154 (x0 x1 : D) (H : Heap) :
    ent E 154 [x0, x1] H =
    alloc_ H (D.cells x1) fun p1 H1 => alloc_ H1 [.int .i64 0, .int .i64 0, .int .i64 0, .int .i64 0, .int .i64 0, .str [], .sl0, .sl0] fun p2 H2 => (callFn E (exec E) .raw 129 [x0] H2).bind fun r3 => (fa 3 p1).bind fun v4 => (st 1 r3.2 v4 r3.1).bind fun H5 => (callFn E (exec E) .raw 129 [x0] H5).bind fun r6 => (fa 4 p1).bind fun v7 => (st 1 r6.2 v7 r6.1).bind fun H8 => (callFn E (exec E) .raw 130 [x0] H8).bind fun r9 => (bI .gtr r9.1 (D.int .i64 120)).bind fun v10 => asB v10 fun t => bif t then ((nilCheck x0).bind fun v11 => (fa 2 v11).bind fun v12 => (st 1 r9.2 v12 (D.bool true)).bind fun H13 => J E 154 6 [x0, p1, p2, r9.1] H13) else (J E 154 6 [x0, p1, p2, r9.1] r9.2) :=
  (ent_seg E 154 [6, 10, 11, 17, 18] 400 [x0, x1] H).trans (by kernel_rfl)
theorem j154_6 (x0 x3 x4 x5 : D) (H : Heap) :
    J E 154 6 [x0, x3, x4, x5] H =
    (callFn E (exec E) .raw 127 [x0, x5] H).bind fun r14 => (fa 5 x3).bind fun v15 => (st 1 r14.2 v15 r14.1).bind fun H16 => (callFn E (exec E) .raw 129 [x0] H16).bind fun r17 => (bI .gtr r17.1 (D.int .i64 3)).bind fun v18 => asB v18 fun t => bif t then ((nilCheck x0).bind fun v19 => (fa 2 v19).bind fun v20 => (st 1 r17.2 v20 (D.bool true)).bind fun H21 => J E 154 10 [x0, x3, x4, r17.1] H21) else (J E 154 10 [x0, x3, x4, r17.1] r17.2) :=
  (J_seg E 154 6 [6, 10, 11, 17, 18] 400 [x0, x3, x4, x5] H).trans (by kernel_rfl)
theorem j154_10 (x0 x3 x4 x6 : D) (H : Heap) :
    J E 154 10 [x0, x3, x4, x6] H =
    J E 154 11 [x0, x3, x4, x6, (D.int .i64 0)] H :=
  (J_seg E 154 10 [6, 10, 11, 17, 18] 400 [x0, x3, x4, x6] H).trans (by kernel_rfl)
theorem j154_11 (x0 x3 x4 x6 x7 : D) (H : Heap) :
    J E 154 11 [x0, x3, x4, x6, x7] H =
    (bI .lss x7 x6).bind fun v22 => asB v22 fun t => bif t then ((nilCheck x0).bind fun v23 => (fa 2 v23).bind fun v24 => (ld false 1 H v24).bind fun v25 => (unOp .not v25).bind fun v26 => asB v26 fun t => bif t then ((fa 6 x3).bind fun v27 => (ld false 1 H v27).bind fun v28 => (callFn E (exec E) .raw 130 [x0] H).bind fun r29 => (ld false 1 r29.2 v27).bind fun w30 => again w30 v28 ((callFn E (exec E) .raw 130 [x0] r29.2).bind fun r31 => (ld false 1 r31.2 v27).bind fun w32 => again w32 v28 ((callFn E (exec E) .raw 130 [x0] r31.2).bind fun r33 => (ld false 1 r33.2 v27).bind fun w34 => again w34 v28 ((callFn E (exec E) .raw 130 [x0] r33.2).bind fun r35 => (ld false 1 r35.2 v27).bind fun w36 => again w36 v28 ((bld [.int .i64 0, .int .i64 0, .int .i64 0, .int .i64 0] [(0, 1, false), (1, 1, false), (2, 1, false), (3, 1, false)] [(0, r29.1), (1, r31.1), (2, r33.1), (3, r35.1)]).bind fun v37 => (bsl 4 [.int .i64 0, .int .i64 0, .int .i64 0, .int .i64 0] r35.2 1 [(0, v37)]).bind fun r38 => (app 4 32 r38.2 v28 r38.1).bind fun r39 => (fa 6 x3).bind fun v40 => (st 1 r39.2 v40 r39.1).bind fun H41 => (bI .add x7 (D.int .i64 1)).bind fun v42 => J E 154 11 [x0, x3, x4, x6, v42] H41))))) else ((callFn E (exec E) .raw 129 [x0] H).bind fun r43 => (bI .gtr r43.1 (D.int .i64 8)).bind fun v44 => asB v44 fun t => bif t then ((nilCheck x0).bind fun v45 => (fa 2 v45).bind fun v46 => (st 1 r43.2 v46 (D.bool true)).bind fun H47 => J E 154 17 [x0, x3, x4, r43.1] H47) else (J E 154 17 [x0, x3, x4, r43.1] r43.2))) else ((callFn E (exec E) .raw 129 [x0] H).bind fun r48 => (bI .gtr r48.1 (D.int .i64 8)).bind fun v49 => asB v49 fun t => bif t then ((nilCheck x0).bind fun v50 => (fa 2 v50).bind fun v51 => (st 1 r48.2 v51 (D.bool true)).bind fun H52 => J E 154 17 [x0, x3, x4, r48.1] H52) else (J E 154 17 [x0, x3, x4, r48.1] r48.2)) :=
  (J_seg E 154 11 [6, 10, 11, 17, 18] 400 [x0, x3, x4, x6, x7] H).trans (by kernel_rfl)
theorem j154_17 (x0 x3 x4 x6 : D) (H : Heap) :
    J E 154 17 [x0, x3, x4, x6] H =
    J E 154 18 [x0, x3, x4, x6, (D.int .i64 0)] H :=
  (J_seg E 154 17 [6, 10, 11, 17, 18] 400 [x0, x3, x4, x6] H).trans (by kernel_rfl)
theorem j154_18 (x0 x3 x4 x6 x8 : D) (H : Heap) :
    J E 154 18 [x0, x3, x4, x6, x8] H =
    (bI .lss x8 x6).bind fun v53 => asB v53 fun t => bif t then ((nilCheck x0).bind fun v54 => (fa 2 v54).bind fun v55 => (ld false 1 H v55).bind fun v56 => (unOp .not v56).bind fun v57 => asB v57 fun t => bif t then ((fa 7 x3).bind fun v58 => (ld false 1 H v58).bind fun v59 => (callFn E (exec E) .raw 130 [x0] H).bind fun r60 => (ld false 1 r60.2 v58).bind fun w61 => again w61 v59 ((callFn E (exec E) .raw 161 [x0] r60.2).bind fun r62 => (ld false 1 r62.2 v58).bind fun w63 => again w63 v59 ((callFn E (exec E) .raw 161 [x0] r62.2).bind fun r64 => (ld false 1 r64.2 v58).bind fun w65 => again w65 v59 ((bld [.int .i64 0, .sl0, .sl0] [(0, 1, false), (1, 1, false), (2, 1, false)] [(0, r60.1), (1, r62.1), (2, r64.1)]).bind fun v66 => (bsl 3 [.int .i64 0, .sl0, .sl0] r64.2 1 [(0, v66)]).bind fun r67 => (app 3 56 r67.2 v59 r67.1).bind fun r68 => (fa 7 x3).bind fun v69 => (st 1 r68.2 v69 r68.1).bind fun H70 => (bI .add x8 (D.int .i64 1)).bind fun v71 => J E 154 18 [x0, x3, x4, x6, v71] H70)))) else ((ld true 8 H x3).bind fun v72 => (st 8 H x4 v72).bind fun H73 => ret_ H73 [ld true 8 H73 x4])) else ((ld true 8 H x3).bind fun v74 => (st 8 H x4 v74).bind fun H75 => ret_ H75 [ld true 8 H75 x4]) :=
  (J_seg E 154 18 [6, 10, 11, 17, 18] 400 [x0, x3, x4, x6, x8] H).trans (by kernel_rfl)
-- laws.eqTrap
theorem e155 (x0 x1 : D) (H : Heap) :
    ent E 155 [x0, x1] H =
    alloc_ H (D.cells x0) fun p1 H1 => alloc_ H1 (D.cells x1) fun p2 H2 => (fa 0 p1).bind fun v3 => (ld false 1 H2 v3).bind fun v4 => (fa 0 p2).bind fun v5 => (ld false 1 H2 v5).bind fun v6 => (bI .neq v4 v6).bind fun v7 => asB v7 fun t => bif t then (ret_ H2 [some (D.bool false)]) else ((fa 1 p1).bind fun v8 => (ld false 1 H2 v8).bind fun v9 => (fa 1 p2).bind fun v10 => (ld false 1 H2 v10).bind fun v11 => (bI .neq v9 v11).bind fun v12 => asB v12 fun t => bif t then (ret_ H2 [some (D.bool false)]) else ((fa 2 p1).bind fun v13 => (ld false 1 H2 v13).bind fun v14 => (fa 2 p2).bind fun v15 => (ld false 1 H2 v15).bind fun v16 => (bI .neq v14 v16).bind fun v17 => asB v17 fun t => bif t then (ret_ H2 [some (D.bool false)]) else ((fa 3 p1).bind fun v18 => (ld false 1 H2 v18).bind fun v19 => (fa 3 p2).bind fun v20 => (ld false 1 H2 v20).bind fun v21 => (bI .neq v19 v21).bind fun v22 => asB v22 fun t => bif t then (ret_ H2 [some (D.bool false)]) else (ret_ H2 [some (D.bool true)])))) :=
  (ent_seg E 155 [] 400 [x0, x1] H).trans (by kernel_rfl)
-- laws.eqFrame
theorem e156 (x0 x1 : D) (H : Heap) :
    ent E 156 [x0, x1] H =
    alloc_ H (D.cells x0) fun p1 H1 => alloc_ H1 (D.cells x1) fun p2 H2 => (fa 0 p1).bind fun v3 => (ld false 1 H2 v3).bind fun v4 => (fa 0 p2).bind fun v5 => (ld false 1 H2 v5).bind fun v6 => (bI .neq v4 v6).bind fun v7 => asB v7 fun t => bif t then (ret_ H2 [some (D.bool false)]) else ((fa 1 p1).bind fun v8 => (ld false 1 H2 v8).bind fun v9 => (fa 1 p2).bind fun v10 => (ld false 1 H2 v10).bind fun v11 => (callFn E (exec E) .pure 162 [v9, v11] H2).bind fun r12 => (unOp .not r12.1).bind fun v13 => asB v13 fun t => bif t then (ret_ r12.2 [some (D.bool false)]) else ((fa 2 p1).bind fun v14 => (ld false 1 r12.2 v14).bind fun v15 => (fa 2 p2).bind fun v16 => (ld false 1 r12.2 v16).bind fun v17 => (callFn E (exec E) .pure 162 [v15, v17] r12.2).bind fun r18 => (unOp .not r18.1).bind fun v19 => asB v19 fun t => bif t then (ret_ r18.2 [some (D.bool false)]) else (ret_ r18.2 [some (D.bool true)]))) :=
  (ent_seg E 156 [] 400 [x0, x1] H).trans (by kernel_rfl)
-- (*spec.l1Rd).kinds
theorem e161 (x0 : D) (H : Heap) :
    ent E 161 [x0] H =
    (bsl 2 [.int .i64 0, .int .i64 0] H 0 []).bind fun r1 => (callFn E (exec E) .raw 129 [x0] r1.2).bind fun r2 => (bI .gtr r2.1 (D.int .i64 8)).bind fun v3 => asB v3 fun t => bif t then ((nilCheck x0).bind fun v4 => (fa 2 v4).bind fun v5 => (st 1 r2.2 v5 (D.bool true)).bind fun H6 => J E 161 5 [x0, r1.1, r2.1] H6) else (J E 161 5 [x0, r1.1, r2.1] r2.2) :=
  (ent_seg E 161 [5, 6, 11, 13] 400 [x0] H).trans (by kernel_rfl)
theorem j161_5 (x0 x3 x4 : D) (H : Heap) :
    J E 161 5 [x0, x3, x4] H =
    J E 161 6 [x0, x3, x4, (D.int .i64 0)] H :=
  (J_seg E 161 5 [5, 6, 11, 13] 400 [x0, x3, x4] H).trans (by kernel_rfl)
theorem j161_6 (x0 x3 x4 x5 : D) (H : Heap) :
    J E 161 6 [x0, x3, x4, x5] H =
    (bI .lss x5 x4).bind fun v7 => asB v7 fun t => bif t then ((nilCheck x0).bind fun v8 => (fa 2 v8).bind fun v9 => (ld false 1 H v9).bind fun v10 => (unOp .not v10).bind fun v11 => asB v11 fun t => bif t then ((callFn E (exec E) .raw 129 [x0] H).bind fun r12 => (bld [.int .i64 0, .int .i64 0] [(0, 1, false), (1, 1, false)] [(0, r12.1)]).bind fun v13 => alloc_ r12.2 [.int .i64 0, .int .i64 0] fun p14 H14 => (st 2 H14 p14 v13).bind fun H15 => (fa 0 p14).bind fun v16 => (ld false 1 H15 v16).bind fun v17 => (bI .eql v17 (D.int .i64 3)).bind fun v18 => asB v18 fun t => bif t then ((callFn E (exec E) .raw 130 [x0] H15).bind fun r19 => (fa 1 p14).bind fun v20 => (st 1 r19.2 v20 r19.1).bind fun H21 => J E 161 11 [x0, x3, x4, x5, p14] H21) else (J E 161 11 [x0, x3, x4, x5, p14] H15)) else (ret_ H [some x3])) else (ret_ H [some x3]) :=
  (J_seg E 161 6 [5, 6, 11, 13] 400 [x0, x3, x4, x5] H).trans (by kernel_rfl)
theorem j161_11 (x0 x3 x4 x5 x6 : D) (H : Heap) :
    J E 161 11 [x0, x3, x4, x5, x6] H =
    (fa 0 x6).bind fun v22 => (ld false 1 H v22).bind fun v23 => (bI .gtr v23 (D.int .i64 3)).bind fun v24 => asB v24 fun t => bif t then ((nilCheck x0).bind fun v25 => (fa 2 v25).bind fun v26 => (st 1 H v26 (D.bool true)).bind fun H27 => J E 161 13 [x0, x3, x4, x5, x6] H27) else (J E 161 13 [x0, x3, x4, x5, x6] H) :=
  (J_seg E 161 11 [5, 6, 11, 13] 400 [x0, x3, x4, x5, x6] H).trans (by kernel_rfl)
theorem j161_13 (x0 x3 x4 x5 x6 : D) (H : Heap) :
    J E 161 13 [x0, x3, x4, x5, x6] H =
    (ld true 2 H x6).bind fun v28 => (bsl 2 [.int .i64 0, .int .i64 0] H 1 [(0, v28)]).bind fun r29 => (app 2 16 r29.2 x3 r29.1).bind fun r30 => (bI .add x5 (D.int .i64 1)).bind fun v31 => J E 161 6 [x0, r30.1, x4, v31] r30.2 :=
  (J_seg E 161 13 [5, 6, 11, 13] 400 [x0, x3, x4, x5, x6] H).trans (by kernel_rfl)
-- laws.eqKindS
theorem e162 (x0 x1 : D) (H : Heap) :
    ent E 162 [x0, x1] H =
    (lnL x0).bind fun v1 => (lnL x1).bind fun v2 => (bI .neq v1 v2).bind fun v3 => asB v3 fun t => bif t then (ret_ H [some (D.bool false)]) else (J E 162 4 [x0, x1, (D.int .i64 0)] H) :=
  (ent_seg E 162 [4] 400 [x0, x1] H).trans (by kernel_rfl)
theorem j162_4 (x0 x1 x5 : D) (H : Heap) :
    J E 162 4 [x0, x1, x5] H =
    (lnL x0).bind fun v4 => (bI .lss x5 v4).bind fun v5 => asB v5 fun t => bif t then ((ia 2 H x0 x5).bind fun v6 => (ld true 2 H v6).bind fun v7 => (ia 2 H x1 x5).bind fun v8 => (ld true 2 H v8).bind fun v9 => (callFn E (exec E) .pure 165 [v7, v9] H).bind fun r10 => (unOp .not r10.1).bind fun v11 => asB v11 fun t => bif t then (ret_ r10.2 [some (D.bool false)]) else ((bI .add x5 (D.int .i64 1)).bind fun v12 => J E 162 4 [x0, x1, v12] r10.2)) else (ret_ H [some (D.bool true)]) :=
  (J_seg E 162 4 [4] 400 [x0, x1, x5] H).trans (by kernel_rfl)
-- laws.eqKind
theorem e165 (x0 x1 : D) (H : Heap) :
    ent E 165 [x0, x1] H =
    alloc_ H (D.cells x0) fun p1 H1 => alloc_ H1 (D.cells x1) fun p2 H2 => (fa 0 p1).bind fun v3 => (ld false 1 H2 v3).bind fun v4 => (fa 0 p2).bind fun v5 => (ld false 1 H2 v5).bind fun v6 => (bI .neq v4 v6).bind fun v7 => asB v7 fun t => bif t then (ret_ H2 [some (D.bool false)]) else ((fa 1 p1).bind fun v8 => (ld false 1 H2 v8).bind fun v9 => (fa 1 p2).bind fun v10 => (ld false 1 H2 v10).bind fun v11 => (bI .neq v9 v11).bind fun v12 => asB v12 fun t => bif t then (ret_ H2 [some (D.bool false)]) else (ret_ H2 [some (D.bool true)])) :=
  (ent_seg E 165 [] 400 [x0, x1] H).trans (by kernel_rfl)
end Go.Ev.Ytmljkoieihaomaa
