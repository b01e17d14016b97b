import Derived.Test.YtohkcloiokhglaaEn
namespace Go.Ev.Ytohkcloiokhglaa
set_option maxRecDepth 100000
set_option linter.unusedVariables false
-- gosem.cut.init
theorem e2 (H : Heap) :
    ent E 2 [] H =
    (callFn E (exec E) .ext 1 [] H).bind fun r1 => ret_ r1.2 [] :=
  (ent_seg E 2 [] 400 [] H).trans (by kernel_rfl)
-- laws.FnExactConstants
theorem e3 (H : Heap) :
    ent E 3 [] H =
    ret_ H [some (D.bool true)] :=
  (ent_seg E 3 [] 400 [] H).trans (by kernel_rfl)
-- laws.FnExactNameOk
theorem e4 (x0 : D) (H : Heap) :
    ent E 4 [x0] H =
    (lnS x0).bind fun v1 => (bI .gtr v1 (D.int .i64 1048576)).bind fun v2 => asB v2 fun t => bif t then (ret_ H [some (D.bool true)]) else ((callFn E (exec E) .pure 15 [x0] H).bind fun r3 => (callFn E (exec E) .pure 16 [x0] r3.2).bind fun r4 => (bB .neq r4.1 r3.1).bind fun v5 => asB v5 fun t => bif t then (ret_ r4.2 [some (D.bool false)]) else (ret_ r4.2 [some (D.bool true)])) :=
  (ent_seg E 4 [] 400 [x0] H).trans (by kernel_rfl)
-- laws.FnExactTypeOk
theorem e5 (x0 : D) (H : Heap) :
    ent E 5 [x0] H =
    (lnS x0).bind fun v1 => (bI .gtr v1 (D.int .i64 1048576)).bind fun v2 => asB v2 fun t => bif t then (ret_ H [some (D.bool true)]) else ((callFn E (exec E) .pure 17 [x0] H).bind fun r3 => (callFn E (exec E) .pure 18 [x0] r3.2).bind fun r4 => (bB .neq r4.1 r3.1).bind fun v5 => asB v5 fun t => bif t then (ret_ r4.2 [some (D.bool false)]) else (ret_ r4.2 [some (D.bool true)])) :=
  (ent_seg E 5 [] 400 [x0] H).trans (by kernel_rfl)
-- laws.FnExactOpsGet
theorem e6 (x0 : D) (H : Heap) :
    ent E 6 [x0] H =
    (lnS x0).bind fun v1 => (bI .gtr v1 (D.int .i64 1048576)).bind fun v2 => asB v2 fun t => bif t then (ret_ H [some (D.bool true)]) else ((callFn E (exec E) .view 19 [x0] H).bind fun r3 => (extract r3.1 0).bind fun v4 => (extract r3.1 1).bind fun v5 => (callFn E (exec E) .own 20 [x0] r3.2).bind fun r6 => (extract r6.1 0).bind fun v7 => (extract r6.1 1).bind fun v8 => (callFn E (exec E) .pure 21 [v7, v4] r6.2).bind fun r9 => (unOp .not r9.1).bind fun v10 => asB v10 fun t => bif t then (ret_ r9.2 [some (D.bool false)]) else ((bB .neq v8 v5).bind fun v11 => asB v11 fun t => bif t then (ret_ r9.2 [some (D.bool false)]) else ((callFn E (exec E) .raw 22 [v7, (D.int .i64 1)] r9.2).bind fun r12 => (callFn E (exec E) .pure 23 [v7, (D.int .i64 1)] r12.2).bind fun r13 => (bI .lss r13.1 (D.int .i64 0)).bind fun v14 => asB v14 fun t => bif t then (ret_ r13.2 [some (D.bool false)]) else ((bI .neq r13.1 r12.1).bind fun v15 => asB v15 fun t => bif t then (ret_ r13.2 [some (D.bool false)]) else ((callFn E (exec E) .own 20 [x0] r13.2).bind fun r16 => (extract r16.1 0).bind fun v17 => (extract r16.1 1).bind fun v18 => (callFn E (exec E) .pure 21 [v17, v4] r16.2).bind fun r19 => (unOp .not r19.1).bind fun v20 => asB v20 fun t => bif t then (ret_ r19.2 [some (D.bool false)]) else ((bB .neq v18 v5).bind fun v21 => asB v21 fun t => bif t then (ret_ r19.2 [some (D.bool false)]) else ((callFn E (exec E) .pure 23 [v7, (D.int .i64 1)] r19.2).bind fun r22 => (bI .lss r22.1 (D.int .i64 0)).bind fun v23 => asB v23 fun t => bif t then (ret_ r22.2 [some (D.bool false)]) else ((bI .neq r22.1 r12.1).bind fun v24 => asB v24 fun t => bif t then (ret_ r22.2 [some (D.bool false)]) else (ret_ r22.2 [some (D.bool true)]))))))))) :=
  (ent_seg E 6 [] 400 [x0] H).trans (by kernel_rfl)
-- laws.FnExactTraceMost
theorem e7 (x0 : D) (H : Heap) :
    ent E 7 [x0] H =
    (callFn E (exec E) .pure 24 [x0, (D.int .i64 1048576)] H).bind fun r1 => (bI .lss r1.1 (D.int .i64 0)).bind fun v2 => asB v2 fun t => bif t then (ret_ r1.2 [some (D.bool true)]) else ((callFn E (exec E) .own 26 [x0] r1.2).bind fun r3 => (callFn E (exec E) .view 25 [r3.1] r3.2).bind fun r4 => (callFn E (exec E) .own 26 [x0] r4.2).bind fun r5 => (callFn E (exec E) .own 27 [r5.1] r5.2).bind fun r6 => (callFn E (exec E) .pure 28 [r6.1, r4.1] r6.2).bind fun r7 => (unOp .not r7.1).bind fun v8 => asB v8 fun t => bif t then (ret_ r7.2 [some (D.bool false)]) else ((callFn E (exec E) .own 26 [x0] r7.2).bind fun r9 => (callFn E (exec E) .pure 29 [r5.1, r9.1] r9.2).bind fun r10 => (unOp .not r10.1).bind fun v11 => asB v11 fun t => bif t then (ret_ r10.2 [some (D.bool false)]) else ((callFn E (exec E) .raw 30 [r5.1, (D.int .i64 1)] r10.2).bind fun r12 => (bI .lss r12.1 (D.int .i64 0)).bind fun v13 => asB v13 fun t => bif t then (ret_ r12.2 [some (D.bool false)]) else ((callFn E (exec E) .pure 28 [r6.1, r4.1] r12.2).bind fun r14 => (unOp .not r14.1).bind fun v15 => asB v15 fun t => bif t then (ret_ r14.2 [some (D.bool false)]) else ((callFn E (exec E) .raw 31 [r6.1, (D.int .i64 1)] r14.2).bind fun r16 => (callFn E (exec E) .pure 32 [r6.1, (D.int .i64 1)] r16.2).bind fun r17 => (bI .lss r17.1 (D.int .i64 0)).bind fun v18 => asB v18 fun t => bif t then (ret_ r17.2 [some (D.bool false)]) else ((bI .neq r17.1 r16.1).bind fun v19 => asB v19 fun t => bif t then (ret_ r17.2 [some (D.bool false)]) else ((callFn E (exec E) .own 26 [x0] r17.2).bind fun r20 => (callFn E (exec E) .own 27 [r20.1] r20.2).bind fun r21 => (callFn E (exec E) .pure 28 [r21.1, r4.1] r21.2).bind fun r22 => (unOp .not r22.1).bind fun v23 => asB v23 fun t => bif t then (ret_ r22.2 [some (D.bool false)]) else ((callFn E (exec E) .pure 32 [r6.1, (D.int .i64 1)] r22.2).bind fun r24 => (bI .lss r24.1 (D.int .i64 0)).bind fun v25 => asB v25 fun t => bif t then (ret_ r24.2 [some (D.bool false)]) else ((bI .neq r24.1 r16.1).bind fun v26 => asB v26 fun t => bif t then (ret_ r24.2 [some (D.bool false)]) else (ret_ r24.2 [some (D.bool true)])))))))))) :=
  (ent_seg E 7 [] 400 [x0] H).trans (by kernel_rfl)
-- laws.FnExactOpsPut
theorem e8 (x0 : D) (H : Heap) :
    ent E 8 [x0] H =
    (callFn E (exec E) .pure 33 [x0, (D.int .i64 1048576)] H).bind fun r1 => (bI .lss r1.1 (D.int .i64 0)).bind fun v2 => asB v2 fun t => bif t then (ret_ r1.2 [some (D.bool true)]) else ((callFn E (exec E) .own 35 [x0] r1.2).bind fun r3 => (callFn E (exec E) .pure 34 [r3.1] r3.2).bind fun r4 => (callFn E (exec E) .own 35 [x0] r4.2).bind fun r5 => (callFn E (exec E) .pure 36 [r5.1] r5.2).bind fun r6 => (bS .neq r6.1 r4.1).bind fun v7 => asB v7 fun t => bif t then (ret_ r6.2 [some (D.bool false)]) else ((callFn E (exec E) .own 35 [x0] r6.2).bind fun r8 => (callFn E (exec E) .pure 21 [r5.1, r8.1] r8.2).bind fun r9 => (unOp .not r9.1).bind fun v10 => asB v10 fun t => bif t then (ret_ r9.2 [some (D.bool false)]) else (ret_ r9.2 [some (D.bool true)]))) :=
  (ent_seg E 8 [] 400 [x0] H).trans (by kernel_rfl)
-- laws.FnName
theorem e9 (x0 x1 : D) (H : Heap) :
    ent E 9 [x0, x1] H =
    (lnL x0).bind fun v1 => (bI .gtr v1 (D.int .i64 1048576)).bind fun v2 => asB v2 fun t => bif t then (ret_ H [some (D.bool true)]) else ((lnL x1).bind fun v3 => (bI .gtr v3 (D.int .i64 1048576)).bind fun v4 => asB v4 fun t => bif t then (ret_ H [some (D.bool true)]) else ((callFn E (exec E) .pure 37 [x0] H).bind fun r5 => (callFn E (exec E) .pure 38 [x1] r5.2).bind fun r6 => (callFn E (exec E) .pure 16 [r5.1] r6.2).bind fun r7 => (callFn E (exec E) .pure 15 [r5.1] r7.2).bind fun r8 => (bB .neq r7.1 r8.1).bind fun v9 => asB v9 fun t => bif t then (ret_ r8.2 [some (D.bool false)]) else ((callFn E (exec E) .pure 18 [r6.1] r8.2).bind fun r10 => (callFn E (exec E) .pure 17 [r6.1] r10.2).bind fun r11 => (bB .neq r10.1 r11.1).bind fun v12 => asB v12 fun t => bif t then (ret_ r11.2 [some (D.bool false)]) else ((bS .add (D.str [76]) r5.1).bind fun v13 => (bS .add v13 (D.str [59])).bind fun v14 => (callFn E (exec E) .pure 18 [v14] r11.2).bind fun r15 => (callFn E (exec E) .pure 16 [r5.1] r15.2).bind fun r16 => (bB .neq r15.1 r16.1).bind fun v17 => asB v17 fun t => bif t then (ret_ r16.2 [some (D.bool false)]) else ((bS .add (D.str [40]) r6.1).bind fun v18 => (bS .add v18 (D.str [41])).bind fun v19 => (bS .add v19 r6.1).bind fun v20 => (callFn E (exec E) .own 39 [v20] r16.2).bind fun r21 => (extract r21.1 0).bind fun v22 => (extract r21.1 1).bind fun v23 => (extract r21.1 2).bind fun v24 => J E 9 8 [r6.1, v22, v23, v24] r21.2))))) :=
  (ent_seg E 9 [8] 400 [x0, x1] H).trans (by kernel_rfl)
theorem j9_8 (x6 x7 x8 x9 : D) (H : Heap) :
    J E 9 8 [x6, x7, x8, x9] H =
    (callFn E (exec E) .pure 18 [x6] H).bind fun r25 => (bB .eql x9 r25.1).bind fun v26 => asB v26 fun t => bif t then ((unOp .not x9).bind fun v27 => asB v27 fun t => bif t then (ret_ r25.2 [some (D.bool true)]) else ((lnL x7).bind fun v28 => (bI .eql v28 (D.int .i64 1)).bind fun v29 => asB v29 fun t => bif t then ((ia 1 r25.2 x7 (D.int .i64 0)).bind fun v30 => (ld false 1 r25.2 v30).bind fun v31 => (bS .eql v31 x6).bind fun v32 => asB v32 fun t => bif t then ((bS .eql x8 x6).bind fun v33 => ret_ r25.2 [some v33]) else (ret_ r25.2 [some (D.bool false)])) else (ret_ r25.2 [some (D.bool false)]))) else (ret_ r25.2 [some (D.bool false)]) :=
  (J_seg E 9 8 [8] 400 [x6, x7, x8, x9] H).trans (by kernel_rfl)
-- laws.FnExactDescOf
theorem e10 (x0 : D) (H : Heap) :
    ent E 10 [x0] H =
    (lnS x0).bind fun v1 => (bI .gtr v1 (D.int .i64 1048576)).bind fun v2 => asB v2 fun t => bif t then (ret_ H [some (D.bool true)]) else ((callFn E (exec E) .view 40 [x0] H).bind fun r3 => (extract r3.1 0).bind fun v4 => (extract r3.1 1).bind fun v5 => (extract r3.1 2).bind fun v6 => (callFn E (exec E) .own 39 [x0] r3.2).bind fun r7 => (extract r7.1 0).bind fun v8 => (extract r7.1 1).bind fun v9 => (extract r7.1 2).bind fun v10 => (callFn E (exec E) .pure 41 [v8, v4] r7.2).bind fun r11 => (unOp .not r11.1).bind fun v12 => asB v12 fun t => bif t then (ret_ r11.2 [some (D.bool false)]) else ((bS .neq v9 v5).bind fun v13 => asB v13 fun t => bif t then (ret_ r11.2 [some (D.bool false)]) else ((bB .neq v10 v6).bind fun v14 => asB v14 fun t => bif t then (ret_ r11.2 [some (D.bool false)]) else ((callFn E (exec E) .raw 42 [v8, (D.int .i64 1)] r11.2).bind fun r15 => (callFn E (exec E) .pure 43 [v8, (D.int .i64 1)] r15.2).bind fun r16 => (bI .lss r16.1 (D.int .i64 0)).bind fun v17 => asB v17 fun t => bif t then (ret_ r16.2 [some (D.bool false)]) else ((bI .neq r16.1 r15.1).bind fun v18 => asB v18 fun t => bif t then (ret_ r16.2 [some (D.bool false)]) else ((callFn E (exec E) .own 39 [x0] r16.2).bind fun r19 => (extract r19.1 0).bind fun v20 => (extract r19.1 1).bind fun v21 => (extract r19.1 2).bind fun v22 => (callFn E (exec E) .pure 41 [v20, v4] r19.2).bind fun r23 => (unOp .not r23.1).bind fun v24 => asB v24 fun t => bif t then (ret_ r23.2 [some (D.bool false)]) else ((bS .neq v21 v5).bind fun v25 => asB v25 fun t => bif t then (ret_ r23.2 [some (D.bool false)]) else ((bB .neq v22 v6).bind fun v26 => asB v26 fun t => bif t then (ret_ r23.2 [some (D.bool false)]) else ((callFn E (exec E) .pure 43 [v8, (D.int .i64 1)] r23.2).bind fun r27 => (bI .lss r27.1 (D.int .i64 0)).bind fun v28 => asB v28 fun t => bif t then (ret_ r27.2 [some (D.bool false)]) else ((bI .neq r27.1 r15.1).bind fun v29 => asB v29 fun t => bif t then (ret_ r27.2 [some (D.bool false)]) else (ret_ r27.2 [some (D.bool true)]))))))))))) :=
  (ent_seg E 10 [] 400 [x0] H).trans (by kernel_rfl)
-- laws.FnDesc
theorem e11 (x0 : D) (H : Heap) :
    ent E 11 [x0] H =
    (lnL x0).bind fun v1 => (bI .gtr v1 (D.int .i64 1048576)).bind fun v2 => asB v2 fun t => bif t then (ret_ H [some (D.bool true)]) else ((callFn E (exec E) .pure 44 [x0] H).bind fun r3 => (callFn E (exec E) .own 39 [r3.1] r3.2).bind fun r4 => (extract r4.1 0).bind fun v5 => (extract r4.1 1).bind fun v6 => (extract r4.1 2).bind fun v7 => (callFn E (exec E) .view 40 [r3.1] r4.2).bind fun r8 => (extract r8.1 0).bind fun v9 => (extract r8.1 1).bind fun v10 => (extract r8.1 2).bind fun v11 => (bB .neq v7 v11).bind fun v12 => asB v12 fun t => bif t then ((bB .eql v7 v11).bind fun v13 => asB v13 fun t => bif t then ((bS .eql v6 v10).bind fun v14 => asB v14 fun t => bif t then ((lnL v5).bind fun v15 => (lnL v9).bind fun v16 => (bI .eql v15 v16).bind fun v17 => ret_ r8.2 [some v17]) else (ret_ r8.2 [some (D.bool false)])) else (ret_ r8.2 [some (D.bool false)])) else ((bS .neq v6 v10).bind fun v18 => asB v18 fun t => bif t then ((bB .eql v7 v11).bind fun v19 => asB v19 fun t => bif t then ((bS .eql v6 v10).bind fun v20 => asB v20 fun t => bif t then ((lnL v5).bind fun v21 => (lnL v9).bind fun v22 => (bI .eql v21 v22).bind fun v23 => ret_ r8.2 [some v23]) else (ret_ r8.2 [some (D.bool false)])) else (ret_ r8.2 [some (D.bool false)])) else ((lnL v5).bind fun v24 => (lnL v9).bind fun v25 => (bI .neq v24 v25).bind fun v26 => asB v26 fun t => bif t then ((bB .eql v7 v11).bind fun v27 => asB v27 fun t => bif t then ((bS .eql v6 v10).bind fun v28 => asB v28 fun t => bif t then ((lnL v5).bind fun v29 => (lnL v9).bind fun v30 => (bI .eql v29 v30).bind fun v31 => ret_ r8.2 [some v31]) else (ret_ r8.2 [some (D.bool false)])) else (ret_ r8.2 [some (D.bool false)])) else ((unOp .not v7).bind fun v32 => asB v32 fun t => bif t then ((bB .eql v7 v11).bind fun v33 => asB v33 fun t => bif t then ((bS .eql v6 v10).bind fun v34 => asB v34 fun t => bif t then ((lnL v5).bind fun v35 => (lnL v9).bind fun v36 => (bI .eql v35 v36).bind fun v37 => ret_ r8.2 [some v37]) else (ret_ r8.2 [some (D.bool false)])) else (ret_ r8.2 [some (D.bool false)])) else (J E 11 10 [r3.1, v5, v6, v9, (D.str [40]), (D.int .i64 0)] r8.2))))) :=
  (ent_seg E 11 [10] 400 [x0] H).trans (by kernel_rfl)
theorem j11_10 (x3 x4 x5 x7 x10 x11 : D) (H : Heap) :
    J E 11 10 [x3, x4, x5, x7, x10, x11] H =
    (lnL x4).bind fun v38 => (bI .lss x11 v38).bind fun v39 => asB v39 fun t => bif t then ((ia 1 H x4 x11).bind fun v40 => (ld false 1 H v40).bind fun v41 => (ia 1 H x7 x11).bind fun v42 => (ld false 1 H v42).bind fun v43 => (bS .neq v41 v43).bind fun v44 => asB v44 fun t => bif t then (ret_ H [some (D.bool false)]) else ((ia 1 H x4 x11).bind fun v45 => (ld false 1 H v45).bind fun v46 => (callFn E (exec E) .pure 18 [v46] H).bind fun r47 => (unOp .not r47.1).bind fun v48 => asB v48 fun t => bif t then (ret_ r47.2 [some (D.bool false)]) else ((ia 1 r47.2 x4 x11).bind fun v49 => (ld false 1 r47.2 v49).bind fun v50 => (bS .add x10 v50).bind fun v51 => (bI .add x11 (D.int .i64 1)).bind fun v52 => J E 11 10 [x3, x4, x5, x7, v51, v52] r47.2))) else ((bS .add x10 (D.str [41])).bind fun v53 => (bS .add v53 x5).bind fun v54 => (bS .eql v54 x3).bind fun v55 => asB v55 fun t => bif t then ((bS .eql x5 (D.str [86])).bind fun v56 => asB v56 fun t => bif t then ((lnL x4).bind fun v57 => (bI .leq v57 (D.int .i64 4)).bind fun v58 => ret_ H [some v58]) else ((callFn E (exec E) .pure 18 [x5] H).bind fun r59 => asB r59.1 fun t => bif t then ((lnL x4).bind fun v60 => (bI .leq v60 (D.int .i64 4)).bind fun v61 => ret_ r59.2 [some v61]) else (ret_ r59.2 [some (D.bool false)]))) else (ret_ H [some (D.bool false)])) :=
  (J_seg E 11 10 [10] 400 [x3, x4, x5, x7, x10, x11] H).trans (by kernel_rfl)
-- laws.FnExactPathMaker
theorem e12 (x0 x1 x2 : D) (H : Heap) :
    ent E 12 [x0, x1, x2] H =
    (lnS x2).bind fun v1 => (bI .gtr v1 (D.int .i64 1048576)).bind fun v2 => asB v2 fun t => bif t then (ret_ H [some (D.bool true)]) else ((callFn E (exec E) .pure 45 [x0, (D.int .i64 1048576)] H).bind fun r3 => (bI .lss r3.1 (D.int .i64 0)).bind fun v4 => asB v4 fun t => bif t then (ret_ r3.2 [some (D.bool true)]) else ((callFn E (exec E) .own 47 [x0] r3.2).bind fun r5 => (callFn E (exec E) .pure 46 [r5.1, x1, x2] r5.2).bind fun r6 => (callFn E (exec E) .own 47 [x0] r6.2).bind fun r7 => (callFn E (exec E) .pure 48 [r7.1, x1, x2] r7.2).bind fun r8 => (bI .neq r8.1 r6.1).bind fun v9 => asB v9 fun t => bif t then (ret_ r8.2 [some (D.bool false)]) else ((callFn E (exec E) .own 47 [x0] r8.2).bind fun r10 => (callFn E (exec E) .pure 49 [r7.1, r10.1] r10.2).bind fun r11 => (unOp .not r11.1).bind fun v12 => asB v12 fun t => bif t then (ret_ r11.2 [some (D.bool false)]) else (ret_ r11.2 [some (D.bool true)])))) :=
  (ent_seg E 12 [] 400 [x0, x1, x2] H).trans (by kernel_rfl)
-- laws.FnExactPathSame
theorem e13 (x0 x1 x2 x3 : D) (H : Heap) :
    ent E 13 [x0, x1, x2, x3] H =
    (lnS x3).bind fun v1 => (bI .gtr v1 (D.int .i64 1048576)).bind fun v2 => asB v2 fun t => bif t then (ret_ H [some (D.bool true)]) else ((callFn E (exec E) .pure 45 [x0, (D.int .i64 1048576)] H).bind fun r3 => (bI .lss r3.1 (D.int .i64 0)).bind fun v4 => asB v4 fun t => bif t then (ret_ r3.2 [some (D.bool true)]) else ((callFn E (exec E) .own 47 [x0] r3.2).bind fun r5 => (callFn E (exec E) .pure 50 [r5.1, x1, x2, x3] r5.2).bind fun r6 => (callFn E (exec E) .own 47 [x0] r6.2).bind fun r7 => (callFn E (exec E) .pure 51 [r7.1, x1, x2, x3] r7.2).bind fun r8 => (bB .neq r8.1 r6.1).bind fun v9 => asB v9 fun t => bif t then (ret_ r8.2 [some (D.bool false)]) else ((callFn E (exec E) .own 47 [x0] r8.2).bind fun r10 => (callFn E (exec E) .pure 49 [r7.1, r10.1] r10.2).bind fun r11 => (unOp .not r11.1).bind fun v12 => asB v12 fun t => bif t then (ret_ r11.2 [some (D.bool false)]) else (ret_ r11.2 [some (D.bool true)])))) :=
  (ent_seg E 13 [] 400 [x0, x1, x2, x3] H).trans (by kernel_rfl)
-- laws.FnExactPoolCheck
theorem e14 (x0 : D) (H : Heap) :
    ent E 14 [x0] H =
    (callFn E (exec E) .pure 52 [x0, (D.int .i64 1048576)] H).bind fun r1 => (bI .lss r1.1 (D.int .i64 0)).bind fun v2 => asB v2 fun t => bif t then (ret_ r1.2 [some (D.bool true)]) else ((callFn E (exec E) .own 54 [x0] r1.2).bind fun r3 => (callFn E (exec E) .pure 53 [r3.1] r3.2).bind fun r4 => (callFn E (exec E) .own 54 [x0] r4.2).bind fun r5 => (callFn E (exec E) .pure 55 [r5.1] r5.2).bind fun r6 => (bI .neq r6.1 r4.1).bind fun v7 => asB v7 fun t => bif t then (ret_ r6.2 [some (D.bool false)]) else ((callFn E (exec E) .own 54 [x0] r6.2).bind fun r8 => (callFn E (exec E) .pure 56 [r5.1, r8.1] r8.2).bind fun r9 => (unOp .not r9.1).bind fun v10 => asB v10 fun t => bif t then (ret_ r9.2 [some (D.bool false)]) else (ret_ r9.2 [some (D.bool true)]))) :=
  (ent_seg E 14 [] 400 [x0] H).trans (by kernel_rfl)
-- spec.NameOk
theorem e15 (x0 : D) (H : Heap) :
    ent E 15 [x0] H =
    (callFn E (exec E) .pure 57 [x0] H).bind fun r1 => ret_ r1.2 [some r1.1] :=
  (ent_seg E 15 [] 400 [x0] H).trans (by kernel_rfl)
-- impl.NameOk
theorem e16 (x0 : D) (H : Heap) :
    ent E 16 [x0] H =
    (lnS x0).bind fun v1 => (callFn E (exec E) .pure 58 [v1, (D.int .i64 1), (D.int .i64 8)] H).bind fun r2 => (unOp .not r2.1).bind fun v3 => asB v3 fun t => bif t then (ret_ r2.2 [some (D.bool false)]) else ((ix x0 (D.int .i64 0)).bind fun v4 => (bI .geq v4 (D.int .u8 48)).bind fun v5 => asB v5 fun t => bif t then ((ix x0 (D.int .i64 0)).bind fun v6 => (bI .leq v6 (D.int .u8 57)).bind fun v7 => asB v7 fun t => bif t then (ret_ r2.2 [some (D.bool false)]) else ((lnS x0).bind fun v8 => J E 16 4 [x0, v8, (D.int .i64 0)] r2.2)) else ((lnS x0).bind fun v9 => J E 16 4 [x0, v9, (D.int .i64 0)] r2.2)) :=
  (ent_seg E 16 [4] 400 [x0] H).trans (by kernel_rfl)
theorem j16_4 (x0 x20 x21 : D) (H : Heap) :
    J E 16 4 [x0, x20, x21] H =
    (bI .lss x21 x20).bind fun v10 => asB v10 fun t => bif t then ((ix x0 x21).bind fun v11 => (bI .geq v11 (D.int .u8 97)).bind fun v12 => asB v12 fun t => bif t then ((bI .leq v11 (D.int .u8 122)).bind fun v13 => asB v13 fun t => bif t then ((unOp .not (D.bool true)).bind fun v14 => asB v14 fun t => bif t then (ret_ H [some (D.bool false)]) else ((bI .add x21 (D.int .i64 1)).bind fun v15 => J E 16 4 [x0, x20, v15] H)) else ((bI .geq v11 (D.int .u8 65)).bind fun v16 => asB v16 fun t => bif t then ((bI .leq v11 (D.int .u8 90)).bind fun v17 => asB v17 fun t => bif t then ((unOp .not (D.bool true)).bind fun v18 => asB v18 fun t => bif t then (ret_ H [some (D.bool false)]) else ((bI .add x21 (D.int .i64 1)).bind fun v19 => J E 16 4 [x0, x20, v19] H)) else ((bI .geq v11 (D.int .u8 48)).bind fun v20 => asB v20 fun t => bif t then ((bI .leq v11 (D.int .u8 57)).bind fun v21 => (unOp .not v21).bind fun v22 => asB v22 fun t => bif t then (ret_ H [some (D.bool false)]) else ((bI .add x21 (D.int .i64 1)).bind fun v23 => J E 16 4 [x0, x20, v23] H)) else ((unOp .not (D.bool false)).bind fun v24 => asB v24 fun t => bif t then (ret_ H [some (D.bool false)]) else ((bI .add x21 (D.int .i64 1)).bind fun v25 => J E 16 4 [x0, x20, v25] H)))) else ((bI .geq v11 (D.int .u8 48)).bind fun v26 => asB v26 fun t => bif t then ((bI .leq v11 (D.int .u8 57)).bind fun v27 => (unOp .not v27).bind fun v28 => asB v28 fun t => bif t then (ret_ H [some (D.bool false)]) else ((bI .add x21 (D.int .i64 1)).bind fun v29 => J E 16 4 [x0, x20, v29] H)) else ((unOp .not (D.bool false)).bind fun v30 => asB v30 fun t => bif t then (ret_ H [some (D.bool false)]) else ((bI .add x21 (D.int .i64 1)).bind fun v31 => J E 16 4 [x0, x20, v31] H))))) else ((bI .geq v11 (D.int .u8 65)).bind fun v32 => asB v32 fun t => bif t then ((bI .leq v11 (D.int .u8 90)).bind fun v33 => asB v33 fun t => bif t then ((unOp .not (D.bool true)).bind fun v34 => asB v34 fun t => bif t then (ret_ H [some (D.bool false)]) else ((bI .add x21 (D.int .i64 1)).bind fun v35 => J E 16 4 [x0, x20, v35] H)) else ((bI .geq v11 (D.int .u8 48)).bind fun v36 => asB v36 fun t => bif t then ((bI .leq v11 (D.int .u8 57)).bind fun v37 => (unOp .not v37).bind fun v38 => asB v38 fun t => bif t then (ret_ H [some (D.bool false)]) else ((bI .add x21 (D.int .i64 1)).bind fun v39 => J E 16 4 [x0, x20, v39] H)) else ((unOp .not (D.bool false)).bind fun v40 => asB v40 fun t => bif t then (ret_ H [some (D.bool false)]) else ((bI .add x21 (D.int .i64 1)).bind fun v41 => J E 16 4 [x0, x20, v41] H)))) else ((bI .geq v11 (D.int .u8 48)).bind fun v42 => asB v42 fun t => bif t then ((bI .leq v11 (D.int .u8 57)).bind fun v43 => (unOp .not v43).bind fun v44 => asB v44 fun t => bif t then (ret_ H [some (D.bool false)]) else ((bI .add x21 (D.int .i64 1)).bind fun v45 => J E 16 4 [x0, x20, v45] H)) else ((unOp .not (D.bool false)).bind fun v46 => asB v46 fun t => bif t then (ret_ H [some (D.bool false)]) else ((bI .add x21 (D.int .i64 1)).bind fun v47 => J E 16 4 [x0, x20, v47] H))))) else (ret_ H [some (D.bool true)]) :=
  (J_seg E 16 4 [4] 400 [x0, x20, x21] H).trans (by kernel_rfl)
-- spec.TypeOk
theorem e17 (x0 : D) (H : Heap) :
    ent E 17 [x0] H =
    (callFn E (exec E) .pure 59 [x0] H).bind fun r1 => ret_ r1.2 [some r1.1] :=
  (ent_seg E 17 [] 400 [x0] H).trans (by kernel_rfl)
-- impl.TypeOk
theorem e18 (x0 : D) (H : Heap) :
    ent E 18 [x0] H =
    (callFn E (exec E) .pure 60 [x0] H).bind fun r1 => (extract r1.1 0).bind fun v2 => (extract r1.1 1).bind fun v3 => asB v3 fun t => bif t then (ret_ r1.2 [some (D.bool true)]) else ((bS .eql x0 (D.str [73])).bind fun v4 => ret_ r1.2 [some v4]) :=
  (ent_seg E 18 [] 400 [x0] H).trans (by kernel_rfl)
-- spec.OpsGet
theorem e19 (x0 : D) (H : Heap) :
    ent E 19 [x0] H =
    (lnS x0).bind fun v1 => (bI .gtr v1 (D.int .i64 120)).bind fun v2 => asB v2 fun t => bif t then (ret_ H [some D.sl0, some (D.bool false)]) else ((callFn E (exec E) .view 61 [x0] H).bind fun r3 => (extract r3.1 0).bind fun v4 => (extract r3.1 1).bind fun v5 => (unOp .not v5).bind fun v6 => asB v6 fun t => bif t then (ret_ r3.2 [some D.sl0, some (D.bool false)]) else (ret_ r3.2 [some v4, some (D.bool true)])) :=
  (ent_seg E 19 [] 400 [x0] H).trans (by kernel_rfl)
-- impl.OpsGet
theorem e20 (x0 : D) (H : Heap) :
    ent E 20 [x0] H =
    (lnS x0).bind fun v1 => (callFn E (exec E) .pure 58 [v1, (D.int .i64 1), (D.int .i64 120)] H).bind fun r2 => (unOp .not r2.1).bind fun v3 => asB v3 fun t => bif t then (ret_ r2.2 [some D.sl0, some (D.bool false)]) else (J E 20 5 [x0, D.sl0, (D.int .i64 0)] r2.2) :=
  (ent_seg E 20 [5, 11, 17] 400 [x0] H).trans (by kernel_rfl)
theorem j20_5 (x0 x4 x5 : D) (H : Heap) :
    J E 20 5 [x0, x4, x5] H =
    (lnS x0).bind fun v4 => (bI .lss x5 v4).bind fun v5 => asB v5 fun t => bif t then ((ix x0 x5).bind fun v6 => (cI .i64 v6).bind fun v7 => (bld [.int .i64 0, .int .i64 0, .int .i64 0] [(0, 1, false), (1, 1, false), (2, 1, false)] [(0, x5), (1, v7)]).bind fun v8 => alloc_ H [.int .i64 0, .int .i64 0, .int .i64 0] fun p9 H9 => (st 3 H9 p9 v8).bind fun H10 => (fa 1 p9).bind fun v11 => (ld false 1 H10 v11).bind fun v12 => (callFn E (exec E) .pure 62 [v12] H10).bind fun r13 => (bI .lss r13.1 (D.int .i64 0)).bind fun v14 => asB v14 fun t => bif t then (ret_ r13.2 [some D.sl0, some (D.bool false)]) else ((lnS x0).bind fun v15 => (bI .sub v15 x5).bind fun v16 => (bI .geq r13.1 v16).bind fun v17 => asB v17 fun t => bif t then (ret_ r13.2 [some D.sl0, some (D.bool false)]) else ((bI .add x5 (D.int .i64 1)).bind fun v18 => (bI .add x5 (D.int .i64 1)).bind fun v19 => (bI .add v19 r13.1).bind fun v20 => (slS x0 (some v18) (some v20) none).bind fun v21 => (cSB r13.2 v21).bind fun r22 => (lnL r22.1).bind fun v23 => J E 20 11 [x0, x4, x5, p9, r13.1, r22.1, v23, (D.int .i64 0)] r22.2))) else (ret_ H [some x4, some (D.bool true)]) :=
  (J_seg E 20 5 [5, 11, 17] 400 [x0, x4, x5] H).trans (by kernel_rfl)
theorem j20_11 (x0 x4 x5 x6 x7 x45 x46 x47 : D) (H : Heap) :
    J E 20 11 [x0, x4, x5, x6, x7, x45, x46, x47] H =
    (bI .lss x47 x46).bind fun v24 => asB v24 fun t => bif t then ((ia 1 H x45 x47).bind fun v25 => (ld false 1 H v25).bind fun v26 => (fa 2 x6).bind fun v27 => (ld false 1 H v27).bind fun v28 => (bI .mul (D.int .i64 256) v28).bind fun v29 => (cI .i64 v26).bind fun v30 => (bI .add v29 v30).bind fun v31 => (fa 2 x6).bind fun v32 => (st 1 H v32 v31).bind fun H33 => (bI .add x47 (D.int .i64 1)).bind fun v34 => J E 20 11 [x0, x4, x5, x6, x7, x45, x46, v34] H33) else ((fa 1 x6).bind fun v35 => (ld false 1 H v35).bind fun v36 => (bI .eql v36 (D.int .i64 1)).bind fun v37 => asB v37 fun t => bif t then ((fa 2 x6).bind fun v38 => (ld false 1 H v38).bind fun v39 => (bI .gtr v39 (D.int .i64 32767)).bind fun v40 => asB v40 fun t => bif t then ((fa 2 x6).bind fun v41 => (ld false 1 H v41).bind fun v42 => (bI .sub v42 (D.int .i64 65536)).bind fun v43 => (fa 2 x6).bind fun v44 => (st 1 H v44 v43).bind fun H45 => J E 20 17 [x0, x4, x5, x6, x7] H45) else (J E 20 17 [x0, x4, x5, x6, x7] H)) else (J E 20 17 [x0, x4, x5, x6, x7] H)) :=
  (J_seg E 20 11 [5, 11, 17] 400 [x0, x4, x5, x6, x7, x45, x46, x47] H).trans (by kernel_rfl)
theorem j20_17 (x0 x4 x5 x6 x7 : D) (H : Heap) :
    J E 20 17 [x0, x4, x5, x6, x7] H =
    (ld true 3 H x6).bind fun v46 => (bsl 3 [.int .i64 0, .int .i64 0, .int .i64 0] H 1 [(0, v46)]).bind fun r47 => (app 3 24 r47.2 x4 r47.1).bind fun r48 => (bI .add (D.int .i64 1) x7).bind fun v49 => (bI .add x5 v49).bind fun v50 => J E 20 5 [x0, r48.1, v50] r48.2 :=
  (J_seg E 20 17 [5, 11, 17] 400 [x0, x4, x5, x6, x7] H).trans (by kernel_rfl)
-- laws.eqInsS
theorem e21 (x0 x1 : D) (H : Heap) :
    ent E 21 [x0, x1] H =
    (lnL x0).bind fun v1 => (lnL x1).bind fun v2 => (bI .neq v1 v2).bind fun v3 => asB v3 fun t => bif t then (ret_ H [some (D.bool false)]) else (J E 21 4 [x0, x1, (D.int .i64 0)] H) :=
  (ent_seg E 21 [4] 400 [x0, x1] H).trans (by kernel_rfl)
theorem j21_4 (x0 x1 x5 : D) (H : Heap) :
    J E 21 4 [x0, x1, x5] H =
    (lnL x0).bind fun v4 => (bI .lss x5 v4).bind fun v5 => asB v5 fun t => bif t then ((ia 3 H x0 x5).bind fun v6 => (ld true 3 H v6).bind fun v7 => (ia 3 H x1 x5).bind fun v8 => (ld true 3 H v8).bind fun v9 => (callFn E (exec E) .pure 63 [v7, v9] H).bind fun r10 => (unOp .not r10.1).bind fun v11 => asB v11 fun t => bif t then (ret_ r10.2 [some (D.bool false)]) else ((bI .add x5 (D.int .i64 1)).bind fun v12 => J E 21 4 [x0, x1, v12] r10.2)) else (ret_ H [some (D.bool true)]) :=
  (J_seg E 21 4 [4] 400 [x0, x1, x5] H).trans (by kernel_rfl)
-- laws.markInsS
theorem e22 (x0 x1 : D) (H : Heap) :
    ent E 22 [x0, x1] H =
    J E 22 2 [x0, x1, (D.int .i64 0)] H :=
  (ent_seg E 22 [2] 400 [x0, x1] H).trans (by kernel_rfl)
theorem j22_2 (x0 x1 x5 : D) (H : Heap) :
    J E 22 2 [x0, x1, x5] H =
    (lnL x0).bind fun v1 => (bI .lss x5 v1).bind fun v2 => asB v2 fun t => bif t then ((ia 3 H x0 x5).bind fun v3 => (fa 0 v3).bind fun v4 => (st 1 H v4 x1).bind fun H5 => (bI .add x1 (D.int .i64 1)).bind fun v6 => (ia 3 H5 x0 x5).bind fun v7 => (fa 1 v7).bind fun v8 => (st 1 H5 v8 v6).bind fun H9 => (bI .add v6 (D.int .i64 1)).bind fun v10 => (ia 3 H9 x0 x5).bind fun v11 => (fa 2 v11).bind fun v12 => (st 1 H9 v12 v10).bind fun H13 => (bI .add v10 (D.int .i64 1)).bind fun v14 => (bI .add x5 (D.int .i64 1)).bind fun v15 => J E 22 2 [x0, v14, v15] H13) else (ret_ H [some x1]) :=
  (J_seg E 22 2 [2] 400 [x0, x1, x5] H).trans (by kernel_rfl)
-- laws.heldInsS
theorem e23 (x0 x1 : D) (H : Heap) :
    ent E 23 [x0, x1] H =
    J E 23 2 [x0, x1, (D.int .i64 0)] H :=
  (ent_seg E 23 [2] 400 [x0, x1] H).trans (by kernel_rfl)
theorem j23_2 (x0 x1 x5 : D) (H : Heap) :
    J E 23 2 [x0, x1, x5] H =
    (lnL x0).bind fun v1 => (bI .lss x5 v1).bind fun v2 => asB v2 fun t => bif t then ((ia 3 H x0 x5).bind fun v3 => (fa 0 v3).bind fun v4 => (ld false 1 H v4).bind fun v5 => (bI .neq v5 x1).bind fun v6 => asB v6 fun t => bif t then (ret_ H [some (D.int .i64 (-1))]) else ((bI .add x1 (D.int .i64 1)).bind fun v7 => (ia 3 H x0 x5).bind fun v8 => (fa 1 v8).bind fun v9 => (ld false 1 H v9).bind fun v10 => (bI .neq v10 v7).bind fun v11 => asB v11 fun t => bif t then (ret_ H [some (D.int .i64 (-1))]) else ((bI .add v7 (D.int .i64 1)).bind fun v12 => (ia 3 H x0 x5).bind fun v13 => (fa 2 v13).bind fun v14 => (ld false 1 H v14).bind fun v15 => (bI .neq v15 v12).bind fun v16 => asB v16 fun t => bif t then (ret_ H [some (D.int .i64 (-1))]) else ((bI .add v12 (D.int .i64 1)).bind fun v17 => (bI .add x5 (D.int .i64 1)).bind fun v18 => J E 23 2 [x0, v17, v18] H)))) else (ret_ H [some x1]) :=
  (J_seg E 23 2 [2] 400 [x0, x1, x5] H).trans (by kernel_rfl)
-- laws.szLineS
theorem e24 (x0 x1 : D) (H : Heap) :
    ent E 24 [x0, x1] H =
    (lnL x0).bind fun v1 => (bI .sub x1 v1).bind fun v2 => (bI .lss v2 (D.int .i64 0)).bind fun v3 => asB v3 fun t => bif t then (ret_ H [some (D.int .i64 (-1))]) else (J E 24 5 [x0, v2, (D.int .i64 0)] H) :=
  (ent_seg E 24 [5] 400 [x0, x1] H).trans (by kernel_rfl)
theorem j24_5 (x0 x1 x5 : D) (H : Heap) :
    J E 24 5 [x0, x1, x5] H =
    (lnL x0).bind fun v4 => (bI .lss x5 v4).bind fun v5 => asB v5 fun t => bif t then ((ia 6 H x0 x5).bind fun v6 => (ld true 6 H v6).bind fun v7 => (callFn E (exec E) .pure 64 [v7, x1] H).bind fun r8 => (bI .lss r8.1 (D.int .i64 0)).bind fun v9 => asB v9 fun t => bif t then (ret_ r8.2 [some (D.int .i64 (-1))]) else ((bI .add x5 (D.int .i64 1)).bind fun v10 => J E 24 5 [x0, r8.1, v10] r8.2)) else (ret_ H [some x1]) :=
  (J_seg E 24 5 [5] 400 [x0, x1, x5] H).trans (by kernel_rfl)
-- spec.TraceMost
theorem e25 (x0 : D) (H : Heap) :
    ent E 25 [x0] H =
    (callFn E (exec E) .view 65 [] H).bind fun r1 => (lnL r1.1).bind fun v2 => (mks 8 [.int .i64 0] r1.2 v2 v2).bind fun r3 => J E 25 3 [x0, r3.1, (D.int .i64 0)] r3.2 :=
  (ent_seg E 25 [3, 4] 400 [x0] H).trans (by kernel_rfl)
theorem j25_3 (x0 x3 x4 : D) (H : Heap) :
    J E 25 3 [x0, x3, x4] H =
    (lnL x0).bind fun v4 => (bI .lss x4 v4).bind fun v5 => asB v5 fun t => bif t then ((ia 6 H x0 x4).bind fun v6 => (fa 4 v6).bind fun v7 => (ld false 1 H v7).bind fun v8 => (lnL x3).bind fun v9 => (bI .sub v9 (D.int .i64 1)).bind fun v10 => (callFn E (exec E) .pure 66 [v8, (D.int .i64 0), v10] H).bind fun r11 => asB r11.1 fun t => bif t then ((ia 6 r11.2 x0 x4).bind fun v12 => (fa 4 v12).bind fun v13 => (ld false 1 r11.2 v13).bind fun v14 => (ia 6 r11.2 x0 x4).bind fun v15 => (fa 4 v15).bind fun v16 => (ld false 1 r11.2 v16).bind fun v17 => (ia 1 r11.2 x3 v17).bind fun v18 => (ld false 1 r11.2 v18).bind fun v19 => (bI .add v19 (D.int .i64 1)).bind fun v20 => (ia 1 r11.2 x3 v14).bind fun v21 => (st 1 r11.2 v21 v20).bind fun H22 => J E 25 4 [x0, x3, x4] H22) else (J E 25 4 [x0, x3, x4] r11.2)) else (ret_ H [some x3]) :=
  (J_seg E 25 3 [3, 4] 400 [x0, x3, x4] H).trans (by kernel_rfl)
theorem j25_4 (x0 x3 x4 : D) (H : Heap) :
    J E 25 4 [x0, x3, x4] H =
    (bI .add x4 (D.int .i64 1)).bind fun v23 => J E 25 3 [x0, x3, v23] H :=
  (J_seg E 25 4 [3, 4] 400 [x0, x3, x4] H).trans (by kernel_rfl)
-- laws.toLineS
theorem e26 (x0 : D) (H : Heap) :
    ent E 26 [x0] H =
    (lnL x0).bind fun v1 => (mks 64 [.int .i64 0, .str [], .str [], .int .i64 0, .int .i64 0, .int .i64 0] H v1 v1).bind fun r2 => J E 26 3 [x0, r2.1, (D.int .i64 0)] r2.2 :=
  (ent_seg E 26 [3] 400 [x0] H).trans (by kernel_rfl)
theorem j26_3 (x0 x3 x4 : D) (H : Heap) :
    J E 26 3 [x0, x3, x4] H =
    (lnL x0).bind fun v3 => (bI .lss x4 v3).bind fun v4 => asB v4 fun t => bif t then ((ia 6 H x0 x4).bind fun v5 => (ld true 6 H v5).bind fun v6 => (callFn E (exec E) .pure 67 [v6] H).bind fun r7 => (ia 6 r7.2 x3 x4).bind fun v8 => (st 6 r7.2 v8 r7.1).bind fun H9 => (bI .add x4 (D.int .i64 1)).bind fun v10 => J E 26 3 [x0, x3, v10] H9) else (ret_ H [some x3]) :=
  (J_seg E 26 3 [3] 400 [x0, x3, x4] H).trans (by kernel_rfl)
-- impl.TraceMost
theorem e27 (x0 : D) (H : Heap) :
    ent E 27 [x0] H =
    (mks 8 [.int .i64 0] H (D.int .i64 35) (D.int .i64 35)).bind fun r1 => (lnL x0).bind fun v2 => J E 27 3 [r1.1, x0, v2, (D.int .i64 0)] r1.2 :=
  (ent_seg E 27 [3, 7] 400 [x0] H).trans (by kernel_rfl)
theorem j27_3 (x3 x7 x8 x9 : D) (H : Heap) :
    J E 27 3 [x3, x7, x8, x9] H =
    (bI .lss x9 x8).bind fun v3 => asB v3 fun t => bif t then ((ia 6 H x7 x9).bind fun v4 => (ld true 6 H v4).bind fun v5 => alloc_ H [.int .i64 0, .str [], .str [], .int .i64 0, .int .i64 0, .int .i64 0] fun p6 H6 => (st 6 H6 p6 v5).bind fun H7 => (fa 4 p6).bind fun v8 => (ld false 1 H7 v8).bind fun v9 => (callFn E (exec E) .pure 58 [v9, (D.int .i64 0), (D.int .i64 34)] H7).bind fun r10 => asB r10.1 fun t => bif t then ((fa 4 p6).bind fun v11 => (ld false 1 r10.2 v11).bind fun v12 => (ia 1 r10.2 x3 v12).bind fun v13 => (ld false 1 r10.2 v13).bind fun v14 => (bI .add v14 (D.int .i64 1)).bind fun v15 => (ia 1 r10.2 x3 v12).bind fun v16 => (st 1 r10.2 v16 v15).bind fun H17 => J E 27 7 [x3, x7, x8, x9] H17) else (J E 27 7 [x3, x7, x8, x9] r10.2)) else (ret_ H [some x3]) :=
  (J_seg E 27 3 [3, 7] 400 [x3, x7, x8, x9] H).trans (by kernel_rfl)
theorem j27_7 (x3 x7 x8 x9 : D) (H : Heap) :
    J E 27 7 [x3, x7, x8, x9] H =
    (bI .add x9 (D.int .i64 1)).bind fun v18 => J E 27 3 [x3, x7, x8, v18] H :=
  (J_seg E 27 7 [3, 7] 400 [x3, x7, x8, x9] H).trans (by kernel_rfl)
-- laws.eqIntS
theorem e28 (x0 x1 : D) (H : Heap) :
    ent E 28 [x0, x1] H =
    (lnL x0).bind fun v1 => (lnL x1).bind fun v2 => (bI .neq v1 v2).bind fun v3 => asB v3 fun t => bif t then (ret_ H [some (D.bool false)]) else (J E 28 4 [x0, x1, (D.int .i64 0)] H) :=
  (ent_seg E 28 [4] 400 [x0, x1] H).trans (by kernel_rfl)
theorem j28_4 (x0 x1 x5 : D) (H : Heap) :
    J E 28 4 [x0, x1, x5] H =
    (lnL x0).bind fun v4 => (bI .lss x5 v4).bind fun v5 => asB v5 fun t => bif t then ((ia 1 H x0 x5).bind fun v6 => (ld false 1 H v6).bind fun v7 => (ia 1 H x1 x5).bind fun v8 => (ld false 1 H v8).bind fun v9 => (bI .neq v7 v9).bind fun v10 => asB v10 fun t => bif t then (ret_ H [some (D.bool false)]) else ((bI .add x5 (D.int .i64 1)).bind fun v11 => J E 28 4 [x0, x1, v11] H)) else (ret_ H [some (D.bool true)]) :=
  (J_seg E 28 4 [4] 400 [x0, x1, x5] H).trans (by kernel_rfl)
-- laws.eqLineS
theorem e29 (x0 x1 : D) (H : Heap) :
    ent E 29 [x0, x1] H =
    (lnL x0).bind fun v1 => (lnL x1).bind fun v2 => (bI .neq v1 v2).bind fun v3 => asB v3 fun t => bif t then (ret_ H [some (D.bool false)]) else (J E 29 4 [x0, x1, (D.int .i64 0)] H) :=
  (ent_seg E 29 [4] 400 [x0, x1] H).trans (by kernel_rfl)
theorem j29_4 (x0 x1 x5 : D) (H : Heap) :
    J E 29 4 [x0, x1, x5] H =
    (lnL x0).bind fun v4 => (bI .lss x5 v4).bind fun v5 => asB v5 fun t => bif t then ((ia 6 H x0 x5).bind fun v6 => (ld true 6 H v6).bind fun v7 => (ia 6 H x1 x5).bind fun v8 => (ld true 6 H v8).bind fun v9 => (callFn E (exec E) .pure 68 [v7, v9] H).bind fun r10 => (unOp .not r10.1).bind fun v11 => asB v11 fun t => bif t then (ret_ r10.2 [some (D.bool false)]) else ((bI .add x5 (D.int .i64 1)).bind fun v12 => J E 29 4 [x0, x1, v12] r10.2)) else (ret_ H [some (D.bool true)]) :=
  (J_seg E 29 4 [4] 400 [x0, x1, x5] H).trans (by kernel_rfl)
-- laws.markLineS
theorem e30 (x0 x1 : D) (H : Heap) :
    ent E 30 [x0, x1] H =
    J E 30 2 [x0, x1, (D.int .i64 0)] H :=
  (ent_seg E 30 [2] 400 [x0, x1] H).trans (by kernel_rfl)
theorem j30_2 (x0 x1 x5 : D) (H : Heap) :
    J E 30 2 [x0, x1, x5] H =
    (lnL x0).bind fun v1 => (bI .lss x5 v1).bind fun v2 => asB v2 fun t => bif t then ((ia 6 H x0 x5).bind fun v3 => (fa 0 v3).bind fun v4 => (st 1 H v4 x1).bind fun H5 => (bI .add x1 (D.int .i64 1)).bind fun v6 => (callFn E (exec E) .pure 69 [v6] H5).bind fun r7 => (ia 6 r7.2 x0 x5).bind fun v8 => (fa 1 v8).bind fun v9 => (st 1 r7.2 v9 r7.1).bind fun H10 => (bI .add v6 (D.int .i64 1)).bind fun v11 => (callFn E (exec E) .pure 69 [v11] H10).bind fun r12 => (ia 6 r12.2 x0 x5).bind fun v13 => (fa 2 v13).bind fun v14 => (st 1 r12.2 v14 r12.1).bind fun H15 => (bI .add v11 (D.int .i64 1)).bind fun v16 => (ia 6 H15 x0 x5).bind fun v17 => (fa 3 v17).bind fun v18 => (st 1 H15 v18 v16).bind fun H19 => (bI .add v16 (D.int .i64 1)).bind fun v20 => (ia 6 H19 x0 x5).bind fun v21 => (fa 4 v21).bind fun v22 => (st 1 H19 v22 v20).bind fun H23 => (bI .add v20 (D.int .i64 1)).bind fun v24 => (ia 6 H23 x0 x5).bind fun v25 => (fa 5 v25).bind fun v26 => (st 1 H23 v26 v24).bind fun H27 => (bI .add v24 (D.int .i64 1)).bind fun v28 => (bI .add x5 (D.int .i64 1)).bind fun v29 => J E 30 2 [x0, v28, v29] H27) else (ret_ H [some x1]) :=
  (J_seg E 30 2 [2] 400 [x0, x1, x5] H).trans (by kernel_rfl)
-- laws.markIntS
theorem e31 (x0 x1 : D) (H : Heap) :
    ent E 31 [x0, x1] H =
    J E 31 2 [x0, x1, (D.int .i64 0)] H :=
  (ent_seg E 31 [2] 400 [x0, x1] H).trans (by kernel_rfl)
theorem j31_2 (x0 x1 x5 : D) (H : Heap) :
    J E 31 2 [x0, x1, x5] H =
    (lnL x0).bind fun v1 => (bI .lss x5 v1).bind fun v2 => asB v2 fun t => bif t then ((ia 1 H x0 x5).bind fun v3 => (st 1 H v3 x1).bind fun H4 => (bI .add x1 (D.int .i64 1)).bind fun v5 => (bI .add x5 (D.int .i64 1)).bind fun v6 => J E 31 2 [x0, v5, v6] H4) else (ret_ H [some x1]) :=
  (J_seg E 31 2 [2] 400 [x0, x1, x5] H).trans (by kernel_rfl)
-- laws.heldIntS
theorem e32 (x0 x1 : D) (H : Heap) :
    ent E 32 [x0, x1] H =
    J E 32 2 [x0, x1, (D.int .i64 0)] H :=
  (ent_seg E 32 [2] 400 [x0, x1] H).trans (by kernel_rfl)
theorem j32_2 (x0 x1 x5 : D) (H : Heap) :
    J E 32 2 [x0, x1, x5] H =
    (lnL x0).bind fun v1 => (bI .lss x5 v1).bind fun v2 => asB v2 fun t => bif t then ((ia 1 H x0 x5).bind fun v3 => (ld false 1 H v3).bind fun v4 => (bI .neq v4 x1).bind fun v5 => asB v5 fun t => bif t then (ret_ H [some (D.int .i64 (-1))]) else ((bI .add x1 (D.int .i64 1)).bind fun v6 => (bI .add x5 (D.int .i64 1)).bind fun v7 => J E 32 2 [x0, v6, v7] H)) else (ret_ H [some x1]) :=
  (J_seg E 32 2 [2] 400 [x0, x1, x5] H).trans (by kernel_rfl)
-- laws.szInsS
theorem e33 (x0 x1 : D) (H : Heap) :
    ent E 33 [x0, x1] H =
    (lnL x0).bind fun v1 => (bI .sub x1 v1).bind fun v2 => (bI .lss v2 (D.int .i64 0)).bind fun v3 => asB v3 fun t => bif t then (ret_ H [some (D.int .i64 (-1))]) else (ret_ H [some v2]) :=
  (ent_seg E 33 [] 400 [x0, x1] H).trans (by kernel_rfl)
-- spec.OpsPut
theorem e34 (x0 : D) (H : Heap) :
    ent E 34 [x0] H =
    (lnL x0).bind fun v1 => (bI .gtr v1 (D.int .i64 120)).bind fun v2 => asB v2 fun t => bif t then (ret_ H [some (D.str [])]) else (J E 34 4 [x0, (D.int .i64 0)] H) :=
  (ent_seg E 34 [4] 400 [x0] H).trans (by kernel_rfl)
theorem j34_4 (x0 x3 : D) (H : Heap) :
    J E 34 4 [x0, x3] H =
    (lnL x0).bind fun v3 => (bI .lss x3 v3).bind fun v4 => asB v4 fun t => bif t then ((ia 3 H x0 x3).bind fun v5 => (fa 2 v5).bind fun v6 => (ld false 1 H v6).bind fun v7 => (callFn E (exec E) .pure 66 [v7, (D.int .i64 (-32768)), (D.int .i64 65535)] H).bind fun r8 => (unOp .not r8.1).bind fun v9 => asB v9 fun t => bif t then (ret_ r8.2 [some (D.str [])]) else ((bI .add x3 (D.int .i64 1)).bind fun v10 => J E 34 4 [x0, v10] r8.2)) else ((callFn E (exec E) .pure 70 [x0] H).bind fun r11 => (callFn E (exec E) .view 19 [r11.1] r11.2).bind fun r12 => (extract r12.1 0).bind fun v13 => (extract r12.1 1).bind fun v14 => (unOp .not v14).bind fun v15 => asB v15 fun t => bif t then (ret_ r12.2 [some (D.str [])]) else ((callFn E (exec E) .pure 71 [v13, x0] r12.2).bind fun r16 => (unOp .not r16.1).bind fun v17 => asB v17 fun t => bif t then (ret_ r16.2 [some (D.str [])]) else (ret_ r16.2 [some r11.1]))) :=
  (J_seg E 34 4 [4] 400 [x0, x3] H).trans (by kernel_rfl)
-- laws.toInsS
theorem e35 (x0 : D) (H : Heap) :
    ent E 35 [x0] H =
    (lnL x0).bind fun v1 => (mks 24 [.int .i64 0, .int .i64 0, .int .i64 0] H v1 v1).bind fun r2 => J E 35 3 [x0, r2.1, (D.int .i64 0)] r2.2 :=
  (ent_seg E 35 [3] 400 [x0] H).trans (by kernel_rfl)
theorem j35_3 (x0 x3 x4 : D) (H : Heap) :
    J E 35 3 [x0, x3, x4] H =
    (lnL x0).bind fun v3 => (bI .lss x4 v3).bind fun v4 => asB v4 fun t => bif t then ((ia 3 H x0 x4).bind fun v5 => (ld true 3 H v5).bind fun v6 => (callFn E (exec E) .pure 72 [v6] H).bind fun r7 => (ia 3 r7.2 x3 x4).bind fun v8 => (st 3 r7.2 v8 r7.1).bind fun H9 => (bI .add x4 (D.int .i64 1)).bind fun v10 => J E 35 3 [x0, x3, v10] H9) else (ret_ H [some x3]) :=
  (J_seg E 35 3 [3] 400 [x0, x3, x4] H).trans (by kernel_rfl)
-- impl.OpsPut
theorem e36 (x0 : D) (H : Heap) :
    ent E 36 [x0] H =
    (lnL x0).bind fun v1 => (bI .gtr v1 (D.int .i64 120)).bind fun v2 => asB v2 fun t => bif t then (ret_ H [some (D.str [])]) else ((lnL x0).bind fun v3 => J E 36 5 [x0, (D.str []), x0, v3, (D.int .i64 0)] H) :=
  (ent_seg E 36 [5, 14] 400 [x0] H).trans (by kernel_rfl)
theorem j36_5 (x0 x3 x11 x12 x13 : D) (H : Heap) :
    J E 36 5 [x0, x3, x11, x12, x13] H =
    (bI .lss x13 x12).bind fun v4 => asB v4 fun t => bif t then ((ia 3 H x11 x13).bind fun v5 => (ld true 3 H v5).bind fun v6 => alloc_ H [.int .i64 0, .int .i64 0, .int .i64 0] fun p7 H7 => (st 3 H7 p7 v6).bind fun H8 => (fa 1 p7).bind fun v9 => (ld false 1 H8 v9).bind fun v10 => (callFn E (exec E) .pure 62 [v10] H8).bind fun r11 => (bI .eql r11.1 (D.int .i64 0)).bind fun v12 => asB v12 fun t => bif t then ((fa 1 p7).bind fun v13 => (ld false 1 r11.2 v13).bind fun v14 => (callFn E (exec E) .pure 73 [v14] r11.2).bind fun r15 => (bS .add x3 r15.1).bind fun v16 => J E 36 14 [x0, v16, x11, x12, x13] r15.2) else ((bI .eql r11.1 (D.int .i64 1)).bind fun v17 => asB v17 fun t => bif t then ((fa 1 p7).bind fun v18 => (ld false 1 r11.2 v18).bind fun v19 => (callFn E (exec E) .pure 73 [v19] r11.2).bind fun r20 => (fa 2 p7).bind fun v21 => (ld false 1 r20.2 v21).bind fun v22 => (callFn E (exec E) .pure 73 [v22] r20.2).bind fun r23 => (bS .add r20.1 r23.1).bind fun v24 => (bS .add x3 v24).bind fun v25 => J E 36 14 [x0, v25, x11, x12, x13] r23.2) else ((bI .eql r11.1 (D.int .i64 2)).bind fun v26 => asB v26 fun t => bif t then ((fa 1 p7).bind fun v27 => (ld false 1 r11.2 v27).bind fun v28 => (callFn E (exec E) .pure 73 [v28] r11.2).bind fun r29 => (fa 2 p7).bind fun v30 => (ld false 1 r29.2 v30).bind fun v31 => (callFn E (exec E) .pure 74 [v31] r29.2).bind fun r32 => (bS .add r29.1 r32.1).bind fun v33 => (bS .add x3 v33).bind fun v34 => J E 36 14 [x0, v34, x11, x12, x13] r32.2) else (J E 36 14 [x0, x3, x11, x12, x13] r11.2)))) else ((callFn E (exec E) .pure 20 [x3] H).bind fun r35 => (extract r35.1 0).bind fun v36 => (extract r35.1 1).bind fun v37 => (unOp .not v37).bind fun v38 => asB v38 fun t => bif t then (ret_ r35.2 [some (D.str [])]) else ((callFn E (exec E) .pure 75 [v36, x0] r35.2).bind fun r39 => (unOp .not r39.1).bind fun v40 => asB v40 fun t => bif t then (ret_ r39.2 [some (D.str [])]) else (ret_ r39.2 [some x3]))) :=
  (J_seg E 36 5 [5, 14] 400 [x0, x3, x11, x12, x13] H).trans (by kernel_rfl)
theorem j36_14 (x0 x3 x11 x12 x13 : D) (H : Heap) :
    J E 36 14 [x0, x3, x11, x12, x13] H =
    (bI .add x13 (D.int .i64 1)).bind fun v41 => J E 36 5 [x0, x3, x11, x12, v41] H :=
  (J_seg E 36 14 [5, 14] 400 [x0, x3, x11, x12, x13] H).trans (by kernel_rfl)
-- spec.DrawNameOk
theorem e37 (x0 : D) (H : Heap) :
    ent E 37 [x0] H =
    (callFn E (exec E) .raw 76 [x0] H).bind fun r1 => (bsl 1 [.str []] r1.2 10 [(0, (D.str [])), (1, (D.str [97])), (2, (D.str [65, 98, 99])), (3, (D.str [97, 49])), (4, (D.str [49, 97])), (5, (D.str [97, 98, 99, 100, 101, 102, 103, 104])), (6, (D.str [97, 98, 99, 100, 101, 102, 103, 104, 105])), (7, (D.str [97, 95, 98])), (8, (D.str [73])), (9, (D.str [195, 169]))]).bind fun r2 => (callFn E (exec E) .raw 77 [r1.1, r2.1] r2.2).bind fun r3 => ret_ r3.2 [some r3.1] :=
  (ent_seg E 37 [] 400 [x0] H).trans (by kernel_rfl)
-- spec.DrawTypeOk
theorem e38 (x0 : D) (H : Heap) :
    ent E 38 [x0] H =
    (callFn E (exec E) .raw 76 [x0] H).bind fun r1 => (bsl 1 [.str []] r1.2 11 [(0, (D.str [])), (1, (D.str [73])), (2, (D.str [73, 73])), (3, (D.str [76, 65, 59])), (4, (D.str [76, 65])), (5, (D.str [76, 59])), (6, (D.str [76, 49, 59])), (7, (D.str [76, 65, 59, 73])), (8, (D.str [86])), (9, (D.str [76, 97, 98, 99, 100, 101, 102, 103, 104, 59])), (10, (D.str [76, 97, 98, 99, 100, 101, 102, 103, 104, 105, 59]))]).bind fun r2 => (callFn E (exec E) .raw 77 [r1.1, r2.1] r2.2).bind fun r3 => ret_ r3.2 [some r3.1] :=
  (ent_seg E 38 [] 400 [x0] H).trans (by kernel_rfl)
-- impl.DescOf
theorem e39 (x0 : D) (H : Heap) :
    ent E 39 [x0] H =
    (callFn E (exec E) .pure 78 [x0, (D.str [41])] H).bind fun r1 => (extract r1.1 0).bind fun v2 => (extract r1.1 1).bind fun v3 => (extract r1.1 2).bind fun v4 => (callFn E (exec E) .pure 79 [v2, (D.str [40])] r1.2).bind fun r5 => (extract r5.1 0).bind fun v6 => (extract r5.1 1).bind fun v7 => (unOp .not v4).bind fun v8 => asB v8 fun t => bif t then (ret_ r5.2 [some D.sl0, some (D.str []), some (D.bool false)]) else ((unOp .not v7).bind fun v9 => asB v9 fun t => bif t then (ret_ r5.2 [some D.sl0, some (D.str []), some (D.bool false)]) else ((bS .neq v3 (D.str [86])).bind fun v10 => asB v10 fun t => bif t then ((callFn E (exec E) .pure 18 [v3] r5.2).bind fun r11 => (unOp .not r11.1).bind fun v12 => asB v12 fun t => bif t then (ret_ r11.2 [some D.sl0, some (D.str []), some (D.bool false)]) else (J E 39 6 [v3, v6, D.sl0] r11.2)) else (J E 39 6 [v3, v6, D.sl0] r5.2))) :=
  (ent_seg E 39 [6, 10] 400 [x0] H).trans (by kernel_rfl)
theorem j39_6 (x6 x8 x10 : D) (H : Heap) :
    J E 39 6 [x6, x8, x10] H =
    (bS .neq x8 (D.str [])).bind fun v13 => asB v13 fun t => bif t then ((ix x8 (D.int .i64 0)).bind fun v14 => (bI .neq v14 (D.int .u8 73)).bind fun v15 => asB v15 fun t => bif t then ((callFn E (exec E) .pure 80 [x8, (D.int .u8 59)] H).bind fun r16 => (bI .add r16.1 (D.int .i64 1)).bind fun v17 => J E 39 10 [x6, x8, x10, v17] r16.2) else (J E 39 10 [x6, x8, x10, (D.int .i64 1)] H)) else (ret_ H [some x10, some x6, some (D.bool true)]) :=
  (J_seg E 39 6 [6, 10] 400 [x6, x8, x10] H).trans (by kernel_rfl)
theorem j39_10 (x6 x8 x10 x11 : D) (H : Heap) :
    J E 39 10 [x6, x8, x10, x11] H =
    (slS x8 none (some x11) none).bind fun v18 => (callFn E (exec E) .pure 18 [v18] H).bind fun r19 => (unOp .not r19.1).bind fun v20 => asB v20 fun t => bif t then (ret_ r19.2 [some D.sl0, some (D.str []), some (D.bool false)]) else ((lnL x10).bind fun v21 => (bI .eql v21 (D.int .i64 4)).bind fun v22 => asB v22 fun t => bif t then (ret_ r19.2 [some D.sl0, some (D.str []), some (D.bool false)]) else ((slS x8 none (some x11) none).bind fun v23 => (bsl 1 [.str []] r19.2 1 [(0, v23)]).bind fun r24 => (app 1 16 r24.2 x10 r24.1).bind fun r25 => (slS x8 (some x11) none none).bind fun v26 => J E 39 6 [x6, v26, r25.1] r25.2)) :=
  (J_seg E 39 10 [6, 10] 400 [x6, x8, x10, x11] H).trans (by kernel_rfl)
-- spec.DescOf
theorem e40 (x0 : D) (H : Heap) :
    ent E 40 [x0] H =
    (callFn E (exec E) .view 81 [x0] H).bind fun r1 => (extract r1.1 0).bind fun v2 => (extract r1.1 1).bind fun v3 => (extract r1.1 2).bind fun v4 => ret_ r1.2 [some v2, some v3, some v4] :=
  (ent_seg E 40 [] 400 [x0] H).trans (by kernel_rfl)
-- laws.eqStringS
theorem e41 (x0 x1 : D) (H : Heap) :
    ent E 41 [x0, x1] H =
    (lnL x0).bind fun v1 => (lnL x1).bind fun v2 => (bI .neq v1 v2).bind fun v3 => asB v3 fun t => bif t then (ret_ H [some (D.bool false)]) else (J E 41 4 [x0, x1, (D.int .i64 0)] H) :=
  (ent_seg E 41 [4] 400 [x0, x1] H).trans (by kernel_rfl)
theorem j41_4 (x0 x1 x5 : D) (H : Heap) :
    J E 41 4 [x0, x1, x5] H =
    (lnL x0).bind fun v4 => (bI .lss x5 v4).bind fun v5 => asB v5 fun t => bif t then ((ia 1 H x0 x5).bind fun v6 => (ld false 1 H v6).bind fun v7 => (ia 1 H x1 x5).bind fun v8 => (ld false 1 H v8).bind fun v9 => (bS .neq v7 v9).bind fun v10 => asB v10 fun t => bif t then (ret_ H [some (D.bool false)]) else ((bI .add x5 (D.int .i64 1)).bind fun v11 => J E 41 4 [x0, x1, v11] H)) else (ret_ H [some (D.bool true)]) :=
  (J_seg E 41 4 [4] 400 [x0, x1, x5] H).trans (by kernel_rfl)
-- laws.markStringS
theorem e42 (x0 x1 : D) (H : Heap) :
    ent E 42 [x0, x1] H =
    J E 42 2 [x0, x1, (D.int .i64 0)] H :=
  (ent_seg E 42 [2] 400 [x0, x1] H).trans (by kernel_rfl)
theorem j42_2 (x0 x1 x5 : D) (H : Heap) :
    J E 42 2 [x0, x1, x5] H =
    (lnL x0).bind fun v1 => (bI .lss x5 v1).bind fun v2 => asB v2 fun t => bif t then ((callFn E (exec E) .pure 69 [x1] H).bind fun r3 => (ia 1 r3.2 x0 x5).bind fun v4 => (st 1 r3.2 v4 r3.1).bind fun H5 => (bI .add x1 (D.int .i64 1)).bind fun v6 => (bI .add x5 (D.int .i64 1)).bind fun v7 => J E 42 2 [x0, v6, v7] H5) else (ret_ H [some x1]) :=
  (J_seg E 42 2 [2] 400 [x0, x1, x5] H).trans (by kernel_rfl)
-- laws.heldStringS
theorem e43 (x0 x1 : D) (H : Heap) :
    ent E 43 [x0, x1] H =
    J E 43 2 [x0, x1, (D.int .i64 0)] H :=
  (ent_seg E 43 [2] 400 [x0, x1] H).trans (by kernel_rfl)
theorem j43_2 (x0 x1 x5 : D) (H : Heap) :
    J E 43 2 [x0, x1, x5] H =
    (lnL x0).bind fun v1 => (bI .lss x5 v1).bind fun v2 => asB v2 fun t => bif t then ((ia 1 H x0 x5).bind fun v3 => (ld false 1 H v3).bind fun v4 => (callFn E (exec E) .pure 69 [x1] H).bind fun r5 => (bS .neq v4 r5.1).bind fun v6 => asB v6 fun t => bif t then (ret_ r5.2 [some (D.int .i64 (-1))]) else ((bI .add x1 (D.int .i64 1)).bind fun v7 => (bI .add x5 (D.int .i64 1)).bind fun v8 => J E 43 2 [x0, v7, v8] r5.2)) else (ret_ H [some x1]) :=
  (J_seg E 43 2 [2] 400 [x0, x1, x5] H).trans (by kernel_rfl)
-- spec.DrawDescOf
theorem e44 (x0 : D) (H : Heap) :
    ent E 44 [x0] H =
    (callFn E (exec E) .raw 76 [x0] H).bind fun r1 => (bsl 1 [.int .i64 0] r1.2 7 [(0, (D.int .i64 0)), (1, (D.int .i64 1)), (2, (D.int .i64 2)), (3, (D.int .i64 3)), (4, (D.int .i64 4)), (5, (D.int .i64 4)), (6, (D.int .i64 5))]).bind fun r2 => (callFn E (exec E) .raw 82 [r1.1, r2.1] r2.2).bind fun r3 => J E 44 4 [r1.1, (D.str [40]), r3.1] r3.2 :=
  (ent_seg E 44 [4] 400 [x0] H).trans (by kernel_rfl)
theorem j44_4 (x3 x4 x5 : D) (H : Heap) :
    J E 44 4 [x3, x4, x5] H =
    (bI .gtr x5 (D.int .i64 0)).bind fun v4 => asB v4 fun t => bif t then ((bsl 1 [.str []] H 3 [(0, (D.str [73])), (1, (D.str [76, 65, 59])), (2, (D.str [76, 66, 99, 49, 59]))]).bind fun r5 => (callFn E (exec E) .raw 77 [x3, r5.1] r5.2).bind fun r6 => (bS .add x4 r6.1).bind fun v7 => (bI .sub x5 (D.int .i64 1)).bind fun v8 => J E 44 4 [x3, v7, v8] r6.2) else ((bS .add x4 (D.str [41])).bind fun v9 => (bsl 1 [.str []] H 3 [(0, (D.str [86])), (1, (D.str [73])), (2, (D.str [76, 65, 59]))]).bind fun r10 => (callFn E (exec E) .raw 77 [x3, r10.1] r10.2).bind fun r11 => (bS .add v9 r11.1).bind fun v12 => (callFn E (exec E) .raw 83 [x3, (D.int .i64 4)] r11.2).bind fun r13 => (bI .eql r13.1 (D.int .i64 0)).bind fun v14 => asB v14 fun t => bif t then ((lnS v12).bind fun v15 => (bI .add v15 (D.int .i64 1)).bind fun v16 => (callFn E (exec E) .raw 83 [x3, v16] r13.2).bind fun r17 => (slS v12 none (some r17.1) none).bind fun v18 => (bsl 1 [.str []] r17.2 6 [(0, (D.str [73])), (1, (D.str [41])), (2, (D.str [40])), (3, (D.str [59])), (4, (D.str [86])), (5, (D.str [76]))]).bind fun r19 => (callFn E (exec E) .raw 77 [x3, r19.1] r19.2).bind fun r20 => (bS .add v18 r20.1).bind fun v21 => (slS v12 (some r17.1) none none).bind fun v22 => (bS .add v21 v22).bind fun v23 => ret_ r20.2 [some v23]) else (ret_ r13.2 [some v12])) :=
  (J_seg E 44 4 [4] 400 [x3, x4, x5] H).trans (by kernel_rfl)
-- laws.szLoaderS
theorem e45 (x0 x1 : D) (H : Heap) :
    ent E 45 [x0, x1] H =
    (lnL x0).bind fun v1 => (bI .sub x1 v1).bind fun v2 => (bI .lss v2 (D.int .i64 0)).bind fun v3 => asB v3 fun t => bif t then (ret_ H [some (D.int .i64 (-1))]) else (J E 45 5 [x0, v2, (D.int .i64 0)] H) :=
  (ent_seg E 45 [5] 400 [x0, x1] H).trans (by kernel_rfl)
theorem j45_5 (x0 x1 x5 : D) (H : Heap) :
    J E 45 5 [x0, x1, x5] H =
    (lnL x0).bind fun v4 => (bI .lss x5 v4).bind fun v5 => asB v5 fun t => bif t then ((ia 3 H x0 x5).bind fun v6 => (ld true 3 H v6).bind fun v7 => (callFn E (exec E) .pure 84 [v7, x1] H).bind fun r8 => (bI .lss r8.1 (D.int .i64 0)).bind fun v9 => asB v9 fun t => bif t then (ret_ r8.2 [some (D.int .i64 (-1))]) else ((bI .add x5 (D.int .i64 1)).bind fun v10 => J E 45 5 [x0, r8.1, v10] r8.2)) else (ret_ H [some x1]) :=
  (J_seg E 45 5 [5] 400 [x0, x1, x5] H).trans (by kernel_rfl)
-- spec.PathMaker
theorem e46 (x0 x1 x2 : D) (H : Heap) :
    ent E 46 [x0, x1, x2] H =
    (callFn E (exec E) .view 85 [x0, x1, x2] H).bind fun r1 => (lnL r1.1).bind fun v2 => (bI .eql v2 (D.int .i64 0)).bind fun v3 => asB v3 fun t => bif t then (ret_ r1.2 [some (D.int .i64 (-1))]) else ((lnL r1.1).bind fun v4 => (bI .sub v4 (D.int .i64 1)).bind fun v5 => (ia 1 r1.2 r1.1 v5).bind fun v6 => (ld false 1 r1.2 v6).bind fun v7 => ret_ r1.2 [some v7]) :=
  (ent_seg E 46 [] 400 [x0, x1, x2] H).trans (by kernel_rfl)
-- laws.toLoaderS
theorem e47 (x0 : D) (H : Heap) :
    ent E 47 [x0] H =
    (lnL x0).bind fun v1 => (mks 56 [.sl0, .sl0, .int .i64 0] H v1 v1).bind fun r2 => J E 47 3 [x0, r2.1, (D.int .i64 0)] r2.2 :=
  (ent_seg E 47 [3] 400 [x0] H).trans (by kernel_rfl)
theorem j47_3 (x0 x3 x4 : D) (H : Heap) :
    J E 47 3 [x0, x3, x4] H =
    (lnL x0).bind fun v3 => (bI .lss x4 v3).bind fun v4 => asB v4 fun t => bif t then ((ia 3 H x0 x4).bind fun v5 => (ld true 3 H v5).bind fun v6 => (callFn E (exec E) .own 86 [v6] H).bind fun r7 => (ia 3 r7.2 x3 x4).bind fun v8 => (st 3 r7.2 v8 r7.1).bind fun H9 => (bI .add x4 (D.int .i64 1)).bind fun v10 => J E 47 3 [x0, x3, v10] H9) else (ret_ H [some x3]) :=
  (J_seg E 47 3 [3] 400 [x0, x3, x4] H).trans (by kernel_rfl)
-- impl.PathMaker
theorem e48 (x0 x1 x2 : D) (H : Heap) :
    ent E 48 [x0, x1, x2] H =
    (callFn E (exec E) .pure 87 [x0, x1, x2] H).bind fun r1 => (lnL r1.1).bind fun v2 => (bI .eql v2 (D.int .i64 0)).bind fun v3 => asB v3 fun t => bif t then (ret_ r1.2 [some (D.int .i64 (-1))]) else ((lnL r1.1).bind fun v4 => (bI .sub v4 (D.int .i64 1)).bind fun v5 => (ia 1 r1.2 r1.1 v5).bind fun v6 => (ld false 1 r1.2 v6).bind fun v7 => ret_ r1.2 [some v7]) :=
  (ent_seg E 48 [] 400 [x0, x1, x2] H).trans (by kernel_rfl)
-- laws.eqLoaderS
theorem e49 (x0 x1 : D) (H : Heap) :
    ent E 49 [x0, x1] H =
    (lnL x0).bind fun v1 => (lnL x1).bind fun v2 => (bI .neq v1 v2).bind fun v3 => asB v3 fun t => bif t then (ret_ H [some (D.bool false)]) else (J E 49 4 [x0, x1, (D.int .i64 0)] H) :=
  (ent_seg E 49 [4] 400 [x0, x1] H).trans (by kernel_rfl)
theorem j49_4 (x0 x1 x5 : D) (H : Heap) :
    J E 49 4 [x0, x1, x5] H =
    (lnL x0).bind fun v4 => (bI .lss x5 v4).bind fun v5 => asB v5 fun t => bif t then ((ia 3 H x0 x5).bind fun v6 => (ld true 3 H v6).bind fun v7 => (ia 3 H x1 x5).bind fun v8 => (ld true 3 H v8).bind fun v9 => (callFn E (exec E) .pure 88 [v7, v9] H).bind fun r10 => (unOp .not r10.1).bind fun v11 => asB v11 fun t => bif t then (ret_ r10.2 [some (D.bool false)]) else ((bI .add x5 (D.int .i64 1)).bind fun v12 => J E 49 4 [x0, x1, v12] r10.2)) else (ret_ H [some (D.bool true)]) :=
  (J_seg E 49 4 [4] 400 [x0, x1, x5] H).trans (by kernel_rfl)
-- spec.PathSame
theorem e50 (x0 x1 x2 x3 : D) (H : Heap) :
    ent E 50 [x0, x1, x2, x3] H =
    (callFn E (exec E) .pure 46 [x0, x1, x3] H).bind fun r1 => (bI .geq r1.1 (D.int .i64 0)).bind fun v2 => asB v2 fun t => bif t then ((callFn E (exec E) .pure 46 [x0, x2, x3] r1.2).bind fun r3 => (bI .eql r1.1 r3.1).bind fun v4 => ret_ r3.2 [some v4]) else (ret_ r1.2 [some (D.bool false)]) :=
  (ent_seg E 50 [] 400 [x0, x1, x2, x3] H).trans (by kernel_rfl)
-- impl.PathSame
theorem e51 (x0 x1 x2 x3 : D) (H : Heap) :
    ent E 51 [x0, x1, x2, x3] H =
    (callFn E (exec E) .pure 48 [x0, x1, x3] H).bind fun r1 => (bI .geq r1.1 (D.int .i64 0)).bind fun v2 => asB v2 fun t => bif t then ((callFn E (exec E) .pure 48 [x0, x2, x3] r1.2).bind fun r3 => (bI .eql r1.1 r3.1).bind fun v4 => ret_ r3.2 [some v4]) else (ret_ r1.2 [some (D.bool false)]) :=
  (ent_seg E 51 [] 400 [x0, x1, x2, x3] H).trans (by kernel_rfl)
-- laws.szConstS
theorem e52 (x0 x1 : D) (H : Heap) :
    ent E 52 [x0, x1] H =
    (lnL x0).bind fun v1 => (bI .sub x1 v1).bind fun v2 => (bI .lss v2 (D.int .i64 0)).bind fun v3 => asB v3 fun t => bif t then (ret_ H [some (D.int .i64 (-1))]) else (J E 52 5 [x0, v2, (D.int .i64 0)] H) :=
  (ent_seg E 52 [5] 400 [x0, x1] H).trans (by kernel_rfl)
theorem j52_5 (x0 x1 x5 : D) (H : Heap) :
    J E 52 5 [x0, x1, x5] H =
    (lnL x0).bind fun v4 => (bI .lss x5 v4).bind fun v5 => asB v5 fun t => bif t then ((ia 4 H x0 x5).bind fun v6 => (ld true 4 H v6).bind fun v7 => (callFn E (exec E) .pure 89 [v7, x1] H).bind fun r8 => (bI .lss r8.1 (D.int .i64 0)).bind fun v9 => asB v9 fun t => bif t then (ret_ r8.2 [some (D.int .i64 (-1))]) else ((bI .add x5 (D.int .i64 1)).bind fun v10 => J E 52 5 [x0, r8.1, v10] r8.2)) else (ret_ H [some x1]) :=
  (J_seg E 52 5 [5] 400 [x0, x1, x5] H).trans (by kernel_rfl)
-- spec.PoolCheck
theorem e53 (x0 : D) (H : Heap) :
    ent E 53 [x0] H =
    J E 53 2 [x0, (D.int .i64 0)] H :=
  (ent_seg E 53 [2] 400 [x0] H).trans (by kernel_rfl)
theorem j53_2 (x0 x3 : D) (H : Heap) :
    J E 53 2 [x0, x3] H =
    (lnL x0).bind fun v1 => (bI .lss x3 v1).bind fun v2 => asB v2 fun t => bif t then ((bI .lss x3 (D.int .i64 60)).bind fun v3 => asB v3 fun t => bif t then ((callFn E (exec E) .pure 90 [x0, x3] H).bind fun r4 => (unOp .not r4.1).bind fun v5 => asB v5 fun t => bif t then ((bI .add x3 (D.int .i64 1)).bind fun v6 => ret_ r4.2 [some v6]) else ((bI .add x3 (D.int .i64 1)).bind fun v7 => J E 53 2 [x0, v7] r4.2)) else ((lnL x0).bind fun v8 => (bI .gtr v8 (D.int .i64 60)).bind fun v9 => asB v9 fun t => bif t then (ret_ H [some (D.int .i64 61)]) else (ret_ H [some (D.int .i64 0)]))) else ((lnL x0).bind fun v10 => (bI .gtr v10 (D.int .i64 60)).bind fun v11 => asB v11 fun t => bif t then (ret_ H [some (D.int .i64 61)]) else (ret_ H [some (D.int .i64 0)])) :=
  (J_seg E 53 2 [2] 400 [x0, x3] H).trans (by kernel_rfl)
-- laws.toConstS
theorem e54 (x0 : D) (H : Heap) :
    ent E 54 [x0] H =
    (lnL x0).bind fun v1 => (mks 40 [.int .i64 0, .str [], .int .i64 0, .int .i64 0] H v1 v1).bind fun r2 => J E 54 3 [x0, r2.1, (D.int .i64 0)] r2.2 :=
  (ent_seg E 54 [3] 400 [x0] H).trans (by kernel_rfl)
theorem j54_3 (x0 x3 x4 : D) (H : Heap) :
    J E 54 3 [x0, x3, x4] H =
    (lnL x0).bind fun v3 => (bI .lss x4 v3).bind fun v4 => asB v4 fun t => bif t then ((ia 4 H x0 x4).bind fun v5 => (ld true 4 H v5).bind fun v6 => (callFn E (exec E) .pure 91 [v6] H).bind fun r7 => (ia 4 r7.2 x3 x4).bind fun v8 => (st 4 r7.2 v8 r7.1).bind fun H9 => (bI .add x4 (D.int .i64 1)).bind fun v10 => J E 54 3 [x0, x3, v10] H9) else (ret_ H [some x3]) :=
  (J_seg E 54 3 [3] 400 [x0, x3, x4] H).trans (by kernel_rfl)
-- impl.PoolCheck
theorem e55 (x0 : D) (H : Heap) :
    ent E 55 [x0] H =
    (lnL x0).bind fun v1 => J E 55 2 [x0, x0, v1, (D.int .i64 0)] H :=
  (ent_seg E 55 [2] 400 [x0] H).trans (by kernel_rfl)
theorem j55_2 (x0 x5 x6 x7 : D) (H : Heap) :
    J E 55 2 [x0, x5, x6, x7] H =
    (bI .lss x7 x6).bind fun v2 => asB v2 fun t => bif t then ((ia 4 H x5 x7).bind fun v3 => (ld true 4 H v3).bind fun v4 => alloc_ H [.int .i64 0, .str [], .int .i64 0, .int .i64 0] fun p5 H5 => (st 4 H5 p5 v4).bind fun H6 => (bI .eql x7 (D.int .i64 60)).bind fun v7 => asB v7 fun t => bif t then (ret_ H6 [some (D.int .i64 61)]) else ((ld true 4 H6 p5).bind fun v8 => (callFn E (exec E) .pure 92 [x0, v8] H6).bind fun r9 => (unOp .not r9.1).bind fun v10 => asB v10 fun t => bif t then ((bI .add x7 (D.int .i64 1)).bind fun v11 => ret_ r9.2 [some v11]) else ((bI .add x7 (D.int .i64 1)).bind fun v12 => J E 55 2 [x0, x5, x6, v12] r9.2))) else (ret_ H [some (D.int .i64 0)]) :=
  (J_seg E 55 2 [2] 400 [x0, x5, x6, x7] H).trans (by kernel_rfl)
-- laws.eqConstS
theorem e56 (x0 x1 : D) (H : Heap) :
    ent E 56 [x0, x1] H =
    (lnL x0).bind fun v1 => (lnL x1).bind fun v2 => (bI .neq v1 v2).bind fun v3 => asB v3 fun t => bif t then (ret_ H [some (D.bool false)]) else (J E 56 4 [x0, x1, (D.int .i64 0)] H) :=
  (ent_seg E 56 [4] 400 [x0, x1] H).trans (by kernel_rfl)
theorem j56_4 (x0 x1 x5 : D) (H : Heap) :
    J E 56 4 [x0, x1, x5] H =
    (lnL x0).bind fun v4 => (bI .lss x5 v4).bind fun v5 => asB v5 fun t => bif t then ((ia 4 H x0 x5).bind fun v6 => (ld true 4 H v6).bind fun v7 => (ia 4 H x1 x5).bind fun v8 => (ld true 4 H v8).bind fun v9 => (callFn E (exec E) .pure 93 [v7, v9] H).bind fun r10 => (unOp .not r10.1).bind fun v11 => asB v11 fun t => bif t then (ret_ r10.2 [some (D.bool false)]) else ((bI .add x5 (D.int .i64 1)).bind fun v12 => J E 56 4 [x0, x1, v12] r10.2)) else (ret_ H [some (D.bool true)]) :=
  (J_seg E 56 4 [4] 400 [x0, x1, x5] H).trans (by kernel_rfl)
-- spec.l2Name
theorem e57 (x0 : D) (H : Heap) :
    ent E 57 [x0] H =
    J E 57 2 [x0, (D.int .i64 0)] H :=
  (ent_seg E 57 [2] 400 [x0] H).trans (by kernel_rfl)
theorem j57_2 (x0 x3 : D) (H : Heap) :
    J E 57 2 [x0, x3] H =
    (lnS x0).bind fun v1 => (bI .lss x3 v1).bind fun v2 => asB v2 fun t => bif t then ((ix x0 x3).bind fun v3 => (callFn E (exec E) .pure 94 [v3] H).bind fun r4 => (unOp .not r4.1).bind fun v5 => asB v5 fun t => bif t then ((bI .eql x3 (D.int .i64 0)).bind fun v6 => asB v6 fun t => bif t then (ret_ r4.2 [some (D.bool false)]) else ((ix x0 x3).bind fun v7 => (bI .lss v7 (D.int .u8 48)).bind fun v8 => asB v8 fun t => bif t then (ret_ r4.2 [some (D.bool false)]) else ((ix x0 x3).bind fun v9 => (bI .gtr v9 (D.int .u8 57)).bind fun v10 => asB v10 fun t => bif t then (ret_ r4.2 [some (D.bool false)]) else ((bI .add x3 (D.int .i64 1)).bind fun v11 => J E 57 2 [x0, v11] r4.2)))) else ((bI .add x3 (D.int .i64 1)).bind fun v12 => J E 57 2 [x0, v12] r4.2)) else ((lnS x0).bind fun v13 => (callFn E (exec E) .pure 66 [v13, (D.int .i64 1), (D.int .i64 8)] H).bind fun r14 => ret_ r14.2 [some r14.1]) :=
  (J_seg E 57 2 [2] 400 [x0, x3] H).trans (by kernel_rfl)
-- impl.within
theorem e58 (x0 x1 x2 : D) (H : Heap) :
    ent E 58 [x0, x1, x2] H =
    (bI .leq x1 x0).bind fun v1 => asB v1 fun t => bif t then ((bI .leq x0 x2).bind fun v2 => ret_ H [some v2]) else (ret_ H [some (D.bool false)]) :=
  (ent_seg E 58 [] 400 [x0, x1, x2] H).trans (by kernel_rfl)
-- spec.l2Type
theorem e59 (x0 : D) (H : Heap) :
    ent E 59 [x0] H =
    (lnS x0).bind fun v1 => (bI .gtr v1 (D.int .i64 0)).bind fun v2 => asB v2 fun t => bif t then ((callFn E (exec E) .pure 95 [x0, (D.int .i64 0)] H).bind fun r3 => (lnS x0).bind fun v4 => (bI .eql r3.1 v4).bind fun v5 => ret_ r3.2 [some v5]) else (ret_ H [some (D.bool false)]) :=
  (ent_seg E 59 [] 400 [x0] H).trans (by kernel_rfl)
-- impl.classOf
theorem e60 (x0 : D) (H : Heap) :
    ent E 60 [x0] H =
    (callFn E (exec E) .pure 79 [x0, (D.str [76])] H).bind fun r1 => (extract r1.1 0).bind fun v2 => (extract r1.1 1).bind fun v3 => (callFn E (exec E) .pure 96 [v2, (D.str [59])] r1.2).bind fun r4 => (extract r4.1 0).bind fun v5 => (extract r4.1 1).bind fun v6 => asB v3 fun t => bif t then (asB v6 fun t => bif t then ((callFn E (exec E) .pure 16 [v5] r4.2).bind fun r7 => ret_ r7.2 [some v5, some r7.1]) else (ret_ r4.2 [some v5, some (D.bool false)])) else (ret_ r4.2 [some v5, some (D.bool false)]) :=
  (ent_seg E 60 [] 400 [x0] H).trans (by kernel_rfl)
-- spec.l3Get
theorem e61 (x0 : D) (H : Heap) :
    ent E 61 [x0] H =
    (bsl 3 [.int .i64 0, .int .i64 0, .int .i64 0] H 0 []).bind fun r1 => J E 61 3 [x0, r1.1, (D.int .i64 0)] r1.2 :=
  (ent_seg E 61 [3] 400 [x0] H).trans (by kernel_rfl)
theorem j61_3 (x0 x4 x5 : D) (H : Heap) :
    J E 61 3 [x0, x4, x5] H =
    (lnS x0).bind fun v2 => (bI .lss x5 v2).bind fun v3 => asB v3 fun t => bif t then ((ix x0 x5).bind fun v4 => (cI .i64 v4).bind fun v5 => (callFn E (exec E) .pure 97 [v5] H).bind fun r6 => (bI .lss r6.1 (D.int .i64 0)).bind fun v7 => asB v7 fun t => bif t then (ret_ r6.2 [some D.sl0, some (D.bool false)]) else ((bI .add x5 (D.int .i64 1)).bind fun v8 => (bI .add v8 r6.1).bind fun v9 => (lnS x0).bind fun v10 => (bI .gtr v9 v10).bind fun v11 => asB v11 fun t => bif t then (ret_ r6.2 [some D.sl0, some (D.bool false)]) else ((bI .add x5 (D.int .i64 1)).bind fun v12 => (bI .add x5 (D.int .i64 1)).bind fun v13 => (bI .add v13 r6.1).bind fun v14 => (slS x0 (some v12) (some v14) none).bind fun v15 => (callFn E (exec E) .pure 98 [v15, v5] r6.2).bind fun r16 => (bld [.int .i64 0, .int .i64 0, .int .i64 0] [(0, 1, false), (1, 1, false), (2, 1, false)] [(0, x5), (1, v5), (2, r16.1)]).bind fun v17 => (bsl 3 [.int .i64 0, .int .i64 0, .int .i64 0] r16.2 1 [(0, v17)]).bind fun r18 => (app 3 24 r18.2 x4 r18.1).bind fun r19 => (bI .add x5 (D.int .i64 1)).bind fun v20 => (bI .add v20 r6.1).bind fun v21 => J E 61 3 [x0, r19.1, v21] r19.2))) else ((lnL x4).bind fun v22 => (bI .gtr v22 (D.int .i64 0)).bind fun v23 => ret_ H [some x4, some v23]) :=
  (J_seg E 61 3 [3] 400 [x0, x4, x5] H).trans (by kernel_rfl)
-- impl.sizeOf
theorem e62 (x0 : D) (H : Heap) :
    ent E 62 [x0] H =
    (callFn E (exec E) .pure 58 [x0, (D.int .i64 3), (D.int .i64 6)] H).bind fun r1 => asB r1.1 fun t => bif t then (ret_ r1.2 [some (D.int .i64 1)]) else ((bI .eql x0 (D.int .i64 1)).bind fun v2 => asB v2 fun t => bif t then (ret_ r1.2 [some (D.int .i64 2)]) else ((callFn E (exec E) .pure 58 [x0, (D.int .i64 14), (D.int .i64 29)] r1.2).bind fun r3 => asB r3.1 fun t => bif t then (ret_ r3.2 [some (D.int .i64 2)]) else ((callFn E (exec E) .pure 58 [x0, (D.int .i64 0), (D.int .i64 34)] r3.2).bind fun r4 => asB r4.1 fun t => bif t then (ret_ r4.2 [some (D.int .i64 0)]) else (ret_ r4.2 [some (D.int .i64 (-1))])))) :=
  (ent_seg E 62 [] 400 [x0] H).trans (by kernel_rfl)
-- laws.eqIns
theorem e63 (x0 x1 : D) (H : Heap) :
    ent E 63 [x0, x1] H =
    alloc_ H (D.cells x0) fun p1 H1 => alloc_ H1 (D.cells x1) fun p2 H2 => (fa 0 p1).bind fun v3 => (ld false 1 H2 v3).bind fun v4 => (fa 0 p2).bind fun v5 => (ld false 1 H2 v5).bind fun v6 => (bI .neq v4 v6).bind fun v7 => asB v7 fun t => bif t then (ret_ H2 [some (D.bool false)]) else ((fa 1 p1).bind fun v8 => (ld false 1 H2 v8).bind fun v9 => (fa 1 p2).bind fun v10 => (ld false 1 H2 v10).bind fun v11 => (bI .neq v9 v11).bind fun v12 => asB v12 fun t => bif t then (ret_ H2 [some (D.bool false)]) else ((fa 2 p1).bind fun v13 => (ld false 1 H2 v13).bind fun v14 => (fa 2 p2).bind fun v15 => (ld false 1 H2 v15).bind fun v16 => (bI .neq v14 v16).bind fun v17 => asB v17 fun t => bif t then (ret_ H2 [some (D.bool false)]) else (ret_ H2 [some (D.bool true)]))) :=
  (ent_seg E 63 [] 400 [x0, x1] H).trans (by kernel_rfl)
-- laws.szLine
theorem e64 (x0 x1 : D) (H : Heap) :
    ent E 64 [x0, x1] H =
    alloc_ H (D.cells x0) fun p1 H1 => (fa 1 p1).bind fun v2 => (ld false 1 H1 v2).bind fun v3 => (lnS v3).bind fun v4 => (bI .sub x1 v4).bind fun v5 => (bI .lss v5 (D.int .i64 0)).bind fun v6 => asB v6 fun t => bif t then (ret_ H1 [some (D.int .i64 (-1))]) else ((fa 2 p1).bind fun v7 => (ld false 1 H1 v7).bind fun v8 => (lnS v8).bind fun v9 => (bI .sub v5 v9).bind fun v10 => (bI .lss v10 (D.int .i64 0)).bind fun v11 => asB v11 fun t => bif t then (ret_ H1 [some (D.int .i64 (-1))]) else (ret_ H1 [some v10])) :=
  (ent_seg E 64 [] 400 [x0, x1] H).trans (by kernel_rfl)
-- spec.l13Ops
theorem e65 (H : Heap) :
    ent E 65 [] H =
    (bsl 1 [.str []] H 35 [(0, (D.str [110, 111, 112])), (1, (D.str [112, 117, 115, 104])), (2, (D.str [110, 117, 108, 108])), (3, (D.str [108, 111, 97, 100])), (4, (D.str [115, 116, 111, 114, 101])), (5, (D.str [114, 101, 102, 108, 111, 97, 100])), (6, (D.str [114, 101, 102, 115, 116, 111, 114, 101])), (7, (D.str [112, 111, 112])), (8, (D.str [100, 117, 112])), (9, (D.str [115, 119, 97, 112])), (10, (D.str [97, 100, 100])), (11, (D.str [115, 117, 98])), (12, (D.str [109, 117, 108])), (13, (D.str [100, 105, 118])), (14, (D.str [105, 102, 122, 101, 114, 111])), (15, (D.str [105, 102, 110, 101, 103])), (16, (D.str [105, 102, 110, 117, 108, 108])), (17, (D.str [105, 102, 115, 97, 109, 101])), (18, (D.str [103, 111])), (19, (D.str [110, 101, 119])), (20, (D.str [103, 101, 116])), (21, (D.str [112, 117, 116])), (22, (D.str [103, 101, 116, 97, 108, 108])), (23, (D.str [112, 117, 116, 97, 108, 108])), (24, (D.str [118, 105, 114, 116, 117, 97, 108])), (25, (D.str [115, 112, 101, 99, 105, 97, 108])), (26, (D.str [115, 116, 97, 116, 105, 99])), (27, (D.str [102, 97, 99, 101])), (28, (D.str [99, 97, 115, 116])), (29, (D.str [105, 115])), (30, (D.str [103, 105, 118, 101, 105, 110, 116])), (31, (D.str [103, 105, 118, 101, 114, 101, 102])), (32, (D.str [103, 105, 118, 101])), (33, (D.str [116, 104, 114, 111, 119])), (34, (D.str [112, 114, 105, 110, 116]))]).bind fun r1 => ret_ r1.2 [some r1.1] :=
  (ent_seg E 65 [] 400 [] H).trans (by kernel_rfl)
-- spec.l1In
theorem e66 (x0 x1 x2 : D) (H : Heap) :
    ent E 66 [x0, x1, x2] H =
    (bI .geq x0 x1).bind fun v1 => asB v1 fun t => bif t then ((bI .leq x0 x2).bind fun v2 => ret_ H [some v2]) else (ret_ H [some (D.bool false)]) :=
  (ent_seg E 66 [] 400 [x0, x1, x2] H).trans (by kernel_rfl)
-- laws.toLine
theorem e67 (x0 : D) (H : Heap) :
    ent E 67 [x0] H =
    alloc_ H (D.cells x0) fun p1 H1 => alloc_ H1 [.int .i64 0, .str [], .str [], .int .i64 0, .int .i64 0, .int .i64 0] fun p2 H2 => alloc_ H2 [.int .i64 0, .str [], .str [], .int .i64 0, .int .i64 0, .int .i64 0] fun p3 H3 => (fa 0 p1).bind fun v4 => (ld false 1 H3 v4).bind fun v5 => (fa 0 p3).bind fun v6 => (st 1 H3 v6 v5).bind fun H7 => (fa 1 p1).bind fun v8 => (ld false 1 H7 v8).bind fun v9 => (fa 1 p3).bind fun v10 => (st 1 H7 v10 v9).bind fun H11 => (fa 2 p1).bind fun v12 => (ld false 1 H11 v12).bind fun v13 => (fa 2 p3).bind fun v14 => (st 1 H11 v14 v13).bind fun H15 => (fa 3 p1).bind fun v16 => (ld false 1 H15 v16).bind fun v17 => (fa 3 p3).bind fun v18 => (st 1 H15 v18 v17).bind fun H19 => (fa 4 p1).bind fun v20 => (ld false 1 H19 v20).bind fun v21 => (fa 4 p3).bind fun v22 => (st 1 H19 v22 v21).bind fun H23 => (fa 5 p1).bind fun v24 => (ld false 1 H23 v24).bind fun v25 => (fa 5 p3).bind fun v26 => (st 1 H23 v26 v25).bind fun H27 => (ld true 6 H27 p3).bind fun v28 => (st 6 H27 p2 v28).bind fun H29 => ret_ H29 [ld true 6 H29 p2] :=
  (ent_seg E 67 [] 400 [x0] H).trans (by kernel_rfl)
-- laws.eqLine
theorem e68 (x0 x1 : D) (H : Heap) :
    ent E 68 [x0, x1] H =
    alloc_ H (D.cells x0) fun p1 H1 => alloc_ H1 (D.cells x1) fun p2 H2 => (fa 0 p1).bind fun v3 => (ld false 1 H2 v3).bind fun v4 => (fa 0 p2).bind fun v5 => (ld false 1 H2 v5).bind fun v6 => (bI .neq v4 v6).bind fun v7 => asB v7 fun t => bif t then (ret_ H2 [some (D.bool false)]) else ((fa 1 p1).bind fun v8 => (ld false 1 H2 v8).bind fun v9 => (fa 1 p2).bind fun v10 => (ld false 1 H2 v10).bind fun v11 => (bS .neq v9 v11).bind fun v12 => asB v12 fun t => bif t then (ret_ H2 [some (D.bool false)]) else ((fa 2 p1).bind fun v13 => (ld false 1 H2 v13).bind fun v14 => (fa 2 p2).bind fun v15 => (ld false 1 H2 v15).bind fun v16 => (bS .neq v14 v16).bind fun v17 => asB v17 fun t => bif t then (ret_ H2 [some (D.bool false)]) else ((fa 3 p1).bind fun v18 => (ld false 1 H2 v18).bind fun v19 => (fa 3 p2).bind fun v20 => (ld false 1 H2 v20).bind fun v21 => (bI .neq v19 v21).bind fun v22 => asB v22 fun t => bif t then (ret_ H2 [some (D.bool false)]) else ((fa 4 p1).bind fun v23 => (ld false 1 H2 v23).bind fun v24 => (fa 4 p2).bind fun v25 => (ld false 1 H2 v25).bind fun v26 => (bI .neq v24 v26).bind fun v27 => asB v27 fun t => bif t then (ret_ H2 [some (D.bool false)]) else ((fa 5 p1).bind fun v28 => (ld false 1 H2 v28).bind fun v29 => (fa 5 p2).bind fun v30 => (ld false 1 H2 v30).bind fun v31 => (bI .neq v29 v31).bind fun v32 => asB v32 fun t => bif t then (ret_ H2 [some (D.bool false)]) else (ret_ H2 [some (D.bool true)])))))) :=
  (ent_seg E 68 [] 400 [x0, x1] H).trans (by kernel_rfl)
-- laws.markText
theorem e69 (x0 : D) (H : Heap) :
    ent E 69 [x0] H =
    (bI .leq x0 (D.int .i64 0)).bind fun v1 => asB v1 fun t => bif t then (ret_ H [some (D.str [109, 48])]) else (J E 69 4 [x0, (D.str [])] H) :=
  (ent_seg E 69 [4] 400 [x0] H).trans (by kernel_rfl)
theorem j69_4 (x0 x3 : D) (H : Heap) :
    J E 69 4 [x0, x3] H =
    (bI .gtr x0 (D.int .i64 0)).bind fun v2 => asB v2 fun t => bif t then ((bI .rem x0 (D.int .i64 10)).bind fun v3 => (bI .add (D.int .i64 48) v3).bind fun v4 => (cI .u8 v4).bind fun v5 => (bsl 1 [.int .u8 0] H 1 [(0, v5)]).bind fun r6 => (cBS r6.2 r6.1).bind fun r7 => (bS .add r7.1 x3).bind fun v8 => (bI .quo x0 (D.int .i64 10)).bind fun v9 => J E 69 4 [v9, v8] r7.2) else ((bS .add (D.str [109]) x3).bind fun v10 => ret_ H [some v10]) :=
  (J_seg E 69 4 [4] 400 [x0, x3] H).trans (by kernel_rfl)
-- spec.l3Put
theorem e70 (x0 : D) (H : Heap) :
    ent E 70 [x0] H =
    J E 70 3 [x0, (D.str []), (D.int .i64 0)] H :=
  (ent_seg E 70 [3, 4] 400 [x0] H).trans (by kernel_rfl)
theorem j70_3 (x0 x3 x4 : D) (H : Heap) :
    J E 70 3 [x0, x3, x4] H =
    (lnL x0).bind fun v1 => (bI .lss x4 v1).bind fun v2 => asB v2 fun t => bif t then ((ia 3 H x0 x4).bind fun v3 => (ld true 3 H v3).bind fun v4 => alloc_ H [.int .i64 0, .int .i64 0, .int .i64 0] fun p5 H5 => (st 3 H5 p5 v4).bind fun H6 => (fa 1 p5).bind fun v7 => (ld false 1 H6 v7).bind fun v8 => (callFn E (exec E) .pure 99 [v8] H6).bind fun r9 => (bS .add x3 r9.1).bind fun v10 => (fa 1 p5).bind fun v11 => (ld false 1 r9.2 v11).bind fun v12 => (callFn E (exec E) .pure 97 [v12] r9.2).bind fun r13 => (bI .eql r13.1 (D.int .i64 1)).bind fun v14 => asB v14 fun t => bif t then ((fa 2 p5).bind fun v15 => (ld false 1 r13.2 v15).bind fun v16 => (callFn E (exec E) .pure 99 [v16] r13.2).bind fun r17 => (bS .add v10 r17.1).bind fun v18 => J E 70 4 [x0, v18, x4] r17.2) else ((bI .eql r13.1 (D.int .i64 2)).bind fun v19 => asB v19 fun t => bif t then ((fa 2 p5).bind fun v20 => (ld false 1 r13.2 v20).bind fun v21 => (bI .add v21 (D.int .i64 65536)).bind fun v22 => (bI .rem v22 (D.int .i64 65536)).bind fun v23 => (callFn E (exec E) .pure 100 [v23] r13.2).bind fun r24 => (bS .add v10 r24.1).bind fun v25 => J E 70 4 [x0, v25, x4] r24.2) else (J E 70 4 [x0, v10, x4] r13.2))) else (ret_ H [some x3]) :=
  (J_seg E 70 3 [3, 4] 400 [x0, x3, x4] H).trans (by kernel_rfl)
theorem j70_4 (x0 x3 x4 : D) (H : Heap) :
    J E 70 4 [x0, x3, x4] H =
    (bI .add x4 (D.int .i64 1)).bind fun v26 => J E 70 3 [x0, x3, v26] H :=
  (J_seg E 70 4 [3, 4] 400 [x0, x3, x4] H).trans (by kernel_rfl)
-- spec.l3Same
theorem e71 (x0 x1 : D) (H : Heap) :
    ent E 71 [x0, x1] H =
    (lnL x0).bind fun v1 => (lnL x1).bind fun v2 => (bI .neq v1 v2).bind fun v3 => asB v3 fun t => bif t then (ret_ H [some (D.bool false)]) else (J E 71 4 [x0, x1, (D.int .i64 0)] H) :=
  (ent_seg E 71 [4] 400 [x0, x1] H).trans (by kernel_rfl)
theorem j71_4 (x0 x1 x5 : D) (H : Heap) :
    J E 71 4 [x0, x1, x5] H =
    (lnL x0).bind fun v4 => (bI .lss x5 v4).bind fun v5 => asB v5 fun t => bif t then ((ia 3 H x0 x5).bind fun v6 => (ld true 3 H v6).bind fun v7 => (ia 3 H x1 x5).bind fun v8 => (ld true 3 H v8).bind fun v9 => (bA [.int .i64, .int .i64, .int .i64] .neq v7 v9).bind fun v10 => asB v10 fun t => bif t then (ret_ H [some (D.bool false)]) else ((bI .add x5 (D.int .i64 1)).bind fun v11 => J E 71 4 [x0, x1, v11] H)) else (ret_ H [some (D.bool true)]) :=
  (J_seg E 71 4 [4] 400 [x0, x1, x5] H).trans (by kernel_rfl)
-- laws.toIns
theorem e72 (x0 : D) (H : Heap) :
    ent E 72 [x0] H =
    alloc_ H (D.cells x0) fun p1 H1 => alloc_ H1 [.int .i64 0, .int .i64 0, .int .i64 0] fun p2 H2 => alloc_ H2 [.int .i64 0, .int .i64 0, .int .i64 0] fun p3 H3 => (fa 0 p1).bind fun v4 => (ld false 1 H3 v4).bind fun v5 => (fa 0 p3).bind fun v6 => (st 1 H3 v6 v5).bind fun H7 => (fa 1 p1).bind fun v8 => (ld false 1 H7 v8).bind fun v9 => (fa 1 p3).bind fun v10 => (st 1 H7 v10 v9).bind fun H11 => (fa 2 p1).bind fun v12 => (ld false 1 H11 v12).bind fun v13 => (fa 2 p3).bind fun v14 => (st 1 H11 v14 v13).bind fun H15 => (ld true 3 H15 p3).bind fun v16 => (st 3 H15 p2 v16).bind fun H17 => ret_ H17 [ld true 3 H17 p2] :=
  (ent_seg E 72 [] 400 [x0] H).trans (by kernel_rfl)
-- impl.put1
theorem e73 (x0 : D) (H : Heap) :
    ent E 73 [x0] H =
    (cI .u8 x0).bind fun v1 => (bsl 1 [.int .u8 0] H 1 [(0, v1)]).bind fun r2 => (cBS r2.2 r2.1).bind fun r3 => ret_ r3.2 [some r3.1] :=
  (ent_seg E 73 [] 400 [x0] H).trans (by kernel_rfl)
-- impl.put2
theorem e74 (x0 : D) (H : Heap) :
    ent E 74 [x0] H =
    (bI .shr x0 (D.int .u64 8)).bind fun v1 => (callFn E (exec E) .pure 73 [v1] H).bind fun r2 => (callFn E (exec E) .pure 73 [x0] r2.2).bind fun r3 => (bS .add r2.1 r3.1).bind fun v4 => ret_ r3.2 [some v4] :=
  (ent_seg E 74 [] 400 [x0] H).trans (by kernel_rfl)
-- slices.Equal[[]impl.Ins,impl.Ins]
theorem e75 (x0 x1 : D) (H : Heap) :
    ent E 75 [x0, x1] H =
    (lnL x0).bind fun v1 => (lnL x1).bind fun v2 => (bI .neq v1 v2).bind fun v3 => asB v3 fun t => bif t then (ret_ H [some (D.bool false)]) else ((lnL x0).bind fun v4 => J E 75 4 [x0, x1, v4, (D.int .i64 0)] H) :=
  (ent_seg E 75 [4] 400 [x0, x1] H).trans (by kernel_rfl)
theorem j75_4 (x0 x1 x12 x13 : D) (H : Heap) :
    J E 75 4 [x0, x1, x12, x13] H =
    (bI .lss x13 x12).bind fun v5 => asB v5 fun t => bif t then ((ia 3 H x0 x13).bind fun v6 => (ld true 3 H v6).bind fun v7 => (ia 3 H x1 x13).bind fun v8 => (ld true 3 H v8).bind fun v9 => (bA [.int .i64, .int .i64, .int .i64] .neq v7 v9).bind fun v10 => asB v10 fun t => bif t then (ret_ H [some (D.bool false)]) else ((bI .add x13 (D.int .i64 1)).bind fun v11 => J E 75 4 [x0, x1, x12, v11] H)) else (ret_ H [some (D.bool true)]) :=
  (J_seg E 75 4 [4] 400 [x0, x1, x12, x13] H).trans (by kernel_rfl)
-- spec.l15Open
theorem e76 (x0 : D) (H : Heap) :
    ent E 76 [x0] H =
    (lnL x0).bind fun v1 => (bI .gtr v1 (D.int .i64 2000)).bind fun v2 => asB v2 fun t => bif t then ((slL 1 H x0 none (some (D.int .i64 2000)) none).bind fun v3 => J E 76 3 [v3] H) else (J E 76 3 [x0] H) :=
  (ent_seg E 76 [3] 400 [x0] H).trans (by kernel_rfl)
theorem j76_3 (x0 : D) (H : Heap) :
    J E 76 3 [x0] H =
    (bld [.sl0, .int .i64 0] [(0, 1, false), (1, 1, false)] [(0, x0)]).bind fun v4 => alloc_ H (D.cells v4) fun p5 H5 => ret_ H5 [some p5] :=
  (J_seg E 76 3 [3] 400 [x0] H).trans (by kernel_rfl)
-- (*spec.l15Rd).of
theorem e77 (x0 x1 : D) (H : Heap) :
    ent E 77 [x0, x1] H =
    (lnL x1).bind fun v1 => (callFn E (exec E) .raw 83 [x0, v1] H).bind fun r2 => (ia 1 r2.2 x1 r2.1).bind fun v3 => (ld false 1 r2.2 v3).bind fun v4 => ret_ r2.2 [some v4] :=
  (ent_seg E 77 [] 400 [x0, x1] H).trans (by kernel_rfl)
-- strings.Cut
theorem e78 (x0 x1 : D) (H : Heap) :
    ent E 78 [x0, x1] H =
    (callFn E (exec E) .pure 101 [x0, x1] H).bind fun r1 => (extract r1.1 0).bind fun v2 => (extract r1.1 1).bind fun v3 => (extract r1.1 2).bind fun v4 => ret_ r1.2 [some v2, some v3, some v4] :=
  (ent_seg E 78 [] 400 [x0, x1] H).trans (by kernel_rfl)
-- strings.CutPrefix
theorem e79 (x0 x1 : D) (H : Heap) :
    ent E 79 [x0, x1] H =
    (callFn E (exec E) .pure 102 [x0, x1] H).bind fun r1 => (extract r1.1 0).bind fun v2 => (extract r1.1 1).bind fun v3 => ret_ r1.2 [some v2, some v3] :=
  (ent_seg E 79 [] 400 [x0, x1] H).trans (by kernel_rfl)
-- strings.IndexByte
theorem e80 (x0 x1 : D) (H : Heap) :
    ent E 80 [x0, x1] H =
    (callFn E (exec E) .pure 103 [x0, x1] H).bind fun r1 => ret_ r1.2 [some r1.1] :=
  (ent_seg E 80 [] 400 [x0, x1] H).trans (by kernel_rfl)
-- spec.l2Desc
theorem e81 (x0 : D) (H : Heap) :
    ent E 81 [x0] H =
    (bsl 1 [.str []] H 0 []).bind fun r1 => (lnS x0).bind fun v2 => (bI .eql v2 (D.int .i64 0)).bind fun v3 => asB v3 fun t => bif t then (ret_ r1.2 [some D.sl0, some (D.str []), some (D.bool false)]) else ((ix x0 (D.int .i64 0)).bind fun v4 => (bI .neq v4 (D.int .u8 40)).bind fun v5 => asB v5 fun t => bif t then (ret_ r1.2 [some D.sl0, some (D.str []), some (D.bool false)]) else (J E 81 5 [x0, r1.1, (D.int .i64 1)] r1.2)) :=
  (ent_seg E 81 [5] 400 [x0] H).trans (by kernel_rfl)
theorem j81_5 (x0 x5 x6 : D) (H : Heap) :
    J E 81 5 [x0, x5, x6] H =
    (lnS x0).bind fun v6 => (bI .lss x6 v6).bind fun v7 => asB v7 fun t => bif t then ((ix x0 x6).bind fun v8 => (bI .neq v8 (D.int .u8 41)).bind fun v9 => asB v9 fun t => bif t then ((callFn E (exec E) .pure 95 [x0, x6] H).bind fun r10 => (bI .lss r10.1 (D.int .i64 0)).bind fun v11 => asB v11 fun t => bif t then (ret_ r10.2 [some D.sl0, some (D.str []), some (D.bool false)]) else ((lnL x5).bind fun v12 => (bI .geq v12 (D.int .i64 4)).bind fun v13 => asB v13 fun t => bif t then (ret_ r10.2 [some D.sl0, some (D.str []), some (D.bool false)]) else ((slS x0 (some x6) (some r10.1) none).bind fun v14 => (bsl 1 [.str []] r10.2 1 [(0, v14)]).bind fun r15 => (app 1 16 r15.2 x5 r15.1).bind fun r16 => J E 81 5 [x0, r16.1, r10.1] r16.2))) else ((lnS x0).bind fun v17 => (bI .geq x6 v17).bind fun v18 => asB v18 fun t => bif t then (ret_ H [some D.sl0, some (D.str []), some (D.bool false)]) else ((bI .add x6 (D.int .i64 1)).bind fun v19 => (slS x0 (some v19) none none).bind fun v20 => (bS .neq v20 (D.str [86])).bind fun v21 => asB v21 fun t => bif t then ((callFn E (exec E) .pure 59 [v20] H).bind fun r22 => (unOp .not r22.1).bind fun v23 => asB v23 fun t => bif t then (ret_ r22.2 [some D.sl0, some (D.str []), some (D.bool false)]) else (ret_ r22.2 [some x5, some v20, some (D.bool true)])) else (ret_ H [some x5, some v20, some (D.bool true)])))) else ((lnS x0).bind fun v24 => (bI .geq x6 v24).bind fun v25 => asB v25 fun t => bif t then (ret_ H [some D.sl0, some (D.str []), some (D.bool false)]) else ((bI .add x6 (D.int .i64 1)).bind fun v26 => (slS x0 (some v26) none none).bind fun v27 => (bS .neq v27 (D.str [86])).bind fun v28 => asB v28 fun t => bif t then ((callFn E (exec E) .pure 59 [v27] H).bind fun r29 => (unOp .not r29.1).bind fun v30 => asB v30 fun t => bif t then (ret_ r29.2 [some D.sl0, some (D.str []), some (D.bool false)]) else (ret_ r29.2 [some x5, some v27, some (D.bool true)])) else (ret_ H [some x5, some v27, some (D.bool true)]))) :=
  (J_seg E 81 5 [5] 400 [x0, x5, x6] H).trans (by kernel_rfl)
-- (*spec.l15Rd).one
theorem e82 (x0 x1 : D) (H : Heap) :
    ent E 82 [x0, x1] H =
    (lnL x1).bind fun v1 => (callFn E (exec E) .raw 83 [x0, v1] H).bind fun r2 => (ia 1 r2.2 x1 r2.1).bind fun v3 => (ld false 1 r2.2 v3).bind fun v4 => ret_ r2.2 [some v4] :=
  (ent_seg E 82 [] 400 [x0, x1] H).trans (by kernel_rfl)
-- (*spec.l15Rd).pick
theorem e83 (x0 x1 : D) (H : Heap) :
    ent E 83 [x0, x1] H =
    (nilCheck x0).bind fun v1 => (fa 1 v1).bind fun v2 => (ld false 1 H v2).bind fun v3 => (bI .add v3 (D.int .i64 1)).bind fun v4 => (nilCheck x0).bind fun v5 => (fa 1 v5).bind fun v6 => (st 1 H v6 v4).bind fun H7 => (bI .lss x1 (D.int .i64 1)).bind fun v8 => asB v8 fun t => bif t then (ret_ H7 [some (D.int .i64 0)]) else ((nilCheck x0).bind fun v9 => (fa 0 v9).bind fun v10 => (ld false 1 H7 v10).bind fun v11 => (lnL v11).bind fun v12 => (bI .eql v12 (D.int .i64 0)).bind fun v13 => asB v13 fun t => bif t then (ret_ H7 [some (D.int .i64 0)]) else ((nilCheck x0).bind fun v14 => (fa 1 v14).bind fun v15 => (ld false 1 H7 v15).bind fun v16 => (bI .sub v16 (D.int .i64 1)).bind fun v17 => (nilCheck x0).bind fun v18 => (fa 0 v18).bind fun v19 => (ld false 1 H7 v19).bind fun v20 => (lnL v20).bind fun v21 => (bI .lss v17 v21).bind fun v22 => asB v22 fun t => bif t then ((nilCheck x0).bind fun v23 => (fa 0 v23).bind fun v24 => (ld false 1 H7 v24).bind fun v25 => (ia 1 H7 v25 v17).bind fun v26 => (ld false 1 H7 v26).bind fun v27 => (cI .i64 v27).bind fun v28 => (bI .rem v28 x1).bind fun v29 => ret_ H7 [some v29]) else (J E 83 7 [x0, x1, v17] H7))) :=
  (ent_seg E 83 [7] 400 [x0, x1] H).trans (by kernel_rfl)
theorem j83_7 (x0 x1 x5 : D) (H : Heap) :
    J E 83 7 [x0, x1, x5] H =
    (nilCheck x0).bind fun v30 => (fa 0 v30).bind fun v31 => (ld false 1 H v31).bind fun v32 => (nilCheck x0).bind fun v33 => (fa 0 v33).bind fun v34 => (ld false 1 H v34).bind fun v35 => (lnL v35).bind fun v36 => (bI .rem x5 v36).bind fun v37 => (ia 1 H v32 v37).bind fun v38 => (ld false 1 H v38).bind fun v39 => (cI .i64 v39).bind fun v40 => (bI .mul v40 (D.int .i64 131)).bind fun v41 => (nilCheck x0).bind fun v42 => (fa 0 v42).bind fun v43 => (ld false 1 H v43).bind fun v44 => (bI .mul x5 (D.int .i64 7)).bind fun v45 => (bI .add v45 (D.int .i64 3)).bind fun v46 => (nilCheck x0).bind fun v47 => (fa 0 v47).bind fun v48 => (ld false 1 H v48).bind fun v49 => (lnL v49).bind fun v50 => (bI .rem v46 v50).bind fun v51 => (ia 1 H v44 v51).bind fun v52 => (ld false 1 H v52).bind fun v53 => (cI .i64 v53).bind fun v54 => (bI .mul v54 (D.int .i64 1117)).bind fun v55 => (bI .add v41 v55).bind fun v56 => (bI .mul x5 (D.int .i64 29)).bind fun v57 => (bI .add v56 v57).bind fun v58 => (nilCheck x0).bind fun v59 => (fa 0 v59).bind fun v60 => (ld false 1 H v60).bind fun v61 => (lnL v61).bind fun v62 => (bI .quo x5 v62).bind fun v63 => (bI .mul v63 (D.int .i64 53)).bind fun v64 => (bI .add v58 v64).bind fun v65 => (bI .quo v65 (D.int .i64 64)).bind fun v66 => (bI .xor v65 v66).bind fun v67 => (bI .rem v67 x1).bind fun v68 => ret_ H [some v68] :=
  (J_seg E 83 7 [7] 400 [x0, x1, x5] H).trans (by kernel_rfl)
-- laws.szLoader
theorem e84 (x0 x1 : D) (H : Heap) :
    ent E 84 [x0, x1] H =
    alloc_ H (D.cells x0) fun p1 H1 => (fa 0 p1).bind fun v2 => (ld false 1 H1 v2).bind fun v3 => (callFn E (exec E) .pure 104 [v3, x1] H1).bind fun r4 => (bI .lss r4.1 (D.int .i64 0)).bind fun v5 => asB v5 fun t => bif t then (ret_ r4.2 [some (D.int .i64 (-1))]) else ((fa 1 p1).bind fun v6 => (ld false 1 r4.2 v6).bind fun v7 => (callFn E (exec E) .pure 105 [v7, r4.1] r4.2).bind fun r8 => (bI .lss r8.1 (D.int .i64 0)).bind fun v9 => asB v9 fun t => bif t then (ret_ r8.2 [some (D.int .i64 (-1))]) else (ret_ r8.2 [some r8.1])) :=
  (ent_seg E 84 [] 400 [x0, x1] H).trans (by kernel_rfl)
-- spec.PathOf
theorem e85 (x0 x1 x2 : D) (H : Heap) :
    ent E 85 [x0, x1, x2] H =
    (callFn E (exec E) .pure 106 [x0, x1, x2] H).bind fun r1 => (unOp .not r1.1).bind fun v2 => asB v2 fun t => bif t then (ret_ r1.2 [some D.sl0]) else ((callFn E (exec E) .view 107 [x0, x1, x2] r1.2).bind fun r3 => (extract r3.1 0).bind fun v4 => (extract r3.1 1).bind fun v5 => (unOp .not v5).bind fun v6 => asB v6 fun t => bif t then (ret_ r3.2 [some D.sl0]) else (ret_ r3.2 [some v4])) :=
  (ent_seg E 85 [] 400 [x0, x1, x2] H).trans (by kernel_rfl)
-- laws.toLoader
theorem e86 (x0 : D) (H : Heap) :
    ent E 86 [x0] H =
    alloc_ H (D.cells x0) fun p1 H1 => alloc_ H1 [.sl0, .sl0, .int .i64 0] fun p2 H2 => alloc_ H2 [.sl0, .sl0, .int .i64 0] fun p3 H3 => (fa 0 p1).bind fun v4 => (ld false 1 H3 v4).bind fun v5 => (callFn E (exec E) .own 108 [v5] H3).bind fun r6 => (fa 0 p3).bind fun v7 => (st 1 r6.2 v7 r6.1).bind fun H8 => (fa 1 p1).bind fun v9 => (ld false 1 H8 v9).bind fun v10 => (callFn E (exec E) .own 109 [v10] H8).bind fun r11 => (fa 1 p3).bind fun v12 => (st 1 r11.2 v12 r11.1).bind fun H13 => (fa 2 p1).bind fun v14 => (ld false 1 H13 v14).bind fun v15 => (fa 2 p3).bind fun v16 => (st 1 H13 v16 v15).bind fun H17 => (ld true 3 H17 p3).bind fun v18 => (st 3 H17 p2 v18).bind fun H19 => ret_ H19 [ld true 3 H19 p2] :=
  (ent_seg E 86 [] 400 [x0] H).trans (by kernel_rfl)
-- impl.PathOf
theorem e87 (x0 x1 x2 : D) (H : Heap) :
    ent E 87 [x0, x1, x2] H =
    (callFn E (exec E) .pure 110 [x0, x1, x2] H).bind fun r1 => (unOp .not r1.1).bind fun v2 => asB v2 fun t => bif t then (ret_ r1.2 [some D.sl0]) else ((callFn E (exec E) .own 111 [x0, x1, x2] r1.2).bind fun r3 => (extract r3.1 0).bind fun v4 => (extract r3.1 1).bind fun v5 => (unOp .not v5).bind fun v6 => asB v6 fun t => bif t then (ret_ r3.2 [some D.sl0]) else (ret_ r3.2 [some v4])) :=
  (ent_seg E 87 [] 400 [x0, x1, x2] H).trans (by kernel_rfl)
-- laws.eqLoader
theorem e88 (x0 x1 : D) (H : Heap) :
    ent E 88 [x0, x1] H =
    alloc_ H (D.cells x0) fun p1 H1 => alloc_ H1 (D.cells x1) fun p2 H2 => (fa 0 p1).bind fun v3 => (ld false 1 H2 v3).bind fun v4 => (fa 0 p2).bind fun v5 => (ld false 1 H2 v5).bind fun v6 => (callFn E (exec E) .pure 112 [v4, v6] H2).bind fun r7 => (unOp .not r7.1).bind fun v8 => asB v8 fun t => bif t then (ret_ r7.2 [some (D.bool false)]) else ((fa 1 p1).bind fun v9 => (ld false 1 r7.2 v9).bind fun v10 => (fa 1 p2).bind fun v11 => (ld false 1 r7.2 v11).bind fun v12 => (callFn E (exec E) .pure 113 [v10, v12] r7.2).bind fun r13 => (unOp .not r13.1).bind fun v14 => asB v14 fun t => bif t then (ret_ r13.2 [some (D.bool false)]) else ((fa 2 p1).bind fun v15 => (ld false 1 r13.2 v15).bind fun v16 => (fa 2 p2).bind fun v17 => (ld false 1 r13.2 v17).bind fun v18 => (bI .neq v16 v18).bind fun v19 => asB v19 fun t => bif t then (ret_ r13.2 [some (D.bool false)]) else (ret_ r13.2 [some (D.bool true)]))) :=
  (ent_seg E 88 [] 400 [x0, x1] H).trans (by kernel_rfl)
-- laws.szConst
theorem e89 (x0 x1 : D) (H : Heap) :
    ent E 89 [x0, x1] H =
    alloc_ H (D.cells x0) fun p1 H1 => (fa 1 p1).bind fun v2 => (ld false 1 H1 v2).bind fun v3 => (lnS v3).bind fun v4 => (bI .sub x1 v4).bind fun v5 => (bI .lss v5 (D.int .i64 0)).bind fun v6 => asB v6 fun t => bif t then (ret_ H1 [some (D.int .i64 (-1))]) else (ret_ H1 [some v5]) :=
  (ent_seg E 89 [] 400 [x0, x1] H).trans (by kernel_rfl)
-- spec.l2Entry
theorem e90 (x0 x1 : D) (H : Heap) :
    ent E 90 [x0, x1] H =
    (ia 4 H x0 x1).bind fun v1 => (ld true 4 H v1).bind fun v2 => alloc_ H [.int .i64 0, .str [], .int .i64 0, .int .i64 0] fun p3 H3 => (st 4 H3 p3 v2).bind fun H4 => (fa 0 p3).bind fun v5 => (ld false 1 H4 v5).bind fun v6 => (bI .eql v6 (D.int .i64 1)).bind fun v7 => asB v7 fun t => bif t then ((fa 2 p3).bind fun v8 => (ld false 1 H4 v8).bind fun v9 => (bI .eql v9 (D.int .i64 0)).bind fun v10 => asB v10 fun t => bif t then ((fa 3 p3).bind fun v11 => (ld false 1 H4 v11).bind fun v12 => (bI .eql v12 (D.int .i64 0)).bind fun v13 => asB v13 fun t => bif t then ((fa 1 p3).bind fun v14 => (ld false 1 H4 v14).bind fun v15 => (callFn E (exec E) .pure 57 [v15] H4).bind fun r16 => asB r16.1 fun t => bif t then (ret_ r16.2 [some (D.bool true)]) else ((fa 1 p3).bind fun v17 => (ld false 1 r16.2 v17).bind fun v18 => (callFn E (exec E) .pure 59 [v18] r16.2).bind fun r19 => asB r19.1 fun t => bif t then (ret_ r19.2 [some (D.bool true)]) else ((fa 1 p3).bind fun v20 => (ld false 1 r19.2 v20).bind fun v21 => (callFn E (exec E) .pure 114 [v21] r19.2).bind fun r22 => ret_ r22.2 [some r22.1]))) else (ret_ H4 [some (D.bool false)])) else (ret_ H4 [some (D.bool false)])) else ((bI .eql v6 (D.int .i64 2)).bind fun v23 => asB v23 fun t => bif t then ((fa 1 p3).bind fun v24 => (ld false 1 H4 v24).bind fun v25 => (bS .eql v25 (D.str [])).bind fun v26 => asB v26 fun t => bif t then ((fa 3 p3).bind fun v27 => (ld false 1 H4 v27).bind fun v28 => (bI .eql v28 (D.int .i64 0)).bind fun v29 => asB v29 fun t => bif t then ((bI .add x1 (D.int .i64 1)).bind fun v30 => (callFn E (exec E) .pure 115 [x0, v30] H4).bind fun r31 => (bS .neq r31.1 (D.str [])).bind fun v32 => ret_ r31.2 [some v32]) else (ret_ H4 [some (D.bool false)])) else (ret_ H4 [some (D.bool false)])) else ((bI .eql v6 (D.int .i64 3)).bind fun v33 => asB v33 fun t => bif t then ((fa 3 p3).bind fun v34 => (ld false 1 H4 v34).bind fun v35 => (callFn E (exec E) .pure 116 [x0, v35] H4).bind fun r36 => (fa 1 p3).bind fun v37 => (ld false 1 r36.2 v37).bind fun v38 => (bS .eql v38 (D.str [])).bind fun v39 => asB v39 fun t => bif t then ((fa 2 p3).bind fun v40 => (ld false 1 r36.2 v40).bind fun v41 => (callFn E (exec E) .pure 116 [x0, v41] r36.2).bind fun r42 => (callFn E (exec E) .pure 57 [r42.1] r42.2).bind fun r43 => asB r43.1 fun t => bif t then ((callFn E (exec E) .pure 59 [r36.1] r43.2).bind fun r44 => asB r44.1 fun t => bif t then (ret_ r44.2 [some (D.bool true)]) else ((callFn E (exec E) .pure 114 [r36.1] r44.2).bind fun r45 => ret_ r45.2 [some r45.1])) else (ret_ r43.2 [some (D.bool false)])) else (ret_ r36.2 [some (D.bool false)])) else ((bI .add x1 (D.int .i64 1)).bind fun v46 => (callFn E (exec E) .pure 117 [x0, v46] H4).bind fun r47 => (extract r47.1 0).bind fun v48 => (extract r47.1 1).bind fun v49 => (extract r47.1 2).bind fun v50 => (fa 0 p3).bind fun v51 => (ld false 1 r47.2 v51).bind fun v52 => (callFn E (exec E) .pure 66 [v52, (D.int .i64 4), (D.int .i64 6)] r47.2).bind fun r53 => (unOp .not r53.1).bind fun v54 => asB v54 fun t => bif t then (ret_ r53.2 [some (D.bool false)]) else ((fa 1 p3).bind fun v55 => (ld false 1 r53.2 v55).bind fun v56 => (bS .neq v56 (D.str [])).bind fun v57 => asB v57 fun t => bif t then (ret_ r53.2 [some (D.bool false)]) else ((fa 2 p3).bind fun v58 => (ld false 1 r53.2 v58).bind fun v59 => (callFn E (exec E) .pure 115 [x0, v59] r53.2).bind fun r60 => (bS .eql r60.1 (D.str [])).bind fun v61 => asB v61 fun t => bif t then (ret_ r60.2 [some (D.bool false)]) else ((fa 3 p3).bind fun v62 => (ld false 1 r60.2 v62).bind fun v63 => (callFn E (exec E) .pure 118 [x0, v63, (D.int .i64 3)] r60.2).bind fun r64 => (unOp .not r64.1).bind fun v65 => asB v65 fun t => bif t then (ret_ r64.2 [some (D.bool false)]) else ((fa 0 p3).bind fun v66 => (ld false 1 r64.2 v66).bind fun v67 => (bI .eql v67 (D.int .i64 4)).bind fun v68 => asB v68 fun t => bif t then ((callFn E (exec E) .pure 59 [v50] r64.2).bind fun r69 => ret_ r69.2 [some r69.1]) else ((callFn E (exec E) .pure 114 [v50] r64.2).bind fun r70 => ret_ r70.2 [some r70.1])))))))) :=
  (ent_seg E 90 [] 400 [x0, x1] H).trans (by kernel_rfl)
-- laws.toConst
theorem e91 (x0 : D) (H : Heap) :
    ent E 91 [x0] H =
    alloc_ H (D.cells x0) fun p1 H1 => alloc_ H1 [.int .i64 0, .str [], .int .i64 0, .int .i64 0] fun p2 H2 => alloc_ H2 [.int .i64 0, .str [], .int .i64 0, .int .i64 0] fun p3 H3 => (fa 0 p1).bind fun v4 => (ld false 1 H3 v4).bind fun v5 => (fa 0 p3).bind fun v6 => (st 1 H3 v6 v5).bind fun H7 => (fa 1 p1).bind fun v8 => (ld false 1 H7 v8).bind fun v9 => (fa 1 p3).bind fun v10 => (st 1 H7 v10 v9).bind fun H11 => (fa 2 p1).bind fun v12 => (ld false 1 H11 v12).bind fun v13 => (fa 2 p3).bind fun v14 => (st 1 H11 v14 v13).bind fun H15 => (fa 3 p1).bind fun v16 => (ld false 1 H15 v16).bind fun v17 => (fa 3 p3).bind fun v18 => (st 1 H15 v18 v17).bind fun H19 => (ld true 4 H19 p3).bind fun v20 => (st 4 H19 p2 v20).bind fun H21 => ret_ H21 [ld true 4 H21 p2] :=
  (ent_seg E 91 [] 400 [x0] H).trans (by kernel_rfl)
-- impl.entryOk
theorem e92 (x0 x1 : D) (H : Heap) :
    ent E 92 [x0, x1] H =
    alloc_ H (D.cells x0) fun p1 H1 => alloc_ H1 (D.cells x1) fun p2 H2 => (fa 0 p2).bind fun v3 => (ld false 1 H2 v3).bind fun v4 => (bI .eql v4 (D.int .i64 1)).bind fun v5 => asB v5 fun t => bif t then ((fa 2 p2).bind fun v6 => (ld false 1 H2 v6).bind fun v7 => (bI .eql v7 (D.int .i64 0)).bind fun v8 => asB v8 fun t => bif t then ((fa 3 p2).bind fun v9 => (ld false 1 H2 v9).bind fun v10 => (bI .eql v10 (D.int .i64 0)).bind fun v11 => asB v11 fun t => bif t then ((fa 1 p2).bind fun v12 => (ld false 1 H2 v12).bind fun v13 => (callFn E (exec E) .pure 16 [v13] H2).bind fun r14 => asB r14.1 fun t => bif t then (ret_ r14.2 [some (D.bool true)]) else ((fa 1 p2).bind fun v15 => (ld false 1 r14.2 v15).bind fun v16 => (callFn E (exec E) .pure 119 [v16] r14.2).bind fun r18 => ret_ r18.2 [some r18.1])) else (ret_ H2 [some (D.bool false)])) else (ret_ H2 [some (D.bool false)])) else ((bI .eql v4 (D.int .i64 2)).bind fun v19 => asB v19 fun t => bif t then ((fa 1 p2).bind fun v20 => (ld false 1 H2 v20).bind fun v21 => (bS .eql v21 (D.str [])).bind fun v22 => asB v22 fun t => bif t then ((fa 3 p2).bind fun v23 => (ld false 1 H2 v23).bind fun v24 => (bI .eql v24 (D.int .i64 0)).bind fun v25 => asB v25 fun t => bif t then ((ld false 1 H2 p1).bind fun v26 => (fa 2 p2).bind fun v27 => (ld false 1 H2 v27).bind fun v28 => (callFn E (exec E) .raw 124 [v26, v28, (D.fn 16 [])] H2).bind fun r29 => ret_ r29.2 [some r29.1]) else (ret_ H2 [some (D.bool false)])) else (ret_ H2 [some (D.bool false)])) else ((bI .eql v4 (D.int .i64 3)).bind fun v30 => asB v30 fun t => bif t then ((fa 1 p2).bind fun v31 => (ld false 1 H2 v31).bind fun v32 => (bS .eql v32 (D.str [])).bind fun v33 => asB v33 fun t => bif t then ((ld false 1 H2 p1).bind fun v34 => (fa 2 p2).bind fun v35 => (ld false 1 H2 v35).bind fun v36 => (callFn E (exec E) .raw 124 [v34, v36, (D.fn 16 [])] H2).bind fun r37 => asB r37.1 fun t => bif t then ((ld false 1 r37.2 p1).bind fun v38 => (fa 3 p2).bind fun v39 => (ld false 1 r37.2 v39).bind fun v40 => (callFn E (exec E) .raw 124 [v38, v40, (D.fn 119 [])] r37.2).bind fun r41 => ret_ r41.2 [some r41.1]) else (ret_ r37.2 [some (D.bool false)])) else (ret_ H2 [some (D.bool false)])) else ((bI .eql v4 (D.int .i64 4)).bind fun v42 => asB v42 fun t => bif t then ((callFn E (exec E) .raw 121 [(D.fn 18 []), p1, p2] H2).bind fun r44 => ret_ r44.2 [some r44.1]) else ((bI .eql v4 (D.int .i64 5)).bind fun v45 => asB v45 fun t => bif t then (asB v45 fun t => bif t then (J E 92 14 [(D.fn 121 [p1, p2])] H2) else (J E 92 15 [] H2)) else ((bI .eql v4 (D.int .i64 6)).bind fun v46 => asB v46 fun t => bif t then (J E 92 14 [(D.fn 121 [p1, p2])] H2) else (J E 92 15 [] H2)))))) :=
  (ent_seg E 92 [14, 15] 400 [x0, x1] H).trans (by kernel_rfl)
theorem j92_14 (x6 : D) (H : Heap) :
    J E 92 14 [x6] H =
    asFn x6 fun gq47 cq47 => (callFn E (exec E) (modeT 92 gq47) gq47 ([(D.fn 120 [])] ++ cq47) H).bind fun r48 => ret_ r48.2 [some r48.1] :=
  (J_seg E 92 14 [14, 15] 400 [x6] H).trans (by kernel_rfl)
theorem j92_15 (H : Heap) :
    J E 92 15 [] H =
    ret_ H [some (D.bool false)] :=
  (J_seg E 92 15 [14, 15] 400 [] H).trans (by kernel_rfl)
-- laws.eqConst
theorem e93 (x0 x1 : D) (H : Heap) :
    ent E 93 [x0, x1] H =
    alloc_ H (D.cells x0) fun p1 H1 => alloc_ H1 (D.cells x1) fun p2 H2 => (fa 0 p1).bind fun v3 => (ld false 1 H2 v3).bind fun v4 => (fa 0 p2).bind fun v5 => (ld false 1 H2 v5).bind fun v6 => (bI .neq v4 v6).bind fun v7 => asB v7 fun t => bif t then (ret_ H2 [some (D.bool false)]) else ((fa 1 p1).bind fun v8 => (ld false 1 H2 v8).bind fun v9 => (fa 1 p2).bind fun v10 => (ld false 1 H2 v10).bind fun v11 => (bS .neq v9 v11).bind fun v12 => asB v12 fun t => bif t then (ret_ H2 [some (D.bool false)]) else ((fa 2 p1).bind fun v13 => (ld false 1 H2 v13).bind fun v14 => (fa 2 p2).bind fun v15 => (ld false 1 H2 v15).bind fun v16 => (bI .neq v14 v16).bind fun v17 => asB v17 fun t => bif t then (ret_ H2 [some (D.bool false)]) else ((fa 3 p1).bind fun v18 => (ld false 1 H2 v18).bind fun v19 => (fa 3 p2).bind fun v20 => (ld false 1 H2 v20).bind fun v21 => (bI .neq v19 v21).bind fun v22 => asB v22 fun t => bif t then (ret_ H2 [some (D.bool false)]) else (ret_ H2 [some (D.bool true)])))) :=
  (ent_seg E 93 [] 400 [x0, x1] H).trans (by kernel_rfl)
-- spec.l2Letter
theorem e94 (x0 : D) (H : Heap) :
    ent E 94 [x0] H =
    (bI .geq x0 (D.int .u8 97)).bind fun v1 => asB v1 fun t => bif t then ((bI .leq x0 (D.int .u8 122)).bind fun v2 => asB v2 fun t => bif t then (ret_ H [some (D.bool true)]) else ((bI .geq x0 (D.int .u8 65)).bind fun v3 => asB v3 fun t => bif t then ((bI .leq x0 (D.int .u8 90)).bind fun v4 => ret_ H [some v4]) else (ret_ H [some (D.bool false)]))) else ((bI .geq x0 (D.int .u8 65)).bind fun v5 => asB v5 fun t => bif t then ((bI .leq x0 (D.int .u8 90)).bind fun v6 => ret_ H [some v6]) else (ret_ H [some (D.bool false)])) :=
  (ent_seg E 94 [] 400 [x0] H).trans (by kernel_rfl)
-- spec.l2TypeEnd
theorem e95 (x0 x1 : D) (H : Heap) :
    ent E 95 [x0, x1] H =
    (lnS x0).bind fun v1 => (bI .lss x1 v1).bind fun v2 => asB v2 fun t => bif t then ((ix x0 x1).bind fun v3 => (bI .eql v3 (D.int .u8 73)).bind fun v4 => asB v4 fun t => bif t then ((bI .add x1 (D.int .i64 1)).bind fun v5 => ret_ H [some v5]) else ((lnS x0).bind fun v6 => (bI .geq x1 v6).bind fun v7 => asB v7 fun t => bif t then (ret_ H [some (D.int .i64 (-1))]) else ((ix x0 x1).bind fun v8 => (bI .neq v8 (D.int .u8 76)).bind fun v9 => asB v9 fun t => bif t then (ret_ H [some (D.int .i64 (-1))]) else ((bI .add x1 (D.int .i64 1)).bind fun v10 => J E 95 6 [x0, x1, v10] H)))) else ((lnS x0).bind fun v11 => (bI .geq x1 v11).bind fun v12 => asB v12 fun t => bif t then (ret_ H [some (D.int .i64 (-1))]) else ((ix x0 x1).bind fun v13 => (bI .neq v13 (D.int .u8 76)).bind fun v14 => asB v14 fun t => bif t then (ret_ H [some (D.int .i64 (-1))]) else ((bI .add x1 (D.int .i64 1)).bind fun v15 => J E 95 6 [x0, x1, v15] H))) :=
  (ent_seg E 95 [6] 400 [x0, x1] H).trans (by kernel_rfl)
theorem j95_6 (x0 x1 x5 : D) (H : Heap) :
    J E 95 6 [x0, x1, x5] H =
    (lnS x0).bind fun v16 => (bI .lss x5 v16).bind fun v17 => asB v17 fun t => bif t then ((ix x0 x5).bind fun v18 => (bI .eql v18 (D.int .u8 59)).bind fun v19 => asB v19 fun t => bif t then ((bI .add x1 (D.int .i64 1)).bind fun v20 => (slS x0 (some v20) (some x5) none).bind fun v21 => (callFn E (exec E) .pure 57 [v21] H).bind fun r22 => asB r22.1 fun t => bif t then ((bI .add x5 (D.int .i64 1)).bind fun v23 => ret_ r22.2 [some v23]) else (ret_ r22.2 [some (D.int .i64 (-1))])) else ((bI .add x5 (D.int .i64 1)).bind fun v24 => J E 95 6 [x0, x1, v24] H)) else (ret_ H [some (D.int .i64 (-1))]) :=
  (J_seg E 95 6 [6] 400 [x0, x1, x5] H).trans (by kernel_rfl)
-- strings.CutSuffix
theorem e96 (x0 x1 : D) (H : Heap) :
    ent E 96 [x0, x1] H =
    (callFn E (exec E) .pure 125 [x0, x1] H).bind fun r1 => (extract r1.1 0).bind fun v2 => (extract r1.1 1).bind fun v3 => ret_ r1.2 [some v2, some v3] :=
  (ent_seg E 96 [] 400 [x0, x1] H).trans (by kernel_rfl)
-- spec.l3Args
theorem e97 (x0 : D) (H : Heap) :
    ent E 97 [x0] H =
    (bI .eql x0 (D.int .i64 1)).bind fun v1 => asB v1 fun t => bif t then (ret_ H [some (D.int .i64 2)]) else ((bI .eql x0 (D.int .i64 3)).bind fun v2 => asB v2 fun t => bif t then (asB v2 fun t => bif t then (J E 97 8 [] H) else (J E 97 9 [x0] H)) else ((bI .eql x0 (D.int .i64 4)).bind fun v3 => asB v3 fun t => bif t then (asB v3 fun t => bif t then (J E 97 8 [] H) else (J E 97 9 [x0] H)) else ((bI .eql x0 (D.int .i64 5)).bind fun v4 => asB v4 fun t => bif t then (asB v4 fun t => bif t then (J E 97 8 [] H) else (J E 97 9 [x0] H)) else ((bI .eql x0 (D.int .i64 6)).bind fun v5 => asB v5 fun t => bif t then (J E 97 8 [] H) else (J E 97 9 [x0] H))))) :=
  (ent_seg E 97 [8, 9] 400 [x0] H).trans (by kernel_rfl)
theorem j97_8 (H : Heap) :
    J E 97 8 [] H =
    ret_ H [some (D.int .i64 1)] :=
  (J_seg E 97 8 [8, 9] 400 [] H).trans (by kernel_rfl)
theorem j97_9 (x0 : D) (H : Heap) :
    J E 97 9 [x0] H =
    (callFn E (exec E) .pure 66 [x0, (D.int .i64 14), (D.int .i64 18)] H).bind fun r6 => asB r6.1 fun t => bif t then (ret_ r6.2 [some (D.int .i64 2)]) else ((callFn E (exec E) .pure 66 [x0, (D.int .i64 19), (D.int .i64 29)] r6.2).bind fun r7 => asB r7.1 fun t => bif t then (ret_ r7.2 [some (D.int .i64 2)]) else ((callFn E (exec E) .pure 66 [x0, (D.int .i64 0), (D.int .i64 34)] r7.2).bind fun r8 => asB r8.1 fun t => bif t then (ret_ r8.2 [some (D.int .i64 0)]) else (ret_ r8.2 [some (D.int .i64 (-1))]))) :=
  (J_seg E 97 9 [8, 9] 400 [x0] H).trans (by kernel_rfl)
-- spec.l3Num
theorem e98 (x0 x1 : D) (H : Heap) :
    ent E 98 [x0, x1] H =
    (lnS x0).bind fun v1 => (bI .eql v1 (D.int .i64 0)).bind fun v2 => asB v2 fun t => bif t then (ret_ H [some (D.int .i64 0)]) else ((ix x0 (D.int .i64 0)).bind fun v3 => (cI .i64 v3).bind fun v4 => (lnS x0).bind fun v5 => (bI .eql v5 (D.int .i64 2)).bind fun v6 => asB v6 fun t => bif t then ((bI .mul v4 (D.int .i64 256)).bind fun v7 => (ix x0 (D.int .i64 1)).bind fun v8 => (cI .i64 v8).bind fun v9 => (bI .add v7 v9).bind fun v10 => J E 98 6 [x1, v10] H) else (J E 98 6 [x1, v4] H)) :=
  (ent_seg E 98 [6] 400 [x0, x1] H).trans (by kernel_rfl)
theorem j98_6 (x1 x5 : D) (H : Heap) :
    J E 98 6 [x1, x5] H =
    (bI .eql x1 (D.int .i64 1)).bind fun v11 => asB v11 fun t => bif t then ((bI .geq x5 (D.int .i64 32768)).bind fun v12 => asB v12 fun t => bif t then ((bI .sub x5 (D.int .i64 65536)).bind fun v13 => ret_ H [some v13]) else (ret_ H [some x5])) else (ret_ H [some x5]) :=
  (J_seg E 98 6 [6] 400 [x1, x5] H).trans (by kernel_rfl)
-- spec.l1One
theorem e99 (x0 : D) (H : Heap) :
    ent E 99 [x0] H =
    (cI .u8 x0).bind fun v1 => (bsl 1 [.int .u8 0] H 1 [(0, v1)]).bind fun r2 => (cBS r2.2 r2.1).bind fun r3 => ret_ r3.2 [some r3.1] :=
  (ent_seg E 99 [] 400 [x0] H).trans (by kernel_rfl)
-- spec.l1Two
theorem e100 (x0 : D) (H : Heap) :
    ent E 100 [x0] H =
    (bI .quo x0 (D.int .i64 256)).bind fun v1 => (cI .u8 v1).bind fun v2 => (bI .rem x0 (D.int .i64 256)).bind fun v3 => (cI .u8 v3).bind fun v4 => (bsl 1 [.int .u8 0] H 2 [(0, v2), (1, v4)]).bind fun r5 => (cBS r5.2 r5.1).bind fun r6 => ret_ r6.2 [some r6.1] :=
  (ent_seg E 100 [] 400 [x0] H).trans (by kernel_rfl)
-- internal/stringslite.Cut
theorem e101 (x0 x1 : D) (H : Heap) :
    ent E 101 [x0, x1] H =
    (callFn E (exec E) .pure 126 [x0, x1] H).bind fun r1 => (bI .geq r1.1 (D.int .i64 0)).bind fun v2 => asB v2 fun t => bif t then ((slS x0 none (some r1.1) none).bind fun v3 => (lnS x1).bind fun v4 => (bI .add r1.1 v4).bind fun v5 => (slS x0 (some v5) none none).bind fun v6 => ret_ r1.2 [some v3, some v6, some (D.bool true)]) else (ret_ r1.2 [some x0, some (D.str []), some (D.bool false)]) :=
  (ent_seg E 101 [] 400 [x0, x1] H).trans (by kernel_rfl)
-- internal/stringslite.CutPrefix
theorem e102 (x0 x1 : D) (H : Heap) :
    ent E 102 [x0, x1] H =
    (callFn E (exec E) .pure 127 [x0, x1] H).bind fun r1 => (unOp .not r1.1).bind fun v2 => asB v2 fun t => bif t then (ret_ r1.2 [some x0, some (D.bool false)]) else ((lnS x1).bind fun v3 => (slS x0 (some v3) none none).bind fun v4 => ret_ r1.2 [some v4, some (D.bool true)]) :=
  (ent_seg E 102 [] 400 [x0, x1] H).trans (by kernel_rfl)
-- internal/stringslite.IndexByte
theorem e103 (x0 x1 : D) (H : Heap) :
    ent E 103 [x0, x1] H =
    (callFn E (exec E) .ext 128 [x0, x1] H).bind fun r1 => ret_ r1.2 [some r1.1] :=
  (ent_seg E 103 [] 400 [x0, x1] H).trans (by kernel_rfl)
-- laws.szFileS
theorem e104 (x0 x1 : D) (H : Heap) :
    ent E 104 [x0, x1] H =
    (lnL x0).bind fun v1 => (bI .sub x1 v1).bind fun v2 => (bI .lss v2 (D.int .i64 0)).bind fun v3 => asB v3 fun t => bif t then (ret_ H [some (D.int .i64 (-1))]) else (J E 104 5 [x0, v2, (D.int .i64 0)] H) :=
  (ent_seg E 104 [5] 400 [x0, x1] H).trans (by kernel_rfl)
theorem j104_5 (x0 x1 x5 : D) (H : Heap) :
    J E 104 5 [x0, x1, x5] H =
    (lnL x0).bind fun v4 => (bI .lss x5 v4).bind fun v5 => asB v5 fun t => bif t then ((ia 2 H x0 x5).bind fun v6 => (ld true 2 H v6).bind fun v7 => (callFn E (exec E) .pure 129 [v7, x1] H).bind fun r8 => (bI .lss r8.1 (D.int .i64 0)).bind fun v9 => asB v9 fun t => bif t then (ret_ r8.2 [some (D.int .i64 (-1))]) else ((bI .add x5 (D.int .i64 1)).bind fun v10 => J E 104 5 [x0, r8.1, v10] r8.2)) else (ret_ H [some x1]) :=
  (J_seg E 104 5 [5] 400 [x0, x1, x5] H).trans (by kernel_rfl)
-- laws.szWayS
theorem e105 (x0 x1 : D) (H : Heap) :
    ent E 105 [x0, x1] H =
    (lnL x0).bind fun v1 => (bI .sub x1 v1).bind fun v2 => (bI .lss v2 (D.int .i64 0)).bind fun v3 => asB v3 fun t => bif t then (ret_ H [some (D.int .i64 (-1))]) else (J E 105 5 [x0, v2, (D.int .i64 0)] H) :=
  (ent_seg E 105 [5] 400 [x0, x1] H).trans (by kernel_rfl)
theorem j105_5 (x0 x1 x5 : D) (H : Heap) :
    J E 105 5 [x0, x1, x5] H =
    (lnL x0).bind fun v4 => (bI .lss x5 v4).bind fun v5 => asB v5 fun t => bif t then ((ia 2 H x0 x5).bind fun v6 => (ld true 2 H v6).bind fun v7 => (callFn E (exec E) .pure 130 [v7, x1] H).bind fun r8 => (bI .lss r8.1 (D.int .i64 0)).bind fun v9 => asB v9 fun t => bif t then (ret_ r8.2 [some (D.int .i64 (-1))]) else ((bI .add x5 (D.int .i64 1)).bind fun v10 => J E 105 5 [x0, r8.1, v10] r8.2)) else (ret_ H [some x1]) :=
  (J_seg E 105 5 [5] 400 [x0, x1, x5] H).trans (by kernel_rfl)
-- spec.l22Ok
theorem e106 (x0 x1 x2 : D) (H : Heap) :
    ent E 106 [x0, x1, x2] H =
    (callFn E (exec E) .pure 131 [x0] H).bind fun r1 => asB r1.1 fun t => bif t then ((lnL x0).bind fun v2 => (bI .sub v2 (D.int .i64 1)).bind fun v3 => (callFn E (exec E) .pure 66 [x1, (D.int .i64 0), v3] r1.2).bind fun r4 => asB r4.1 fun t => bif t then ((callFn E (exec E) .pure 57 [x2] r4.2).bind fun r5 => asB r5.1 fun t => bif t then ((callFn E (exec E) .pure 132 [x2] r5.2).bind fun r6 => (bI .lss r6.1 (D.int .i64 0)).bind fun v7 => ret_ r6.2 [some v7]) else (ret_ r5.2 [some (D.bool false)])) else (ret_ r4.2 [some (D.bool false)])) else (ret_ r1.2 [some (D.bool false)]) :=
  (ent_seg E 106 [] 400 [x0, x1, x2] H).trans (by kernel_rfl)
-- spec.l22Path
theorem e107 (x0 x1 x2 : D) (H : Heap) :
    ent E 107 [x0, x1, x2] H =
    (bsl 1 [.int .i64 0] H 0 []).bind fun r1 => J E 107 2 [x0, x1, x2, r1.1] r1.2 :=
  (ent_seg E 107 [2, 11] 400 [x0, x1, x2] H).trans (by kernel_rfl)
theorem j107_2 (x0 x1 x2 x8 : D) (H : Heap) :
    J E 107 2 [x0, x1, x2, x8] H =
    (callFn E (exec E) .pure 133 [x8, x1] H).bind fun r2 => asB r2.1 fun t => bif t then (ret_ r2.2 [some x8, some (D.bool false)]) else ((bsl 1 [.int .i64 0] r2.2 1 [(0, x1)]).bind fun r3 => (app 1 8 r3.2 x8 r3.1).bind fun r4 => (ia 3 r4.2 x0 x1).bind fun v5 => (ld true 3 r4.2 v5).bind fun v6 => alloc_ r4.2 [.sl0, .sl0, .int .i64 0] fun p7 H7 => (st 3 H7 p7 v6).bind fun H8 => (ld true 3 H8 p7).bind fun v9 => (callFn E (exec E) .pure 134 [v9, x2] H8).bind fun r10 => (bI .lss r10.1 (D.int .i64 0)).bind fun v11 => asB v11 fun t => bif t then ((ld true 3 r10.2 p7).bind fun v12 => (callFn E (exec E) .pure 135 [v12, x2] r10.2).bind fun r13 => (bI .geq r13.1 (D.int .i64 0)).bind fun v14 => asB v14 fun t => bif t then (ret_ r13.2 [some r4.1, some (D.bool true)]) else ((bI .lss r10.1 (D.int .i64 0)).bind fun v15 => asB v15 fun t => bif t then ((fa 2 p7).bind fun v16 => (ld false 1 r13.2 v16).bind fun v17 => J E 107 11 [x0, x2, r4.1, v17] r13.2) else (J E 107 11 [x0, x2, r4.1, r10.1] r13.2))) else ((bI .lss r10.1 (D.int .i64 0)).bind fun v18 => asB v18 fun t => bif t then ((fa 2 p7).bind fun v19 => (ld false 1 r10.2 v19).bind fun v20 => J E 107 11 [x0, x2, r4.1, v20] r10.2) else (J E 107 11 [x0, x2, r4.1, r10.1] r10.2))) :=
  (J_seg E 107 2 [2, 11] 400 [x0, x1, x2, x8] H).trans (by kernel_rfl)
theorem j107_11 (x0 x2 x8 x10 : D) (H : Heap) :
    J E 107 11 [x0, x2, x8, x10] H =
    (bI .lss x10 (D.int .i64 0)).bind fun v21 => asB v21 fun t => bif t then (ret_ H [some x8, some (D.bool false)]) else (J E 107 2 [x0, x10, x2, x8] H) :=
  (J_seg E 107 11 [2, 11] 400 [x0, x2, x8, x10] H).trans (by kernel_rfl)
-- laws.toFileS
theorem e108 (x0 : D) (H : Heap) :
    ent E 108 [x0] H =
    (lnL x0).bind fun v1 => (mks 32 [.str [], .str []] H v1 v1).bind fun r2 => J E 108 3 [x0, r2.1, (D.int .i64 0)] r2.2 :=
  (ent_seg E 108 [3] 400 [x0] H).trans (by kernel_rfl)
theorem j108_3 (x0 x3 x4 : D) (H : Heap) :
    J E 108 3 [x0, x3, x4] H =
    (lnL x0).bind fun v3 => (bI .lss x4 v3).bind fun v4 => asB v4 fun t => bif t then ((ia 2 H x0 x4).bind fun v5 => (ld true 2 H v5).bind fun v6 => (callFn E (exec E) .pure 136 [v6] H).bind fun r7 => (ia 2 r7.2 x3 x4).bind fun v8 => (st 2 r7.2 v8 r7.1).bind fun H9 => (bI .add x4 (D.int .i64 1)).bind fun v10 => J E 108 3 [x0, x3, v10] H9) else (ret_ H [some x3]) :=
  (J_seg E 108 3 [3] 400 [x0, x3, x4] H).trans (by kernel_rfl)
-- laws.toWayS
theorem e109 (x0 : D) (H : Heap) :
    ent E 109 [x0] H =
    (lnL x0).bind fun v1 => (mks 24 [.str [], .int .i64 0] H v1 v1).bind fun r2 => J E 109 3 [x0, r2.1, (D.int .i64 0)] r2.2 :=
  (ent_seg E 109 [3] 400 [x0] H).trans (by kernel_rfl)
theorem j109_3 (x0 x3 x4 : D) (H : Heap) :
    J E 109 3 [x0, x3, x4] H =
    (lnL x0).bind fun v3 => (bI .lss x4 v3).bind fun v4 => asB v4 fun t => bif t then ((ia 2 H x0 x4).bind fun v5 => (ld true 2 H v5).bind fun v6 => (callFn E (exec E) .pure 137 [v6] H).bind fun r7 => (ia 2 r7.2 x3 x4).bind fun v8 => (st 2 r7.2 v8 r7.1).bind fun H9 => (bI .add x4 (D.int .i64 1)).bind fun v10 => J E 109 3 [x0, x3, v10] H9) else (ret_ H [some x3]) :=
  (J_seg E 109 3 [3] 400 [x0, x3, x4] H).trans (by kernel_rfl)
-- impl.asks
theorem e110 (x0 x1 x2 : D) (H : Heap) :
    ent E 110 [x0, x1, x2] H =
    (callFn E (exec E) .pure 138 [x0] H).bind fun r1 => asB r1.1 fun t => bif t then ((callFn E (exec E) .pure 139 [x0, x1] r1.2).bind fun r2 => asB r2.1 fun t => bif t then ((callFn E (exec E) .pure 16 [x2] r2.2).bind fun r3 => asB r3.1 fun t => bif t then ((callFn E (exec E) .pure 140 [x2] r3.2).bind fun r4 => (unOp .not r4.1).bind fun v5 => ret_ r4.2 [some v5]) else (ret_ r3.2 [some (D.bool false)])) else (ret_ r2.2 [some (D.bool false)])) else (ret_ r1.2 [some (D.bool false)]) :=
  (ent_seg E 110 [] 400 [x0, x1, x2] H).trans (by kernel_rfl)
-- impl.pathOf
theorem e111 (x0 x1 x2 : D) (H : Heap) :
    ent E 111 [x0, x1, x2] H =
    J E 111 2 [x0, x1, x2, D.sl0] H :=
  (ent_seg E 111 [2] 400 [x0, x1, x2] H).trans (by kernel_rfl)
theorem j111_2 (x0 x1 x2 x8 : D) (H : Heap) :
    J E 111 2 [x0, x1, x2, x8] H =
    (bI .geq x1 (D.int .i64 0)).bind fun v1 => asB v1 fun t => bif t then ((callFn E (exec E) .pure 141 [x8, x1] H).bind fun r2 => (unOp .not r2.1).bind fun v3 => asB v3 fun t => bif t then ((bsl 1 [.int .i64 0] r2.2 1 [(0, x1)]).bind fun r4 => (app 1 8 r4.2 x8 r4.1).bind fun r5 => (ia 3 r5.2 x0 x1).bind fun v6 => (ld true 3 r5.2 v6).bind fun v7 => (callFn E (exec E) .pure 142 [v7, x2] r5.2).bind fun r8 => (extract r8.1 0).bind fun v9 => (extract r8.1 1).bind fun v10 => asB v10 fun t => bif t then (ret_ r8.2 [some r5.1, some (D.bool true)]) else (J E 111 2 [x0, v9, x2, r5.1] r8.2)) else (ret_ r2.2 [some x8, some (D.bool false)])) else (ret_ H [some x8, some (D.bool false)]) :=
  (J_seg E 111 2 [2] 400 [x0, x1, x2, x8] H).trans (by kernel_rfl)
-- laws.eqFileS
theorem e112 (x0 x1 : D) (H : Heap) :
    ent E 112 [x0, x1] H =
    (lnL x0).bind fun v1 => (lnL x1).bind fun v2 => (bI .neq v1 v2).bind fun v3 => asB v3 fun t => bif t then (ret_ H [some (D.bool false)]) else (J E 112 4 [x0, x1, (D.int .i64 0)] H) :=
  (ent_seg E 112 [4] 400 [x0, x1] H).trans (by kernel_rfl)
theorem j112_4 (x0 x1 x5 : D) (H : Heap) :
    J E 112 4 [x0, x1, x5] H =
    (lnL x0).bind fun v4 => (bI .lss x5 v4).bind fun v5 => asB v5 fun t => bif t then ((ia 2 H x0 x5).bind fun v6 => (ld true 2 H v6).bind fun v7 => (ia 2 H x1 x5).bind fun v8 => (ld true 2 H v8).bind fun v9 => (callFn E (exec E) .pure 143 [v7, v9] H).bind fun r10 => (unOp .not r10.1).bind fun v11 => asB v11 fun t => bif t then (ret_ r10.2 [some (D.bool false)]) else ((bI .add x5 (D.int .i64 1)).bind fun v12 => J E 112 4 [x0, x1, v12] r10.2)) else (ret_ H [some (D.bool true)]) :=
  (J_seg E 112 4 [4] 400 [x0, x1, x5] H).trans (by kernel_rfl)
-- laws.eqWayS
theorem e113 (x0 x1 : D) (H : Heap) :
    ent E 113 [x0, x1] H =
    (lnL x0).bind fun v1 => (lnL x1).bind fun v2 => (bI .neq v1 v2).bind fun v3 => asB v3 fun t => bif t then (ret_ H [some (D.bool false)]) else (J E 113 4 [x0, x1, (D.int .i64 0)] H) :=
  (ent_seg E 113 [4] 400 [x0, x1] H).trans (by kernel_rfl)
theorem j113_4 (x0 x1 x5 : D) (H : Heap) :
    J E 113 4 [x0, x1, x5] H =
    (lnL x0).bind fun v4 => (bI .lss x5 v4).bind fun v5 => asB v5 fun t => bif t then ((ia 2 H x0 x5).bind fun v6 => (ld true 2 H v6).bind fun v7 => (ia 2 H x1 x5).bind fun v8 => (ld true 2 H v8).bind fun v9 => (callFn E (exec E) .pure 144 [v7, v9] H).bind fun r10 => (unOp .not r10.1).bind fun v11 => asB v11 fun t => bif t then (ret_ r10.2 [some (D.bool false)]) else ((bI .add x5 (D.int .i64 1)).bind fun v12 => J E 113 4 [x0, x1, v12] r10.2)) else (ret_ H [some (D.bool true)]) :=
  (J_seg E 113 4 [4] 400 [x0, x1, x5] H).trans (by kernel_rfl)
-- spec.l2DescOk
theorem e114 (x0 : D) (H : Heap) :
    ent E 114 [x0] H =
    (callFn E (exec E) .view 81 [x0] H).bind fun r1 => (extract r1.1 0).bind fun v2 => (extract r1.1 1).bind fun v3 => (extract r1.1 2).bind fun v4 => ret_ r1.2 [some v4] :=
  (ent_seg E 114 [] 400 [x0] H).trans (by kernel_rfl)
-- spec.l2Class
theorem e115 (x0 x1 : D) (H : Heap) :
    ent E 115 [x0, x1] H =
    (callFn E (exec E) .pure 145 [x0, x1] H).bind fun r1 => alloc_ r1.2 [.int .i64 0, .str [], .int .i64 0, .int .i64 0] fun p2 H2 => (st 4 H2 p2 r1.1).bind fun H3 => (fa 2 p2).bind fun v4 => (ld false 1 H3 v4).bind fun v5 => (callFn E (exec E) .pure 145 [x0, v5] H3).bind fun r6 => alloc_ r6.2 [.int .i64 0, .str [], .int .i64 0, .int .i64 0] fun p7 H7 => (st 4 H7 p7 r6.1).bind fun H8 => (fa 0 p2).bind fun v9 => (ld false 1 H8 v9).bind fun v10 => (bI .neq v10 (D.int .i64 2)).bind fun v11 => asB v11 fun t => bif t then (ret_ H8 [some (D.str [])]) else ((fa 0 p7).bind fun v12 => (ld false 1 H8 v12).bind fun v13 => (bI .neq v13 (D.int .i64 1)).bind fun v14 => asB v14 fun t => bif t then (ret_ H8 [some (D.str [])]) else ((fa 1 p7).bind fun v15 => (ld false 1 H8 v15).bind fun v16 => (callFn E (exec E) .pure 57 [v16] H8).bind fun r17 => (unOp .not r17.1).bind fun v18 => asB v18 fun t => bif t then (ret_ r17.2 [some (D.str [])]) else ((fa 1 p7).bind fun v19 => (ld false 1 r17.2 v19).bind fun v20 => ret_ r17.2 [some v20]))) :=
  (ent_seg E 115 [] 400 [x0, x1] H).trans (by kernel_rfl)
-- spec.l2Text
theorem e116 (x0 x1 : D) (H : Heap) :
    ent E 116 [x0, x1] H =
    (callFn E (exec E) .pure 145 [x0, x1] H).bind fun r1 => alloc_ r1.2 [.int .i64 0, .str [], .int .i64 0, .int .i64 0] fun p2 H2 => (st 4 H2 p2 r1.1).bind fun H3 => (fa 0 p2).bind fun v4 => (ld false 1 H3 v4).bind fun v5 => (bI .neq v5 (D.int .i64 1)).bind fun v6 => asB v6 fun t => bif t then (ret_ H3 [some (D.str [])]) else ((fa 1 p2).bind fun v7 => (ld false 1 H3 v7).bind fun v8 => ret_ H3 [some v8]) :=
  (ent_seg E 116 [] 400 [x0, x1] H).trans (by kernel_rfl)
-- spec.l2Ref
theorem e117 (x0 x1 : D) (H : Heap) :
    ent E 117 [x0, x1] H =
    (callFn E (exec E) .pure 145 [x0, x1] H).bind fun r1 => alloc_ r1.2 [.int .i64 0, .str [], .int .i64 0, .int .i64 0] fun p2 H2 => (st 4 H2 p2 r1.1).bind fun H3 => (fa 3 p2).bind fun v4 => (ld false 1 H3 v4).bind fun v5 => (callFn E (exec E) .pure 145 [x0, v5] H3).bind fun r6 => alloc_ r6.2 [.int .i64 0, .str [], .int .i64 0, .int .i64 0] fun p7 H7 => (st 4 H7 p7 r6.1).bind fun H8 => (fa 2 p2).bind fun v9 => (ld false 1 H8 v9).bind fun v10 => (callFn E (exec E) .pure 115 [x0, v10] H8).bind fun r11 => (fa 2 p7).bind fun v12 => (ld false 1 r11.2 v12).bind fun v13 => (callFn E (exec E) .pure 116 [x0, v13] r11.2).bind fun r14 => (fa 3 p7).bind fun v15 => (ld false 1 r14.2 v15).bind fun v16 => (callFn E (exec E) .pure 116 [x0, v16] r14.2).bind fun r17 => ret_ r17.2 [some r11.1, some r14.1, some r17.1] :=
  (ent_seg E 117 [] 400 [x0, x1] H).trans (by kernel_rfl)
-- spec.l2Is
theorem e118 (x0 x1 x2 : D) (H : Heap) :
    ent E 118 [x0, x1, x2] H =
    (callFn E (exec E) .pure 145 [x0, x1] H).bind fun r1 => (fd (0, 1, false) r1.1).bind fun v2 => (bI .eql v2 x2).bind fun v3 => ret_ r1.2 [some v3] :=
  (ent_seg E 118 [] 400 [x0, x1, x2] H).trans (by kernel_rfl)
-- impl.entryOk$1
theorem e119 (x0 : D) (H : Heap) :
    ent E 119 [x0] H =
    (callFn E (exec E) .pure 18 [x0] H).bind fun r1 => asB r1.1 fun t => bif t then (ret_ r1.2 [some (D.bool true)]) else ((callFn E (exec E) .pure 120 [x0] r1.2).bind fun r2 => ret_ r2.2 [some r2.1]) :=
  (ent_seg E 119 [] 400 [x0] H).trans (by kernel_rfl)
-- impl.isDesc
theorem e120 (x0 : D) (H : Heap) :
    ent E 120 [x0] H =
    (callFn E (exec E) .pure 39 [x0] H).bind fun r1 => (extract r1.1 0).bind fun v2 => (extract r1.1 1).bind fun v3 => (extract r1.1 2).bind fun v4 => ret_ r1.2 [some v4] :=
  (ent_seg E 120 [] 400 [x0] H).trans (by kernel_rfl)
-- impl.entryOk$2
theorem e121 (x0 x1 x2 : D) (H : Heap) :
    ent E 121 [x0, x1, x2] H =
    (ld false 1 H x1).bind fun v1 => (fa 3 x2).bind fun v2 => (ld false 1 H v2).bind fun v3 => (callFn E (exec E) .pure 122 [v1, v3] H).bind fun r4 => alloc_ r4.2 [.int .i64 0, .str [], .int .i64 0, .int .i64 0] fun p5 H5 => (st 4 H5 p5 r4.1).bind fun H6 => (fa 1 x2).bind fun v7 => (ld false 1 H6 v7).bind fun v8 => (bS .eql v8 (D.str [])).bind fun v9 => asB v9 fun t => bif t then ((ld false 1 H6 x1).bind fun v10 => (fa 2 x2).bind fun v11 => (ld false 1 H6 v11).bind fun v12 => (callFn E (exec E) .pure 123 [v10, v12] H6).bind fun r13 => asB r13.1 fun t => bif t then ((fa 0 p5).bind fun v14 => (ld false 1 r13.2 v14).bind fun v15 => (bI .eql v15 (D.int .i64 3)).bind fun v16 => asB v16 fun t => bif t then ((ld false 1 r13.2 x1).bind fun v17 => (fa 3 p5).bind fun v18 => (ld false 1 r13.2 v18).bind fun v19 => (callFn E (exec E) .raw 124 [v17, v19, x0] r13.2).bind fun r20 => ret_ r20.2 [some r20.1]) else (ret_ r13.2 [some (D.bool false)])) else (ret_ r13.2 [some (D.bool false)])) else (ret_ H6 [some (D.bool false)]) :=
  (ent_seg E 121 [] 400 [x0, x1, x2] H).trans (by kernel_rfl)
-- impl.entry
theorem e122 (x0 x1 : D) (H : Heap) :
    ent E 122 [x0, x1] H =
    alloc_ H [.int .i64 0, .str [], .int .i64 0, .int .i64 0] fun p1 H1 => (lnL x0).bind fun v2 => (callFn E (exec E) .pure 58 [x1, (D.int .i64 1), v2] H1).bind fun r3 => (unOp .not r3.1).bind fun v4 => asB v4 fun t => bif t then ((bld [.int .i64 0, .str [], .int .i64 0, .int .i64 0] [(0, 1, false), (1, 1, false), (2, 1, false), (3, 1, false)] []).bind fun v5 => (st 4 r3.2 p1 v5).bind fun H6 => ret_ H6 [ld true 4 H6 p1]) else ((bI .sub x1 (D.int .i64 1)).bind fun v7 => (ia 4 r3.2 x0 v7).bind fun v8 => (ld true 4 r3.2 v8).bind fun v9 => (st 4 r3.2 p1 v9).bind fun H10 => ret_ H10 [ld true 4 H10 p1]) :=
  (ent_seg E 122 [] 400 [x0, x1] H).trans (by kernel_rfl)
-- impl.classAt
theorem e123 (x0 x1 : D) (H : Heap) :
    ent E 123 [x0, x1] H =
    (callFn E (exec E) .pure 122 [x0, x1] H).bind fun r1 => alloc_ r1.2 [.int .i64 0, .str [], .int .i64 0, .int .i64 0] fun p2 H2 => (st 4 H2 p2 r1.1).bind fun H3 => (fa 0 p2).bind fun v4 => (ld false 1 H3 v4).bind fun v5 => (bI .eql v5 (D.int .i64 2)).bind fun v6 => asB v6 fun t => bif t then ((fa 2 p2).bind fun v7 => (ld false 1 H3 v7).bind fun v8 => (callFn E (exec E) .raw 124 [x0, v8, (D.fn 16 [])] H3).bind fun r9 => ret_ r9.2 [some r9.1]) else (ret_ H3 [some (D.bool false)]) :=
  (ent_seg E 123 [] 400 [x0, x1] H).trans (by kernel_rfl)
-- impl.nameAt
theorem e124 (x0 x1 x2 : D) (H : Heap) :
    ent E 124 [x0, x1, x2] H =
    (callFn E (exec E) .pure 122 [x0, x1] H).bind fun r1 => alloc_ r1.2 [.int .i64 0, .str [], .int .i64 0, .int .i64 0] fun p2 H2 => (st 4 H2 p2 r1.1).bind fun H3 => (fa 0 p2).bind fun v4 => (ld false 1 H3 v4).bind fun v5 => (bI .eql v5 (D.int .i64 1)).bind fun v6 => asB v6 fun t => bif t then ((fa 1 p2).bind fun v7 => (ld false 1 H3 v7).bind fun v8 => asFn x2 fun gq9 cq9 => (callFn E (exec E) (modeT 124 gq9) gq9 ([v8] ++ cq9) H3).bind fun r10 => ret_ r10.2 [some r10.1]) else (ret_ H3 [some (D.bool false)]) :=
  (ent_seg E 124 [] 400 [x0, x1, x2] H).trans (by kernel_rfl)
-- internal/stringslite.CutSuffix
theorem e125 (x0 x1 : D) (H : Heap) :
    ent E 125 [x0, x1] H =
    (callFn E (exec E) .pure 146 [x0, x1] H).bind fun r1 => (unOp .not r1.1).bind fun v2 => asB v2 fun t => bif t then (ret_ r1.2 [some x0, some (D.bool false)]) else ((lnS x0).bind fun v3 => (lnS x1).bind fun v4 => (bI .sub v3 v4).bind fun v5 => (slS x0 none (some v5) none).bind fun v6 => ret_ r1.2 [some v6, some (D.bool true)]) :=
  (ent_seg E 125 [] 400 [x0, x1] H).trans (by kernel_rfl)
-- internal/stringslite.Index
theorem e126 (x0 x1 : D) (H : Heap) :
    ent E 126 [x0, x1] H =
    (lnS x1).bind fun v1 => (bI .eql v1 (D.int .i64 0)).bind fun v2 => asB v2 fun t => bif t then (ret_ H [some (D.int .i64 0)]) else ((bS .eql x1 x0).bind fun v3 => asB v3 fun t => bif t then (ret_ H [some (D.int .i64 0)]) else ((bI .eql v1 (D.int .i64 1)).bind fun v4 => asB v4 fun t => bif t then ((ix x1 (D.int .i64 0)).bind fun v5 => (callFn E (exec E) .pure 103 [x0, v5] H).bind fun r6 => ret_ r6.2 [some r6.1]) else ((lnS x0).bind fun v7 => (bI .geq v1 v7).bind fun v8 => asB v8 fun t => bif t then (ret_ H [some (D.int .i64 (-1))]) else ((ld false 1 H D.undef).bind fun v9 => (bI .leq v1 v9).bind fun v10 => asB v10 fun t => bif t then ((lnS x0).bind fun v11 => (bI .leq v11 (D.int .i64 64)).bind fun v12 => asB v12 fun t => bif t then ((callFn E (exec E) .ext 147 [x0, x1] H).bind fun r13 => ret_ r13.2 [some r13.1]) else ((ix x1 (D.int .i64 0)).bind fun v14 => (ix x1 (D.int .i64 1)).bind fun v15 => (lnS x0).bind fun v16 => (bI .sub v16 v1).bind fun v17 => (bI .add v17 (D.int .i64 1)).bind fun v18 => J E 126 15 [x0, x1, v1, v14, v15, (D.int .i64 0), v18, (D.int .i64 0)] H)) else ((ix x1 (D.int .i64 0)).bind fun v19 => (ix x1 (D.int .i64 1)).bind fun v20 => (lnS x0).bind fun v21 => (bI .sub v21 v1).bind fun v22 => (bI .add v22 (D.int .i64 1)).bind fun v23 => J E 126 15 [x0, x1, v1, v19, v20, (D.int .i64 0), v23, (D.int .i64 0)] H))))) :=
  (ent_seg E 126 [15, 21] 400 [x0, x1] H).trans (by kernel_rfl)
theorem j126_15 (x0 x1 x5 x6 x7 x8 x9 x10 : D) (H : Heap) :
    J E 126 15 [x0, x1, x5, x6, x7, x8, x9, x10] H =
    (bI .lss x8 x9).bind fun v24 => asB v24 fun t => bif t then ((ix x0 x8).bind fun v25 => (bI .neq v25 x6).bind fun v26 => asB v26 fun t => bif t then ((bI .add x8 (D.int .i64 1)).bind fun v27 => (slS x0 (some v27) (some x9) none).bind fun v28 => (callFn E (exec E) .pure 103 [v28, x6] H).bind fun r29 => (bI .lss r29.1 (D.int .i64 0)).bind fun v30 => asB v30 fun t => bif t then (ret_ r29.2 [some (D.int .i64 (-1))]) else ((bI .add r29.1 (D.int .i64 1)).bind fun v31 => (bI .add x8 v31).bind fun v32 => J E 126 21 [x0, x1, x5, x6, x7, v32, x9, x10] r29.2)) else (J E 126 21 [x0, x1, x5, x6, x7, x8, x9, x10] H)) else (ret_ H [some (D.int .i64 (-1))]) :=
  (J_seg E 126 15 [15, 21] 400 [x0, x1, x5, x6, x7, x8, x9, x10] H).trans (by kernel_rfl)
theorem j126_21 (x0 x1 x5 x6 x7 x8 x9 x10 : D) (H : Heap) :
    J E 126 21 [x0, x1, x5, x6, x7, x8, x9, x10] H =
    (bI .add x8 (D.int .i64 1)).bind fun v33 => (ix x0 v33).bind fun v34 => (bI .eql v34 x7).bind fun v35 => asB v35 fun t => bif t then ((bI .add x8 x5).bind fun v36 => (slS x0 (some x8) (some v36) none).bind fun v37 => (bS .eql v37 x1).bind fun v38 => asB v38 fun t => bif t then (ret_ H [some x8]) else ((bI .add x8 (D.int .i64 1)).bind fun v39 => (bI .add x10 (D.int .i64 1)).bind fun v40 => (ld false 1 H D.undef).bind fun v41 => (bI .leq x5 v41).bind fun v42 => asB v42 fun t => bif t then ((callFn E (exec E) .pure 148 [v39] H).bind fun r43 => (bI .gtr v40 r43.1).bind fun v44 => asB v44 fun t => bif t then ((slS x0 (some v39) none none).bind fun v45 => (callFn E (exec E) .ext 147 [v45, x1] r43.2).bind fun r46 => (bI .geq r46.1 (D.int .i64 0)).bind fun v47 => asB v47 fun t => bif t then ((bI .add r46.1 v39).bind fun v48 => ret_ r46.2 [some v48]) else (ret_ r46.2 [some (D.int .i64 (-1))])) else ((ld false 1 r43.2 D.undef).bind fun v49 => (bI .gtr x5 v49).bind fun v50 => asB v50 fun t => bif t then ((bI .shr v39 (D.int .u64 4)).bind fun v51 => (bI .add (D.int .i64 4) v51).bind fun v52 => (bI .geq v40 v52).bind fun v53 => asB v53 fun t => bif t then ((bI .lss v39 x9).bind fun v54 => asB v54 fun t => bif t then ((slS x0 (some v39) none none).bind fun v55 => (callFn E (exec E) .pure 149 [v55, x1] r43.2).bind fun r56 => (bI .lss r56.1 (D.int .i64 0)).bind fun v57 => asB v57 fun t => bif t then (ret_ r56.2 [some (D.int .i64 (-1))]) else ((bI .add v39 r56.1).bind fun v58 => ret_ r56.2 [some v58])) else (J E 126 15 [x0, x1, x5, x6, x7, v39, x9, v40] r43.2)) else (J E 126 15 [x0, x1, x5, x6, x7, v39, x9, v40] r43.2)) else (J E 126 15 [x0, x1, x5, x6, x7, v39, x9, v40] r43.2))) else ((ld false 1 H D.undef).bind fun v59 => (bI .gtr x5 v59).bind fun v60 => asB v60 fun t => bif t then ((bI .shr v39 (D.int .u64 4)).bind fun v61 => (bI .add (D.int .i64 4) v61).bind fun v62 => (bI .geq v40 v62).bind fun v63 => asB v63 fun t => bif t then ((bI .lss v39 x9).bind fun v64 => asB v64 fun t => bif t then ((slS x0 (some v39) none none).bind fun v65 => (callFn E (exec E) .pure 149 [v65, x1] H).bind fun r66 => (bI .lss r66.1 (D.int .i64 0)).bind fun v67 => asB v67 fun t => bif t then (ret_ r66.2 [some (D.int .i64 (-1))]) else ((bI .add v39 r66.1).bind fun v68 => ret_ r66.2 [some v68])) else (J E 126 15 [x0, x1, x5, x6, x7, v39, x9, v40] H)) else (J E 126 15 [x0, x1, x5, x6, x7, v39, x9, v40] H)) else (J E 126 15 [x0, x1, x5, x6, x7, v39, x9, v40] H)))) else ((bI .add x8 (D.int .i64 1)).bind fun v69 => (bI .add x10 (D.int .i64 1)).bind fun v70 => (ld false 1 H D.undef).bind fun v71 => (bI .leq x5 v71).bind fun v72 => asB v72 fun t => bif t then ((callFn E (exec E) .pure 148 [v69] H).bind fun r73 => (bI .gtr v70 r73.1).bind fun v74 => asB v74 fun t => bif t then ((slS x0 (some v69) none none).bind fun v75 => (callFn E (exec E) .ext 147 [v75, x1] r73.2).bind fun r76 => (bI .geq r76.1 (D.int .i64 0)).bind fun v77 => asB v77 fun t => bif t then ((bI .add r76.1 v69).bind fun v78 => ret_ r76.2 [some v78]) else (ret_ r76.2 [some (D.int .i64 (-1))])) else ((ld false 1 r73.2 D.undef).bind fun v79 => (bI .gtr x5 v79).bind fun v80 => asB v80 fun t => bif t then ((bI .shr v69 (D.int .u64 4)).bind fun v81 => (bI .add (D.int .i64 4) v81).bind fun v82 => (bI .geq v70 v82).bind fun v83 => asB v83 fun t => bif t then ((bI .lss v69 x9).bind fun v84 => asB v84 fun t => bif t then ((slS x0 (some v69) none none).bind fun v85 => (callFn E (exec E) .pure 149 [v85, x1] r73.2).bind fun r86 => (bI .lss r86.1 (D.int .i64 0)).bind fun v87 => asB v87 fun t => bif t then (ret_ r86.2 [some (D.int .i64 (-1))]) else ((bI .add v69 r86.1).bind fun v88 => ret_ r86.2 [some v88])) else (J E 126 15 [x0, x1, x5, x6, x7, v69, x9, v70] r73.2)) else (J E 126 15 [x0, x1, x5, x6, x7, v69, x9, v70] r73.2)) else (J E 126 15 [x0, x1, x5, x6, x7, v69, x9, v70] r73.2))) else ((ld false 1 H D.undef).bind fun v89 => (bI .gtr x5 v89).bind fun v90 => asB v90 fun t => bif t then ((bI .shr v69 (D.int .u64 4)).bind fun v91 => (bI .add (D.int .i64 4) v91).bind fun v92 => (bI .geq v70 v92).bind fun v93 => asB v93 fun t => bif t then ((bI .lss v69 x9).bind fun v94 => asB v94 fun t => bif t then ((slS x0 (some v69) none none).bind fun v95 => (callFn E (exec E) .pure 149 [v95, x1] H).bind fun r96 => (bI .lss r96.1 (D.int .i64 0)).bind fun v97 => asB v97 fun t => bif t then (ret_ r96.2 [some (D.int .i64 (-1))]) else ((bI .add v69 r96.1).bind fun v98 => ret_ r96.2 [some v98])) else (J E 126 15 [x0, x1, x5, x6, x7, v69, x9, v70] H)) else (J E 126 15 [x0, x1, x5, x6, x7, v69, x9, v70] H)) else (J E 126 15 [x0, x1, x5, x6, x7, v69, x9, v70] H))) :=
  (J_seg E 126 21 [15, 21] 400 [x0, x1, x5, x6, x7, x8, x9, x10] H).trans (by kernel_rfl)
-- internal/stringslite.HasPrefix
theorem e127 (x0 x1 : D) (H : Heap) :
    ent E 127 [x0, x1] H =
    (lnS x0).bind fun v1 => (lnS x1).bind fun v2 => (bI .geq v1 v2).bind fun v3 => asB v3 fun t => bif t then ((lnS x1).bind fun v4 => (slS x0 none (some v4) none).bind fun v5 => (bS .eql v5 x1).bind fun v6 => ret_ H [some v6]) else (ret_ H [some (D.bool false)]) :=
  (ent_seg E 127 [] 400 [x0, x1] H).trans (by kernel_rfl)
-- laws.szFile
theorem e129 (x0 x1 : D) (H : Heap) :
    ent E 129 [x0, x1] H =
    alloc_ H (D.cells x0) fun p1 H1 => (fa 0 p1).bind fun v2 => (ld false 1 H1 v2).bind fun v3 => (lnS v3).bind fun v4 => (bI .sub x1 v4).bind fun v5 => (bI .lss v5 (D.int .i64 0)).bind fun v6 => asB v6 fun t => bif t then (ret_ H1 [some (D.int .i64 (-1))]) else ((fa 1 p1).bind fun v7 => (ld false 1 H1 v7).bind fun v8 => (lnS v8).bind fun v9 => (bI .sub v5 v9).bind fun v10 => (bI .lss v10 (D.int .i64 0)).bind fun v11 => asB v11 fun t => bif t then (ret_ H1 [some (D.int .i64 (-1))]) else (ret_ H1 [some v10])) :=
  (ent_seg E 129 [] 400 [x0, x1] H).trans (by kernel_rfl)
-- laws.szWay
theorem e130 (x0 x1 : D) (H : Heap) :
    ent E 130 [x0, x1] H =
    alloc_ H (D.cells x0) fun p1 H1 => (fa 0 p1).bind fun v2 => (ld false 1 H1 v2).bind fun v3 => (lnS v3).bind fun v4 => (bI .sub x1 v4).bind fun v5 => (bI .lss v5 (D.int .i64 0)).bind fun v6 => asB v6 fun t => bif t then (ret_ H1 [some (D.int .i64 (-1))]) else (ret_ H1 [some v5]) :=
  (ent_seg E 130 [] 400 [x0, x1] H).trans (by kernel_rfl)
-- spec.l5LoadersOk
theorem e131 (x0 : D) (H : Heap) :
    ent E 131 [x0] H =
    J E 131 2 [x0, (D.int .i64 0)] H :=
  (ent_seg E 131 [2] 400 [x0] H).trans (by kernel_rfl)
theorem j131_2 (x0 x3 : D) (H : Heap) :
    J E 131 2 [x0, x3] H =
    (lnL x0).bind fun v1 => (bI .lss x3 v1).bind fun v2 => asB v2 fun t => bif t then ((bld [.sl0, .sl0, .sl0, .sl0] [(0, 1, false), (1, 1, false), (2, 1, false), (3, 1, false)] [(0, x0)]).bind fun v3 => (ia 3 H x0 x3).bind fun v4 => (ld true 3 H v4).bind fun v5 => (callFn E (exec E) .pure 150 [v3, v5] H).bind fun r6 => (unOp .not r6.1).bind fun v7 => asB v7 fun t => bif t then (ret_ r6.2 [some (D.bool false)]) else ((bI .add x3 (D.int .i64 1)).bind fun v8 => J E 131 2 [x0, v8] r6.2)) else ((lnL x0).bind fun v9 => (callFn E (exec E) .pure 66 [v9, (D.int .i64 1), (D.int .i64 3)] H).bind fun r10 => ret_ r10.2 [some r10.1]) :=
  (J_seg E 131 2 [2] 400 [x0, x3] H).trans (by kernel_rfl)
-- spec.l5Built
theorem e132 (x0 : D) (H : Heap) :
    ent E 132 [x0] H =
    (bS .eql x0 (D.str [79, 98, 106])).bind fun v1 => asB v1 fun t => bif t then (ret_ H [some (D.int .i64 0)]) else ((bS .eql x0 (D.str [69, 114, 114])).bind fun v2 => asB v2 fun t => bif t then (ret_ H [some (D.int .i64 1)]) else (ret_ H [some (D.int .i64 (-1))])) :=
  (ent_seg E 132 [] 400 [x0] H).trans (by kernel_rfl)
-- spec.l5Asked
theorem e133 (x0 x1 : D) (H : Heap) :
    ent E 133 [x0, x1] H =
    J E 133 2 [x0, x1, (D.int .i64 0)] H :=
  (ent_seg E 133 [2] 400 [x0, x1] H).trans (by kernel_rfl)
theorem j133_2 (x0 x1 x5 : D) (H : Heap) :
    J E 133 2 [x0, x1, x5] H =
    (lnL x0).bind fun v1 => (bI .lss x5 v1).bind fun v2 => asB v2 fun t => bif t then ((ia 1 H x0 x5).bind fun v3 => (ld false 1 H v3).bind fun v4 => (bI .eql v4 x1).bind fun v5 => asB v5 fun t => bif t then (ret_ H [some (D.bool true)]) else ((bI .add x5 (D.int .i64 1)).bind fun v6 => J E 133 2 [x0, x1, v6] H)) else (ret_ H [some (D.bool false)]) :=
  (J_seg E 133 2 [2] 400 [x0, x1, x5] H).trans (by kernel_rfl)
-- spec.l5Way
theorem e134 (x0 x1 : D) (H : Heap) :
    ent E 134 [x0, x1] H =
    alloc_ H (D.cells x0) fun p1 H1 => J E 134 2 [x1, p1, (D.int .i64 0)] H1 :=
  (ent_seg E 134 [2] 400 [x0, x1] H).trans (by kernel_rfl)
theorem j134_2 (x1 x2 x5 : D) (H : Heap) :
    J E 134 2 [x1, x2, x5] H =
    (fa 1 x2).bind fun v2 => (ld false 1 H v2).bind fun v3 => (lnL v3).bind fun v4 => (bI .lss x5 v4).bind fun v5 => asB v5 fun t => bif t then ((fa 1 x2).bind fun v6 => (ld false 1 H v6).bind fun v7 => (ia 2 H v7 x5).bind fun v8 => (fa 0 v8).bind fun v9 => (ld false 1 H v9).bind fun v10 => (bS .eql v10 x1).bind fun v11 => asB v11 fun t => bif t then ((fa 1 x2).bind fun v12 => (ld false 1 H v12).bind fun v13 => (ia 2 H v13 x5).bind fun v14 => (fa 1 v14).bind fun v15 => (ld false 1 H v15).bind fun v16 => ret_ H [some v16]) else ((bI .add x5 (D.int .i64 1)).bind fun v17 => J E 134 2 [x1, x2, v17] H)) else (ret_ H [some (D.int .i64 (-1))]) :=
  (J_seg E 134 2 [2] 400 [x1, x2, x5] H).trans (by kernel_rfl)
-- spec.l5File
theorem e135 (x0 x1 : D) (H : Heap) :
    ent E 135 [x0, x1] H =
    alloc_ H (D.cells x0) fun p1 H1 => J E 135 2 [x1, p1, (D.int .i64 0)] H1 :=
  (ent_seg E 135 [2] 400 [x0, x1] H).trans (by kernel_rfl)
theorem j135_2 (x1 x2 x5 : D) (H : Heap) :
    J E 135 2 [x1, x2, x5] H =
    (fa 0 x2).bind fun v2 => (ld false 1 H v2).bind fun v3 => (lnL v3).bind fun v4 => (bI .lss x5 v4).bind fun v5 => asB v5 fun t => bif t then ((fa 0 x2).bind fun v6 => (ld false 1 H v6).bind fun v7 => (ia 2 H v7 x5).bind fun v8 => (fa 0 v8).bind fun v9 => (ld false 1 H v9).bind fun v10 => (bS .eql v10 x1).bind fun v11 => asB v11 fun t => bif t then (ret_ H [some x5]) else ((bI .add x5 (D.int .i64 1)).bind fun v12 => J E 135 2 [x1, x2, v12] H)) else (ret_ H [some (D.int .i64 (-1))]) :=
  (J_seg E 135 2 [2] 400 [x1, x2, x5] H).trans (by kernel_rfl)
-- laws.toFile
theorem e136 (x0 : D) (H : Heap) :
    ent E 136 [x0] H =
    alloc_ H (D.cells x0) fun p1 H1 => alloc_ H1 [.str [], .str []] fun p2 H2 => alloc_ H2 [.str [], .str []] fun p3 H3 => (fa 0 p1).bind fun v4 => (ld false 1 H3 v4).bind fun v5 => (fa 0 p3).bind fun v6 => (st 1 H3 v6 v5).bind fun H7 => (fa 1 p1).bind fun v8 => (ld false 1 H7 v8).bind fun v9 => (fa 1 p3).bind fun v10 => (st 1 H7 v10 v9).bind fun H11 => (ld true 2 H11 p3).bind fun v12 => (st 2 H11 p2 v12).bind fun H13 => ret_ H13 [ld true 2 H13 p2] :=
  (ent_seg E 136 [] 400 [x0] H).trans (by kernel_rfl)
-- laws.toWay
theorem e137 (x0 : D) (H : Heap) :
    ent E 137 [x0] H =
    alloc_ H (D.cells x0) fun p1 H1 => alloc_ H1 [.str [], .int .i64 0] fun p2 H2 => alloc_ H2 [.str [], .int .i64 0] fun p3 H3 => (fa 0 p1).bind fun v4 => (ld false 1 H3 v4).bind fun v5 => (fa 0 p3).bind fun v6 => (st 1 H3 v6 v5).bind fun H7 => (fa 1 p1).bind fun v8 => (ld false 1 H7 v8).bind fun v9 => (fa 1 p3).bind fun v10 => (st 1 H7 v10 v9).bind fun H11 => (ld true 2 H11 p3).bind fun v12 => (st 2 H11 p2 v12).bind fun H13 => ret_ H13 [ld true 2 H13 p2] :=
  (ent_seg E 137 [] 400 [x0] H).trans (by kernel_rfl)
-- impl.loadersOk
theorem e138 (x0 : D) (H : Heap) :
    ent E 138 [x0] H =
    alloc_ H (D.cells x0) fun p1 H1 => (ld false 1 H1 p1).bind fun v2 => (lnL v2).bind fun v3 => (callFn E (exec E) .pure 58 [v3, (D.int .i64 1), (D.int .i64 3)] H1).bind fun r4 => asB r4.1 fun t => bif t then ((ld false 1 r4.2 p1).bind fun v5 => (callFn E (exec E) .raw 151 [v5, (D.fn 152 [p1])] r4.2).bind fun r6 => (unOp .not r6.1).bind fun v7 => ret_ r6.2 [some v7]) else (ret_ r4.2 [some (D.bool false)]) :=
  (ent_seg E 138 [] 400 [x0] H).trans (by kernel_rfl)
-- impl.isLoader
theorem e139 (x0 x1 : D) (H : Heap) :
    ent E 139 [x0, x1] H =
    (lnL x0).bind fun v1 => (bI .sub v1 (D.int .i64 1)).bind fun v2 => (callFn E (exec E) .pure 58 [x1, (D.int .i64 0), v2] H).bind fun r3 => ret_ r3.2 [some r3.1] :=
  (ent_seg E 139 [] 400 [x0, x1] H).trans (by kernel_rfl)
-- impl.isFirst
theorem e140 (x0 : D) (H : Heap) :
    ent E 140 [x0] H =
    (bS .eql x0 (D.str [79, 98, 106])).bind fun v1 => asB v1 fun t => bif t then (ret_ H [some (D.bool true)]) else ((bS .eql x0 (D.str [69, 114, 114])).bind fun v2 => ret_ H [some v2]) :=
  (ent_seg E 140 [] 400 [x0] H).trans (by kernel_rfl)
-- slices.Contains[[]int,int]
theorem e141 (x0 x1 : D) (H : Heap) :
    ent E 141 [x0, x1] H =
    (callFn E (exec E) .pure 154 [x0, x1] H).bind fun r1 => (bI .geq r1.1 (D.int .i64 0)).bind fun v2 => ret_ r1.2 [some v2] :=
  (ent_seg E 141 [] 400 [x0, x1] H).trans (by kernel_rfl)
-- (impl.Loader).next
theorem e142 (x0 x1 : D) (H : Heap) :
    ent E 142 [x0, x1] H =
    alloc_ H (D.cells x0) fun p1 H1 => (ld true 3 H1 p1).bind fun v2 => (callFn E (exec E) .pure 155 [v2, x1] H1).bind fun r3 => (bI .geq r3.1 (D.int .i64 0)).bind fun v4 => asB v4 fun t => bif t then ((fa 1 p1).bind fun v5 => (ld false 1 r3.2 v5).bind fun v6 => (ia 2 r3.2 v6 r3.1).bind fun v7 => (fa 1 v7).bind fun v8 => (ld false 1 r3.2 v8).bind fun v9 => ret_ r3.2 [some v9, some (D.bool false)]) else ((ld true 3 r3.2 p1).bind fun v10 => (callFn E (exec E) .pure 156 [v10, x1] r3.2).bind fun r11 => (bI .geq r11.1 (D.int .i64 0)).bind fun v12 => asB v12 fun t => bif t then (ret_ r11.2 [some (D.int .i64 (-1)), some (D.bool true)]) else ((fa 2 p1).bind fun v13 => (ld false 1 r11.2 v13).bind fun v14 => ret_ r11.2 [some v14, some (D.bool false)])) :=
  (ent_seg E 142 [] 400 [x0, x1] H).trans (by kernel_rfl)
-- laws.eqFile
theorem e143 (x0 x1 : D) (H : Heap) :
    ent E 143 [x0, x1] H =
    alloc_ H (D.cells x0) fun p1 H1 => alloc_ H1 (D.cells x1) fun p2 H2 => (fa 0 p1).bind fun v3 => (ld false 1 H2 v3).bind fun v4 => (fa 0 p2).bind fun v5 => (ld false 1 H2 v5).bind fun v6 => (bS .neq v4 v6).bind fun v7 => asB v7 fun t => bif t then (ret_ H2 [some (D.bool false)]) else ((fa 1 p1).bind fun v8 => (ld false 1 H2 v8).bind fun v9 => (fa 1 p2).bind fun v10 => (ld false 1 H2 v10).bind fun v11 => (bS .neq v9 v11).bind fun v12 => asB v12 fun t => bif t then (ret_ H2 [some (D.bool false)]) else (ret_ H2 [some (D.bool true)])) :=
  (ent_seg E 143 [] 400 [x0, x1] H).trans (by kernel_rfl)
-- laws.eqWay
theorem e144 (x0 x1 : D) (H : Heap) :
    ent E 144 [x0, x1] H =
    alloc_ H (D.cells x0) fun p1 H1 => alloc_ H1 (D.cells x1) fun p2 H2 => (fa 0 p1).bind fun v3 => (ld false 1 H2 v3).bind fun v4 => (fa 0 p2).bind fun v5 => (ld false 1 H2 v5).bind fun v6 => (bS .neq v4 v6).bind fun v7 => asB v7 fun t => bif t then (ret_ H2 [some (D.bool false)]) else ((fa 1 p1).bind fun v8 => (ld false 1 H2 v8).bind fun v9 => (fa 1 p2).bind fun v10 => (ld false 1 H2 v10).bind fun v11 => (bI .neq v9 v11).bind fun v12 => asB v12 fun t => bif t then (ret_ H2 [some (D.bool false)]) else (ret_ H2 [some (D.bool true)])) :=
  (ent_seg E 144 [] 400 [x0, x1] H).trans (by kernel_rfl)
-- spec.l2At
theorem e145 (x0 x1 : D) (H : Heap) :
    ent E 145 [x0, x1] H =
    alloc_ H [.int .i64 0, .str [], .int .i64 0, .int .i64 0] fun p1 H1 => (lnL x0).bind fun v2 => (callFn E (exec E) .pure 66 [x1, (D.int .i64 1), v2] H1).bind fun r3 => asB r3.1 fun t => bif t then ((bI .sub x1 (D.int .i64 1)).bind fun v4 => (ia 4 r3.2 x0 v4).bind fun v5 => (ld true 4 r3.2 v5).bind fun v6 => (st 4 r3.2 p1 v6).bind fun H7 => ret_ H7 [ld true 4 H7 p1]) else ((bld [.int .i64 0, .str [], .int .i64 0, .int .i64 0] [(0, 1, false), (1, 1, false), (2, 1, false), (3, 1, false)] []).bind fun v8 => (st 4 r3.2 p1 v8).bind fun H9 => ret_ H9 [ld true 4 H9 p1]) :=
  (ent_seg E 145 [] 400 [x0, x1] H).trans (by kernel_rfl)
-- internal/stringslite.HasSuffix
theorem e146 (x0 x1 : D) (H : Heap) :
    ent E 146 [x0, x1] H =
    (lnS x0).bind fun v1 => (lnS x1).bind fun v2 => (bI .geq v1 v2).bind fun v3 => asB v3 fun t => bif t then ((lnS x0).bind fun v4 => (lnS x1).bind fun v5 => (bI .sub v4 v5).bind fun v6 => (slS x0 (some v6) none none).bind fun v7 => (bS .eql v7 x1).bind fun v8 => ret_ H [some v8]) else (ret_ H [some (D.bool false)]) :=
  (ent_seg E 146 [] 400 [x0, x1] H).trans (by kernel_rfl)
-- internal/bytealg.Cutover
theorem e148 (x0 : D) (H : Heap) :
    ent E 148 [x0] H =
    (bI .add x0 (D.int .i64 16)).bind fun v1 => (bI .quo v1 (D.int .i64 8)).bind fun v2 => ret_ H [some v2] :=
  (ent_seg E 148 [] 400 [x0] H).trans (by kernel_rfl)
-- internal/bytealg.IndexRabinKarp[string]
theorem e149 (x0 x1 : D) (H : Heap) :
    ent E 149 [x0, x1] H =
    (callFn E (exec E) .pure 157 [x1] H).bind fun r1 => (extract r1.1 0).bind fun v2 => (extract r1.1 1).bind fun v3 => (lnS x1).bind fun v4 => J E 149 5 [x0, x1, v2, v3, v4, (D.int .u32 0), (D.int .i64 0)] r1.2 :=
  (ent_seg E 149 [5, 11] 400 [x0, x1] H).trans (by kernel_rfl)
theorem j149_5 (x0 x1 x5 x6 x7 x8 x9 : D) (H : Heap) :
    J E 149 5 [x0, x1, x5, x6, x7, x8, x9] H =
    (bI .lss x9 x7).bind fun v5 => asB v5 fun t => bif t then ((bI .mul x8 (D.int .u32 16777619)).bind fun v6 => (ix x0 x9).bind fun v7 => (cI .u32 v7).bind fun v8 => (bI .add v6 v8).bind fun v9 => (bI .add x9 (D.int .i64 1)).bind fun v10 => J E 149 5 [x0, x1, x5, x6, x7, v9, v10] H) else ((bI .eql x8 x5).bind fun v11 => asB v11 fun t => bif t then ((slS x0 none (some x7) none).bind fun v12 => (bS .eql v12 x1).bind fun v13 => asB v13 fun t => bif t then (ret_ H [some (D.int .i64 0)]) else (J E 149 11 [x0, x1, x5, x6, x7, x8, x7] H)) else (J E 149 11 [x0, x1, x5, x6, x7, x8, x7] H)) :=
  (J_seg E 149 5 [5, 11] 400 [x0, x1, x5, x6, x7, x8, x9] H).trans (by kernel_rfl)
theorem j149_11 (x0 x1 x5 x6 x7 x8 x10 : D) (H : Heap) :
    J E 149 11 [x0, x1, x5, x6, x7, x8, x10] H =
    (lnS x0).bind fun v14 => (bI .lss x10 v14).bind fun v15 => asB v15 fun t => bif t then ((bI .mul x8 (D.int .u32 16777619)).bind fun v16 => (ix x0 x10).bind fun v17 => (cI .u32 v17).bind fun v18 => (bI .add v16 v18).bind fun v19 => (bI .sub x10 x7).bind fun v20 => (ix x0 v20).bind fun v21 => (cI .u32 v21).bind fun v22 => (bI .mul x6 v22).bind fun v23 => (bI .sub v19 v23).bind fun v24 => (bI .add x10 (D.int .i64 1)).bind fun v25 => (bI .eql v24 x5).bind fun v26 => asB v26 fun t => bif t then ((bI .sub v25 x7).bind fun v27 => (slS x0 (some v27) (some v25) none).bind fun v28 => (bS .eql v28 x1).bind fun v29 => asB v29 fun t => bif t then ((bI .sub v25 x7).bind fun v30 => ret_ H [some v30]) else (J E 149 11 [x0, x1, x5, x6, x7, v24, v25] H)) else (J E 149 11 [x0, x1, x5, x6, x7, v24, v25] H)) else (ret_ H [some (D.int .i64 (-1))]) :=
  (J_seg E 149 11 [5, 11] 400 [x0, x1, x5, x6, x7, x8, x10] H).trans (by kernel_rfl)
-- spec.l5LoaderOk
theorem e150 (x0 x1 : D) (H : Heap) :
    ent E 150 [x0, x1] H =
    alloc_ H (D.cells x0) fun p1 H1 => alloc_ H1 (D.cells x1) fun p2 H2 => J E 150 2 [p1, p2, (D.int .i64 0)] H2 :=
  (ent_seg E 150 [2, 8, 13, 15] 400 [x0, x1] H).trans (by kernel_rfl)
theorem j150_2 (x2 x3 x5 : D) (H : Heap) :
    J E 150 2 [x2, x3, x5] H =
    (fa 0 x3).bind fun v3 => (ld false 1 H v3).bind fun v4 => (lnL v4).bind fun v5 => (bI .lss x5 v5).bind fun v6 => asB v6 fun t => bif t then ((fa 0 x3).bind fun v7 => (ld false 1 H v7).bind fun v8 => (ia 2 H v8 x5).bind fun v9 => (ld true 2 H v9).bind fun v10 => alloc_ H [.str [], .str []] fun p11 H11 => (st 2 H11 p11 v10).bind fun H12 => (fa 0 p11).bind fun v13 => (ld false 1 H12 v13).bind fun v14 => (callFn E (exec E) .pure 57 [v14] H12).bind fun r15 => (unOp .not r15.1).bind fun v16 => asB v16 fun t => bif t then (ret_ r15.2 [some (D.bool false)]) else ((fa 0 p11).bind fun v17 => (ld false 1 r15.2 v17).bind fun v18 => (callFn E (exec E) .pure 132 [v18] r15.2).bind fun r19 => (bI .geq r19.1 (D.int .i64 0)).bind fun v20 => asB v20 fun t => bif t then (ret_ r19.2 [some (D.bool false)]) else ((fa 1 p11).bind fun v21 => (ld false 1 r19.2 v21).bind fun v22 => (lnS v22).bind fun v23 => (bI .gtr v23 (D.int .i64 900)).bind fun v24 => asB v24 fun t => bif t then (ret_ r19.2 [some (D.bool false)]) else (J E 150 8 [x2, x3, x5, p11, (D.int .i64 0)] r19.2)))) else (J E 150 13 [x2, x3, (D.int .i64 0)] H) :=
  (J_seg E 150 2 [2, 8, 13, 15] 400 [x2, x3, x5] H).trans (by kernel_rfl)
theorem j150_8 (x2 x3 x5 x6 x7 : D) (H : Heap) :
    J E 150 8 [x2, x3, x5, x6, x7] H =
    (bI .lss x7 x5).bind fun v25 => asB v25 fun t => bif t then ((fa 0 x3).bind fun v26 => (ld false 1 H v26).bind fun v27 => (ia 2 H v27 x7).bind fun v28 => (fa 0 v28).bind fun v29 => (ld false 1 H v29).bind fun v30 => (fa 0 x6).bind fun v31 => (ld false 1 H v31).bind fun v32 => (bS .eql v30 v32).bind fun v33 => asB v33 fun t => bif t then (ret_ H [some (D.bool false)]) else ((bI .add x7 (D.int .i64 1)).bind fun v34 => J E 150 8 [x2, x3, x5, x6, v34] H)) else ((bI .add x5 (D.int .i64 1)).bind fun v35 => J E 150 2 [x2, x3, v35] H) :=
  (J_seg E 150 8 [2, 8, 13, 15] 400 [x2, x3, x5, x6, x7] H).trans (by kernel_rfl)
theorem j150_13 (x2 x3 x8 : D) (H : Heap) :
    J E 150 13 [x2, x3, x8] H =
    (fa 1 x3).bind fun v36 => (ld false 1 H v36).bind fun v37 => (lnL v37).bind fun v38 => (bI .lss x8 v38).bind fun v39 => asB v39 fun t => bif t then (J E 150 15 [x2, x3, x8] H) else ((fa 0 x3).bind fun v40 => (ld false 1 H v40).bind fun v41 => (lnL v41).bind fun v42 => (bI .leq v42 (D.int .i64 5)).bind fun v43 => asB v43 fun t => bif t then ((fa 1 x3).bind fun v44 => (ld false 1 H v44).bind fun v45 => (lnL v45).bind fun v46 => (bI .leq v46 (D.int .i64 4)).bind fun v47 => asB v47 fun t => bif t then ((fa 2 x3).bind fun v48 => (ld false 1 H v48).bind fun v49 => (fa 0 x2).bind fun v50 => (ld false 1 H v50).bind fun v51 => (lnL v51).bind fun v52 => (bI .sub v52 (D.int .i64 1)).bind fun v53 => (callFn E (exec E) .pure 66 [v49, (D.int .i64 (-1)), v53] H).bind fun r54 => ret_ r54.2 [some r54.1]) else (ret_ H [some (D.bool false)])) else (ret_ H [some (D.bool false)])) :=
  (J_seg E 150 13 [2, 8, 13, 15] 400 [x2, x3, x8] H).trans (by kernel_rfl)
theorem j150_15 (x2 x3 x8 : D) (H : Heap) :
    J E 150 15 [x2, x3, x8] H =
    (fa 1 x3).bind fun v55 => (ld false 1 H v55).bind fun v56 => (ia 2 H v56 x8).bind fun v57 => (fa 0 v57).bind fun v58 => (ld false 1 H v58).bind fun v59 => (callFn E (exec E) .pure 57 [v59] H).bind fun r60 => (unOp .not r60.1).bind fun v61 => asB v61 fun t => bif t then (ret_ r60.2 [some (D.bool false)]) else ((fa 1 x3).bind fun v62 => (ld false 1 r60.2 v62).bind fun v63 => (ia 2 r60.2 v63 x8).bind fun v64 => (fa 1 v64).bind fun v65 => (ld false 1 r60.2 v65).bind fun v66 => (fa 0 x2).bind fun v67 => (ld false 1 r60.2 v67).bind fun v68 => (lnL v68).bind fun v69 => (bI .sub v69 (D.int .i64 1)).bind fun v70 => (callFn E (exec E) .pure 66 [v66, (D.int .i64 0), v70] r60.2).bind fun r71 => (unOp .not r71.1).bind fun v72 => asB v72 fun t => bif t then (ret_ r71.2 [some (D.bool false)]) else ((bI .gtr x8 (D.int .i64 0)).bind fun v73 => asB v73 fun t => bif t then ((fa 1 x3).bind fun v74 => (ld false 1 r71.2 v74).bind fun v75 => (ia 2 r71.2 v75 x8).bind fun v76 => (fa 0 v76).bind fun v77 => (ld false 1 r71.2 v77).bind fun v78 => (fa 1 x3).bind fun v79 => (ld false 1 r71.2 v79).bind fun v80 => (bI .sub x8 (D.int .i64 1)).bind fun v81 => (ia 2 r71.2 v80 v81).bind fun v82 => (fa 0 v82).bind fun v83 => (ld false 1 r71.2 v83).bind fun v84 => (bS .leq v78 v84).bind fun v85 => asB v85 fun t => bif t then (ret_ r71.2 [some (D.bool false)]) else ((bI .add x8 (D.int .i64 1)).bind fun v86 => J E 150 13 [x2, x3, v86] r71.2)) else ((bI .add x8 (D.int .i64 1)).bind fun v87 => J E 150 13 [x2, x3, v87] r71.2))) :=
  (J_seg E 150 15 [2, 8, 13, 15] 400 [x2, x3, x8] H).trans (by kernel_rfl)
-- slices.ContainsFunc[[]impl.Loader,impl.Loader]
theorem e151 (x0 x1 : D) (H : Heap) :
    ent E 151 [x0, x1] H =
    (callFn E (exec E) .raw 158 [x0, x1] H).bind fun r1 => (bI .geq r1.1 (D.int .i64 0)).bind fun v2 => ret_ r1.2 [some v2] :=
  (ent_seg E 151 [] 400 [x0, x1] H).trans (by kernel_rfl)
-- impl.loadersOk$1
theorem e152 (x0 x1 : D) (H : Heap) :
    ent E 152 [x0, x1] H =
    alloc_ H (D.cells x0) fun p1 H1 => (ld true 3 H1 p1).bind fun v2 => (ld false 1 H1 x1).bind fun v3 => (lnL v3).bind fun v4 => (callFn E (exec E) .pure 153 [v2, v4] H1).bind fun r5 => (unOp .not r5.1).bind fun v6 => ret_ r5.2 [some v6] :=
  (ent_seg E 152 [] 400 [x0, x1] H).trans (by kernel_rfl)
-- impl.loaderOk
theorem e153 (x0 x1 : D) (H : Heap) :
    ent E 153 [x0, x1] H =
    alloc_ H (D.cells x0) fun p1 H1 => (fa 0 p1).bind fun v2 => (ld false 1 H1 v2).bind fun v3 => (lnL v3).bind fun v4 => (bI .gtr v4 (D.int .i64 5)).bind fun v5 => asB v5 fun t => bif t then (ret_ H1 [some (D.bool false)]) else ((fa 1 p1).bind fun v6 => (ld false 1 H1 v6).bind fun v7 => (lnL v7).bind fun v8 => (bI .gtr v8 (D.int .i64 4)).bind fun v9 => asB v9 fun t => bif t then (ret_ H1 [some (D.bool false)]) else ((fa 2 p1).bind fun v10 => (ld false 1 H1 v10).bind fun v11 => (bI .sub x1 (D.int .i64 1)).bind fun v12 => (callFn E (exec E) .pure 58 [v11, (D.int .i64 (-1)), v12] H1).bind fun r13 => (unOp .not r13.1).bind fun v14 => asB v14 fun t => bif t then (ret_ r13.2 [some (D.bool false)]) else ((fa 0 p1).bind fun v15 => (ld false 1 r13.2 v15).bind fun v16 => (lnL v16).bind fun v17 => J E 153 4 [x1, p1, v16, v17, (D.int .i64 0)] r13.2))) :=
  (ent_seg E 153 [4, 10, 12] 400 [x0, x1] H).trans (by kernel_rfl)
theorem j153_4 (x1 x2 x28 x29 x30 : D) (H : Heap) :
    J E 153 4 [x1, x2, x28, x29, x30] H =
    (bI .lss x30 x29).bind fun v18 => asB v18 fun t => bif t then ((ia 2 H x28 x30).bind fun v19 => (ld true 2 H v19).bind fun v20 => alloc_ H [.str [], .str []] fun p21 H21 => (st 2 H21 p21 v20).bind fun H22 => (fa 0 p21).bind fun v23 => (ld false 1 H22 v23).bind fun v24 => (callFn E (exec E) .pure 16 [v24] H22).bind fun r25 => (unOp .not r25.1).bind fun v26 => asB v26 fun t => bif t then (ret_ r25.2 [some (D.bool false)]) else ((fa 0 p21).bind fun v27 => (ld false 1 r25.2 v27).bind fun v28 => (callFn E (exec E) .pure 140 [v28] r25.2).bind fun r29 => asB r29.1 fun t => bif t then (ret_ r29.2 [some (D.bool false)]) else ((fa 1 p21).bind fun v30 => (ld false 1 r29.2 v30).bind fun v31 => (lnS v31).bind fun v32 => (bI .gtr v32 (D.int .i64 900)).bind fun v33 => asB v33 fun t => bif t then (ret_ r29.2 [some (D.bool false)]) else ((fa 0 x2).bind fun v34 => (ld false 1 r29.2 v34).bind fun v35 => (slL 2 r29.2 v35 none (some x30) none).bind fun v36 => (callFn E (exec E) .raw 159 [v36, (D.fn 160 [p21])] r29.2).bind fun r37 => asB r37.1 fun t => bif t then (ret_ r37.2 [some (D.bool false)]) else ((bI .add x30 (D.int .i64 1)).bind fun v38 => J E 153 4 [x1, x2, x28, x29, v38] r37.2))))) else ((fa 1 x2).bind fun v39 => (ld false 1 H v39).bind fun v40 => (lnL v40).bind fun v41 => J E 153 10 [x1, x2, v40, v41, (D.int .i64 0)] H) :=
  (J_seg E 153 4 [4, 10, 12] 400 [x1, x2, x28, x29, x30] H).trans (by kernel_rfl)
theorem j153_10 (x1 x2 x60 x61 x62 : D) (H : Heap) :
    J E 153 10 [x1, x2, x60, x61, x62] H =
    (bI .lss x62 x61).bind fun v42 => asB v42 fun t => bif t then ((ia 2 H x60 x62).bind fun v43 => (ld true 2 H v43).bind fun v44 => alloc_ H [.str [], .int .i64 0] fun p45 H45 => (st 2 H45 p45 v44).bind fun H46 => J E 153 12 [x1, x2, x62, p45, x60, x61, x62] H46) else (ret_ H [some (D.bool true)]) :=
  (J_seg E 153 10 [4, 10, 12] 400 [x1, x2, x60, x61, x62] H).trans (by kernel_rfl)
theorem j153_12 (x1 x2 x7 x8 x60 x61 x62 : D) (H : Heap) :
    J E 153 12 [x1, x2, x7, x8, x60, x61, x62] H =
    (fa 0 x8).bind fun v47 => (ld false 1 H v47).bind fun v48 => (callFn E (exec E) .pure 16 [v48] H).bind fun r49 => (unOp .not r49.1).bind fun v50 => asB v50 fun t => bif t then (ret_ r49.2 [some (D.bool false)]) else ((fa 1 x8).bind fun v51 => (ld false 1 r49.2 v51).bind fun v52 => (bI .sub x1 (D.int .i64 1)).bind fun v53 => (callFn E (exec E) .pure 58 [v52, (D.int .i64 0), v53] r49.2).bind fun r54 => (unOp .not r54.1).bind fun v55 => asB v55 fun t => bif t then (ret_ r54.2 [some (D.bool false)]) else ((bI .gtr x7 (D.int .i64 0)).bind fun v56 => asB v56 fun t => bif t then ((fa 1 x2).bind fun v57 => (ld false 1 r54.2 v57).bind fun v58 => (bI .sub x7 (D.int .i64 1)).bind fun v59 => (ia 2 r54.2 v58 v59).bind fun v60 => (fa 0 v60).bind fun v61 => (ld false 1 r54.2 v61).bind fun v62 => (fa 0 x8).bind fun v63 => (ld false 1 r54.2 v63).bind fun v64 => (bS .geq v62 v64).bind fun v65 => asB v65 fun t => bif t then (ret_ r54.2 [some (D.bool false)]) else ((bI .add x62 (D.int .i64 1)).bind fun v66 => J E 153 10 [x1, x2, x60, x61, v66] r54.2)) else ((bI .add x62 (D.int .i64 1)).bind fun v67 => J E 153 10 [x1, x2, x60, x61, v67] r54.2))) :=
  (J_seg E 153 12 [4, 10, 12] 400 [x1, x2, x7, x8, x60, x61, x62] H).trans (by kernel_rfl)
-- slices.Index[[]int,int]
theorem e154 (x0 x1 : D) (H : Heap) :
    ent E 154 [x0, x1] H =
    (lnL x0).bind fun v1 => J E 154 2 [x0, x1, v1, (D.int .i64 0)] H :=
  (ent_seg E 154 [2] 400 [x0, x1] H).trans (by kernel_rfl)
theorem j154_2 (x0 x1 x7 x8 : D) (H : Heap) :
    J E 154 2 [x0, x1, x7, x8] H =
    (bI .lss x8 x7).bind fun v2 => asB v2 fun t => bif t then ((ia 1 H x0 x8).bind fun v3 => (ld false 1 H v3).bind fun v4 => (bI .eql x1 v4).bind fun v5 => asB v5 fun t => bif t then (ret_ H [some x8]) else ((bI .add x8 (D.int .i64 1)).bind fun v6 => J E 154 2 [x0, x1, x7, v6] H)) else (ret_ H [some (D.int .i64 (-1))]) :=
  (J_seg E 154 2 [2] 400 [x0, x1, x7, x8] H).trans (by kernel_rfl)
-- (impl.Loader).hasWay
theorem e155 (x0 x1 : D) (H : Heap) :
    ent E 155 [x0, x1] H =
    alloc_ H (D.cells x0) fun p1 H1 => alloc_ H1 (D.cells x1) fun p2 H2 => (fa 1 p1).bind fun v3 => (ld false 1 H2 v3).bind fun v4 => (callFn E (exec E) .raw 161 [v4, (D.fn 162 [p2])] H2).bind fun r5 => ret_ r5.2 [some r5.1] :=
  (ent_seg E 155 [] 400 [x0, x1] H).trans (by kernel_rfl)
-- (impl.Loader).hasFile
theorem e156 (x0 x1 : D) (H : Heap) :
    ent E 156 [x0, x1] H =
    alloc_ H (D.cells x0) fun p1 H1 => alloc_ H1 (D.cells x1) fun p2 H2 => (fa 0 p1).bind fun v3 => (ld false 1 H2 v3).bind fun v4 => (callFn E (exec E) .raw 163 [v4, (D.fn 164 [p2])] H2).bind fun r5 => ret_ r5.2 [some r5.1] :=
  (ent_seg E 156 [] 400 [x0, x1] H).trans (by kernel_rfl)
-- internal/bytealg.hashStr[string]
theorem e157 (x0 : D) (H : Heap) :
    ent E 157 [x0] H =
    J E 157 3 [x0, (D.int .u32 0), (D.int .i64 0)] H :=
  (ent_seg E 157 [3, 8, 12] 400 [x0] H).trans (by kernel_rfl)
theorem j157_3 (x0 x4 x5 : D) (H : Heap) :
    J E 157 3 [x0, x4, x5] H =
    (lnS x0).bind fun v1 => (bI .lss x5 v1).bind fun v2 => asB v2 fun t => bif t then ((bI .mul x4 (D.int .u32 16777619)).bind fun v3 => (ix x0 x5).bind fun v4 => (cI .u32 v4).bind fun v5 => (bI .add v3 v5).bind fun v6 => (bI .add x5 (D.int .i64 1)).bind fun v7 => J E 157 3 [x0, v6, v7] H) else ((lnS x0).bind fun v8 => J E 157 8 [x4, (D.int .u32 1), (D.int .u32 16777619), v8] H) :=
  (J_seg E 157 3 [3, 8, 12] 400 [x0, x4, x5] H).trans (by kernel_rfl)
theorem j157_8 (x4 x6 x7 x8 : D) (H : Heap) :
    J E 157 8 [x4, x6, x7, x8] H =
    (bI .gtr x8 (D.int .i64 0)).bind fun v9 => asB v9 fun t => bif t then ((bI .and x8 (D.int .i64 1)).bind fun v10 => (bI .neq v10 (D.int .i64 0)).bind fun v11 => asB v11 fun t => bif t then ((bI .mul x6 x7).bind fun v12 => J E 157 12 [x4, v12, x7, x8] H) else (J E 157 12 [x4, x6, x7, x8] H)) else (ret_ H [some x4, some x6]) :=
  (J_seg E 157 8 [3, 8, 12] 400 [x4, x6, x7, x8] H).trans (by kernel_rfl)
theorem j157_12 (x4 x6 x7 x8 : D) (H : Heap) :
    J E 157 12 [x4, x6, x7, x8] H =
    (bI .mul x7 x7).bind fun v13 => (bI .shr x8 (D.int .u64 1)).bind fun v14 => J E 157 8 [x4, x6, v13, v14] H :=
  (J_seg E 157 12 [3, 8, 12] 400 [x4, x6, x7, x8] H).trans (by kernel_rfl)
-- slices.IndexFunc[[]impl.Loader,impl.Loader]
theorem e158 (x0 x1 : D) (H : Heap) :
    ent E 158 [x0, x1] H =
    (lnL x0).bind fun v1 => J E 158 2 [x0, x1, v1, (D.int .i64 0)] H :=
  (ent_seg E 158 [2] 400 [x0, x1] H).trans (by kernel_rfl)
theorem j158_2 (x0 x1 x7 x8 : D) (H : Heap) :
    J E 158 2 [x0, x1, x7, x8] H =
    (bI .lss x8 x7).bind fun v2 => asB v2 fun t => bif t then ((ia 3 H x0 x8).bind fun v3 => (ld true 3 H v3).bind fun v4 => asFn x1 fun gq5 cq5 => (callFn E (exec E) (modeT 158 gq5) gq5 ([v4] ++ cq5) H).bind fun r6 => asB r6.1 fun t => bif t then (ret_ r6.2 [some x8]) else ((bI .add x8 (D.int .i64 1)).bind fun v7 => J E 158 2 [x0, x1, x7, v7] r6.2)) else (ret_ H [some (D.int .i64 (-1))]) :=
  (J_seg E 158 2 [2] 400 [x0, x1, x7, x8] H).trans (by kernel_rfl)
-- slices.ContainsFunc[[]impl.File,impl.File]
theorem e159 (x0 x1 : D) (H : Heap) :
    ent E 159 [x0, x1] H =
    (callFn E (exec E) .raw 163 [x0, x1] H).bind fun r1 => (bI .geq r1.1 (D.int .i64 0)).bind fun v2 => ret_ r1.2 [some v2] :=
  (ent_seg E 159 [] 400 [x0, x1] H).trans (by kernel_rfl)
-- impl.loaderOk$1
theorem e160 (x0 x1 : D) (H : Heap) :
    ent E 160 [x0, x1] H =
    alloc_ H (D.cells x0) fun p1 H1 => (fa 0 p1).bind fun v2 => (ld false 1 H1 v2).bind fun v3 => (fa 0 x1).bind fun v4 => (ld false 1 H1 v4).bind fun v5 => (bS .eql v3 v5).bind fun v6 => ret_ H1 [some v6] :=
  (ent_seg E 160 [] 400 [x0, x1] H).trans (by kernel_rfl)
-- slices.IndexFunc[[]impl.Way,impl.Way]
theorem e161 (x0 x1 : D) (H : Heap) :
    ent E 161 [x0, x1] H =
    (lnL x0).bind fun v1 => J E 161 2 [x0, x1, v1, (D.int .i64 0)] H :=
  (ent_seg E 161 [2] 400 [x0, x1] H).trans (by kernel_rfl)
theorem j161_2 (x0 x1 x7 x8 : D) (H : Heap) :
    J E 161 2 [x0, x1, x7, x8] H =
    (bI .lss x8 x7).bind fun v2 => asB v2 fun t => bif t then ((ia 2 H x0 x8).bind fun v3 => (ld true 2 H v3).bind fun v4 => asFn x1 fun gq5 cq5 => (callFn E (exec E) (modeT 161 gq5) gq5 ([v4] ++ cq5) H).bind fun r6 => asB r6.1 fun t => bif t then (ret_ r6.2 [some x8]) else ((bI .add x8 (D.int .i64 1)).bind fun v7 => J E 161 2 [x0, x1, x7, v7] r6.2)) else (ret_ H [some (D.int .i64 (-1))]) :=
  (J_seg E 161 2 [2] 400 [x0, x1, x7, x8] H).trans (by kernel_rfl)
-- (impl.Loader).hasWay$1
theorem e162 (x0 x1 : D) (H : Heap) :
    ent E 162 [x0, x1] H =
    alloc_ H (D.cells x0) fun p1 H1 => (fa 0 p1).bind fun v2 => (ld false 1 H1 v2).bind fun v3 => (ld false 1 H1 x1).bind fun v4 => (bS .eql v3 v4).bind fun v5 => ret_ H1 [some v5] :=
  (ent_seg E 162 [] 400 [x0, x1] H).trans (by kernel_rfl)
-- slices.IndexFunc[[]impl.File,impl.File]
theorem e163 (x0 x1 : D) (H : Heap) :
    ent E 163 [x0, x1] H =
    (lnL x0).bind fun v1 => J E 163 2 [x0, x1, v1, (D.int .i64 0)] H :=
  (ent_seg E 163 [2] 400 [x0, x1] H).trans (by kernel_rfl)
theorem j163_2 (x0 x1 x7 x8 : D) (H : Heap) :
    J E 163 2 [x0, x1, x7, x8] H =
    (bI .lss x8 x7).bind fun v2 => asB v2 fun t => bif t then ((ia 2 H x0 x8).bind fun v3 => (ld true 2 H v3).bind fun v4 => asFn x1 fun gq5 cq5 => (callFn E (exec E) (modeT 163 gq5) gq5 ([v4] ++ cq5) H).bind fun r6 => asB r6.1 fun t => bif t then (ret_ r6.2 [some x8]) else ((bI .add x8 (D.int .i64 1)).bind fun v7 => J E 163 2 [x0, x1, x7, v7] r6.2)) else (ret_ H [some (D.int .i64 (-1))]) :=
  (J_seg E 163 2 [2] 400 [x0, x1, x7, x8] H).trans (by kernel_rfl)
-- (impl.Loader).hasFile$1
theorem e164 (x0 x1 : D) (H : Heap) :
    ent E 164 [x0, x1] H =
    alloc_ H (D.cells x0) fun p1 H1 => (fa 0 p1).bind fun v2 => (ld false 1 H1 v2).bind fun v3 => (ld false 1 H1 x1).bind fun v4 => (bS .eql v3 v4).bind fun v5 => ret_ H1 [some v5] :=
  (ent_seg E 164 [] 400 [x0, x1] H).trans (by kernel_rfl)
end Go.Ev.Ytohkcloiokhglaa
