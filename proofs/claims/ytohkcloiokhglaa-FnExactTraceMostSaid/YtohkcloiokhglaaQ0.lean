import Derived.Test.YtohkcloiokhglaaEn
namespace Go.Ev.Ytohkcloiokhglaa
set_option maxRecDepth 100000
set_option linter.unusedVariables false
-- laws.FnExactTraceMost
theorem e7 (x0 : D) (H : Heap) :
    ent E 7 [x0] H =
    (callFn E (exec E) .pure 24 [x0, (D.int .i64 1048576)] H).bind fun r1 => (bI .lss r1.1 (D.int .i64 0)).bind fun v2 => asB v2 fun t => bif t then (ret_ r1.2 [some (D.bool true)]) else ((callFn E (exec E) .own 26 [x0] r1.2).bind fun r3 => (callFn E (exec E) .view 25 [r3.1] r3.2).bind fun r4 => (callFn E (exec E) .own 26 [x0] r4.2).bind fun r5 => (callFn E (exec E) .own 27 [r5.1] r5.2).bind fun r6 => (callFn E (exec E) .pure 28 [r6.1, r4.1] r6.2).bind fun r7 => (unOp .not r7.1).bind fun v8 => asB v8 fun t => bif t then (ret_ r7.2 [some (D.bool false)]) else ((callFn E (exec E) .own 26 [x0] r7.2).bind fun r9 => (callFn E (exec E) .pure 29 [r5.1, r9.1] r9.2).bind fun r10 => (unOp .not r10.1).bind fun v11 => asB v11 fun t => bif t then (ret_ r10.2 [some (D.bool false)]) else ((callFn E (exec E) .raw 30 [r5.1, (D.int .i64 1)] r10.2).bind fun r12 => (bI .lss r12.1 (D.int .i64 0)).bind fun v13 => asB v13 fun t => bif t then (ret_ r12.2 [some (D.bool false)]) else ((callFn E (exec E) .pure 28 [r6.1, r4.1] r12.2).bind fun r14 => (unOp .not r14.1).bind fun v15 => asB v15 fun t => bif t then (ret_ r14.2 [some (D.bool false)]) else ((callFn E (exec E) .raw 31 [r6.1, (D.int .i64 1)] r14.2).bind fun r16 => (callFn E (exec E) .pure 32 [r6.1, (D.int .i64 1)] r16.2).bind fun r17 => (bI .lss r17.1 (D.int .i64 0)).bind fun v18 => asB v18 fun t => bif t then (ret_ r17.2 [some (D.bool false)]) else ((bI .neq r17.1 r16.1).bind fun v19 => asB v19 fun t => bif t then (ret_ r17.2 [some (D.bool false)]) else ((callFn E (exec E) .own 26 [x0] r17.2).bind fun r20 => (callFn E (exec E) .own 27 [r20.1] r20.2).bind fun r21 => (callFn E (exec E) .pure 28 [r21.1, r4.1] r21.2).bind fun r22 => (unOp .not r22.1).bind fun v23 => asB v23 fun t => bif t then (ret_ r22.2 [some (D.bool false)]) else ((callFn E (exec E) .pure 32 [r6.1, (D.int .i64 1)] r22.2).bind fun r24 => (bI .lss r24.1 (D.int .i64 0)).bind fun v25 => asB v25 fun t => bif t then (ret_ r24.2 [some (D.bool false)]) else ((bI .neq r24.1 r16.1).bind fun v26 => asB v26 fun t => bif t then (ret_ r24.2 [some (D.bool false)]) else (ret_ r24.2 [some (D.bool true)])))))))))) :=
  (ent_seg E 7 [] 400 [x0] H).trans (by kernel_rfl)
-- laws.szLineS
theorem e24 (x0 x1 : D) (H : Heap) :
    ent E 24 [x0, x1] H =
    (lnL x0).bind fun v1 => (bI .sub x1 v1).bind fun v2 => (bI .lss v2 (D.int .i64 0)).bind fun v3 => asB v3 fun t => bif t then (ret_ H [some (D.int .i64 (-1))]) else (J E 24 5 [x0, v2, (D.int .i64 0)] H) :=
  (ent_seg E 24 [5] 400 [x0, x1] H).trans (by kernel_rfl)
theorem j24_5 (x0 x1 x5 : D) (H : Heap) :
    J E 24 5 [x0, x1, x5] H =
    (lnL x0).bind fun v4 => (bI .lss x5 v4).bind fun v5 => asB v5 fun t => bif t then ((ia 6 H x0 x5).bind fun v6 => (ld true 6 H v6).bind fun v7 => (callFn E (exec E) .pure 64 [v7, x1] H).bind fun r8 => (bI .lss r8.1 (D.int .i64 0)).bind fun v9 => asB v9 fun t => bif t then (ret_ r8.2 [some (D.int .i64 (-1))]) else ((bI .add x5 (D.int .i64 1)).bind fun v10 => J E 24 5 [x0, r8.1, v10] r8.2)) else (ret_ H [some x1]) :=
  (J_seg E 24 5 [5] 400 [x0, x1, x5] H).trans (by kernel_rfl)
-- spec.TraceMost
theorem e25 (x0 : D) (H : Heap) :
    ent E 25 [x0] H =
    (callFn E (exec E) .view 65 [] H).bind fun r1 => (lnL r1.1).bind fun v2 => (mks 8 [.int .i64 0] r1.2 v2 v2).bind fun r3 => J E 25 3 [x0, r3.1, (D.int .i64 0)] r3.2 :=
  (ent_seg E 25 [3, 4] 400 [x0] H).trans (by kernel_rfl)
theorem j25_3 (x0 x3 x4 : D) (H : Heap) :
    J E 25 3 [x0, x3, x4] H =
    (lnL x0).bind fun v4 => (bI .lss x4 v4).bind fun v5 => asB v5 fun t => bif t then ((ia 6 H x0 x4).bind fun v6 => (fa 4 v6).bind fun v7 => (ld false 1 H v7).bind fun v8 => (lnL x3).bind fun v9 => (bI .sub v9 (D.int .i64 1)).bind fun v10 => (callFn E (exec E) .pure 66 [v8, (D.int .i64 0), v10] H).bind fun r11 => asB r11.1 fun t => bif t then ((ia 6 r11.2 x0 x4).bind fun v12 => (fa 4 v12).bind fun v13 => (ld false 1 r11.2 v13).bind fun v14 => (ia 6 r11.2 x0 x4).bind fun v15 => (fa 4 v15).bind fun v16 => (ld false 1 r11.2 v16).bind fun v17 => (ia 1 r11.2 x3 v17).bind fun v18 => (ld false 1 r11.2 v18).bind fun v19 => (bI .add v19 (D.int .i64 1)).bind fun v20 => (ia 1 r11.2 x3 v14).bind fun v21 => (st 1 r11.2 v21 v20).bind fun H22 => J E 25 4 [x0, x3, x4] H22) else (J E 25 4 [x0, x3, x4] r11.2)) else (ret_ H [some x3]) :=
  (J_seg E 25 3 [3, 4] 400 [x0, x3, x4] H).trans (by kernel_rfl)
theorem j25_4 (x0 x3 x4 : D) (H : Heap) :
    J E 25 4 [x0, x3, x4] H =
    (bI .add x4 (D.int .i64 1)).bind fun v23 => J E 25 3 [x0, x3, v23] H :=
  (J_seg E 25 4 [3, 4] 400 [x0, x3, x4] H).trans (by kernel_rfl)
-- laws.toLineS
theorem e26 (x0 : D) (H : Heap) :
    ent E 26 [x0] H =
    (lnL x0).bind fun v1 => (mks 64 [.int .i64 0, .str [], .str [], .int .i64 0, .int .i64 0, .int .i64 0] H v1 v1).bind fun r2 => J E 26 3 [x0, r2.1, (D.int .i64 0)] r2.2 :=
  (ent_seg E 26 [3] 400 [x0] H).trans (by kernel_rfl)
theorem j26_3 (x0 x3 x4 : D) (H : Heap) :
    J E 26 3 [x0, x3, x4] H =
    (lnL x0).bind fun v3 => (bI .lss x4 v3).bind fun v4 => asB v4 fun t => bif t then ((ia 6 H x0 x4).bind fun v5 => (ld true 6 H v5).bind fun v6 => (callFn E (exec E) .pure 67 [v6] H).bind fun r7 => (ia 6 r7.2 x3 x4).bind fun v8 => (st 6 r7.2 v8 r7.1).bind fun H9 => (bI .add x4 (D.int .i64 1)).bind fun v10 => J E 26 3 [x0, x3, v10] H9) else (ret_ H [some x3]) :=
  (J_seg E 26 3 [3] 400 [x0, x3, x4] H).trans (by kernel_rfl)
-- impl.TraceMost
theorem e27 (x0 : D) (H : Heap) :
    ent E 27 [x0] H =
    (mks 8 [.int .i64 0] H (D.int .i64 35) (D.int .i64 35)).bind fun r1 => (lnL x0).bind fun v2 => J E 27 3 [r1.1, x0, v2, (D.int .i64 0)] r1.2 :=
  (ent_seg E 27 [3, 7] 400 [x0] H).trans (by kernel_rfl)
theorem j27_3 (x3 x7 x8 x9 : D) (H : Heap) :
    J E 27 3 [x3, x7, x8, x9] H =
    (bI .lss x9 x8).bind fun v3 => asB v3 fun t => bif t then ((ia 6 H x7 x9).bind fun v4 => (ld true 6 H v4).bind fun v5 => alloc_ H [.int .i64 0, .str [], .str [], .int .i64 0, .int .i64 0, .int .i64 0] fun p6 H6 => (st 6 H6 p6 v5).bind fun H7 => (fa 4 p6).bind fun v8 => (ld false 1 H7 v8).bind fun v9 => (callFn E (exec E) .pure 58 [v9, (D.int .i64 0), (D.int .i64 34)] H7).bind fun r10 => asB r10.1 fun t => bif t then ((fa 4 p6).bind fun v11 => (ld false 1 r10.2 v11).bind fun v12 => (ia 1 r10.2 x3 v12).bind fun v13 => (ld false 1 r10.2 v13).bind fun v14 => (bI .add v14 (D.int .i64 1)).bind fun v15 => (ia 1 r10.2 x3 v12).bind fun v16 => (st 1 r10.2 v16 v15).bind fun H17 => J E 27 7 [x3, x7, x8, x9] H17) else (J E 27 7 [x3, x7, x8, x9] r10.2)) else (ret_ H [some x3]) :=
  (J_seg E 27 3 [3, 7] 400 [x3, x7, x8, x9] H).trans (by kernel_rfl)
theorem j27_7 (x3 x7 x8 x9 : D) (H : Heap) :
    J E 27 7 [x3, x7, x8, x9] H =
    (bI .add x9 (D.int .i64 1)).bind fun v18 => J E 27 3 [x3, x7, x8, v18] H :=
  (J_seg E 27 7 [3, 7] 400 [x3, x7, x8, x9] H).trans (by kernel_rfl)
-- laws.eqIntS
theorem e28 (x0 x1 : D) (H : Heap) :
    ent E 28 [x0, x1] H =
    (lnL x0).bind fun v1 => (lnL x1).bind fun v2 => (bI .neq v1 v2).bind fun v3 => asB v3 fun t => bif t then (ret_ H [some (D.bool false)]) else (J E 28 4 [x0, x1, (D.int .i64 0)] H) :=
  (ent_seg E 28 [4] 400 [x0, x1] H).trans (by kernel_rfl)
theorem j28_4 (x0 x1 x5 : D) (H : Heap) :
    J E 28 4 [x0, x1, x5] H =
    (lnL x0).bind fun v4 => (bI .lss x5 v4).bind fun v5 => asB v5 fun t => bif t then ((ia 1 H x0 x5).bind fun v6 => (ld false 1 H v6).bind fun v7 => (ia 1 H x1 x5).bind fun v8 => (ld false 1 H v8).bind fun v9 => (bI .neq v7 v9).bind fun v10 => asB v10 fun t => bif t then (ret_ H [some (D.bool false)]) else ((bI .add x5 (D.int .i64 1)).bind fun v11 => J E 28 4 [x0, x1, v11] H)) else (ret_ H [some (D.bool true)]) :=
  (J_seg E 28 4 [4] 400 [x0, x1, x5] H).trans (by kernel_rfl)
-- laws.eqLineS
theorem e29 (x0 x1 : D) (H : Heap) :
    ent E 29 [x0, x1] H =
    (lnL x0).bind fun v1 => (lnL x1).bind fun v2 => (bI .neq v1 v2).bind fun v3 => asB v3 fun t => bif t then (ret_ H [some (D.bool false)]) else (J E 29 4 [x0, x1, (D.int .i64 0)] H) :=
  (ent_seg E 29 [4] 400 [x0, x1] H).trans (by kernel_rfl)
theorem j29_4 (x0 x1 x5 : D) (H : Heap) :
    J E 29 4 [x0, x1, x5] H =
    (lnL x0).bind fun v4 => (bI .lss x5 v4).bind fun v5 => asB v5 fun t => bif t then ((ia 6 H x0 x5).bind fun v6 => (ld true 6 H v6).bind fun v7 => (ia 6 H x1 x5).bind fun v8 => (ld true 6 H v8).bind fun v9 => (callFn E (exec E) .pure 68 [v7, v9] H).bind fun r10 => (unOp .not r10.1).bind fun v11 => asB v11 fun t => bif t then (ret_ r10.2 [some (D.bool false)]) else ((bI .add x5 (D.int .i64 1)).bind fun v12 => J E 29 4 [x0, x1, v12] r10.2)) else (ret_ H [some (D.bool true)]) :=
  (J_seg E 29 4 [4] 400 [x0, x1, x5] H).trans (by kernel_rfl)
-- laws.markLineS
theorem e30 (x0 x1 : D) (H : Heap) :
    ent E 30 [x0, x1] H =
    J E 30 2 [x0, x1, (D.int .i64 0)] H :=
  (ent_seg E 30 [2] 400 [x0, x1] H).trans (by kernel_rfl)
theorem j30_2 (x0 x1 x5 : D) (H : Heap) :
    J E 30 2 [x0, x1, x5] H =
    (lnL x0).bind fun v1 => (bI .lss x5 v1).bind fun v2 => asB v2 fun t => bif t then ((ia 6 H x0 x5).bind fun v3 => (fa 0 v3).bind fun v4 => (st 1 H v4 x1).bind fun H5 => (bI .add x1 (D.int .i64 1)).bind fun v6 => (callFn E (exec E) .pure 69 [v6] H5).bind fun r7 => (ia 6 r7.2 x0 x5).bind fun v8 => (fa 1 v8).bind fun v9 => (st 1 r7.2 v9 r7.1).bind fun H10 => (bI .add v6 (D.int .i64 1)).bind fun v11 => (callFn E (exec E) .pure 69 [v11] H10).bind fun r12 => (ia 6 r12.2 x0 x5).bind fun v13 => (fa 2 v13).bind fun v14 => (st 1 r12.2 v14 r12.1).bind fun H15 => (bI .add v11 (D.int .i64 1)).bind fun v16 => (ia 6 H15 x0 x5).bind fun v17 => (fa 3 v17).bind fun v18 => (st 1 H15 v18 v16).bind fun H19 => (bI .add v16 (D.int .i64 1)).bind fun v20 => (ia 6 H19 x0 x5).bind fun v21 => (fa 4 v21).bind fun v22 => (st 1 H19 v22 v20).bind fun H23 => (bI .add v20 (D.int .i64 1)).bind fun v24 => (ia 6 H23 x0 x5).bind fun v25 => (fa 5 v25).bind fun v26 => (st 1 H23 v26 v24).bind fun H27 => (bI .add v24 (D.int .i64 1)).bind fun v28 => (bI .add x5 (D.int .i64 1)).bind fun v29 => J E 30 2 [x0, v28, v29] H27) else (ret_ H [some x1]) :=
  (J_seg E 30 2 [2] 400 [x0, x1, x5] H).trans (by kernel_rfl)
-- laws.markIntS
theorem e31 (x0 x1 : D) (H : Heap) :
    ent E 31 [x0, x1] H =
    J E 31 2 [x0, x1, (D.int .i64 0)] H :=
  (ent_seg E 31 [2] 400 [x0, x1] H).trans (by kernel_rfl)
theorem j31_2 (x0 x1 x5 : D) (H : Heap) :
    J E 31 2 [x0, x1, x5] H =
    (lnL x0).bind fun v1 => (bI .lss x5 v1).bind fun v2 => asB v2 fun t => bif t then ((ia 1 H x0 x5).bind fun v3 => (st 1 H v3 x1).bind fun H4 => (bI .add x1 (D.int .i64 1)).bind fun v5 => (bI .add x5 (D.int .i64 1)).bind fun v6 => J E 31 2 [x0, v5, v6] H4) else (ret_ H [some x1]) :=
  (J_seg E 31 2 [2] 400 [x0, x1, x5] H).trans (by kernel_rfl)
-- laws.heldIntS
theorem e32 (x0 x1 : D) (H : Heap) :
    ent E 32 [x0, x1] H =
    J E 32 2 [x0, x1, (D.int .i64 0)] H :=
  (ent_seg E 32 [2] 400 [x0, x1] H).trans (by kernel_rfl)
theorem j32_2 (x0 x1 x5 : D) (H : Heap) :
    J E 32 2 [x0, x1, x5] H =
    (lnL x0).bind fun v1 => (bI .lss x5 v1).bind fun v2 => asB v2 fun t => bif t then ((ia 1 H x0 x5).bind fun v3 => (ld false 1 H v3).bind fun v4 => (bI .neq v4 x1).bind fun v5 => asB v5 fun t => bif t then (ret_ H [some (D.int .i64 (-1))]) else ((bI .add x1 (D.int .i64 1)).bind fun v6 => (bI .add x5 (D.int .i64 1)).bind fun v7 => J E 32 2 [x0, v6, v7] H)) else (ret_ H [some x1]) :=
  (J_seg E 32 2 [2] 400 [x0, x1, x5] H).trans (by kernel_rfl)
-- impl.within
theorem e58 (x0 x1 x2 : D) (H : Heap) :
    ent E 58 [x0, x1, x2] H =
    (bI .leq x1 x0).bind fun v1 => asB v1 fun t => bif t then ((bI .leq x0 x2).bind fun v2 => ret_ H [some v2]) else (ret_ H [some (D.bool false)]) :=
  (ent_seg E 58 [] 400 [x0, x1, x2] H).trans (by kernel_rfl)
-- laws.szLine
theorem e64 (x0 x1 : D) (H : Heap) :
    ent E 64 [x0, x1] H =
    alloc_ H (D.cells x0) fun p1 H1 => (fa 1 p1).bind fun v2 => (ld false 1 H1 v2).bind fun v3 => (lnS v3).bind fun v4 => (bI .sub x1 v4).bind fun v5 => (bI .lss v5 (D.int .i64 0)).bind fun v6 => asB v6 fun t => bif t then (ret_ H1 [some (D.int .i64 (-1))]) else ((fa 2 p1).bind fun v7 => (ld false 1 H1 v7).bind fun v8 => (lnS v8).bind fun v9 => (bI .sub v5 v9).bind fun v10 => (bI .lss v10 (D.int .i64 0)).bind fun v11 => asB v11 fun t => bif t then (ret_ H1 [some (D.int .i64 (-1))]) else (ret_ H1 [some v10])) :=
  (ent_seg E 64 [] 400 [x0, x1] H).trans (by kernel_rfl)
-- spec.l13Ops
theorem e65 (H : Heap) :
    ent E 65 [] H =
    (bsl 1 [.str []] H 35 [(0, (D.str [110, 111, 112])), (1, (D.str [112, 117, 115, 104])), (2, (D.str [110, 117, 108, 108])), (3, (D.str [108, 111, 97, 100])), (4, (D.str [115, 116, 111, 114, 101])), (5, (D.str [114, 101, 102, 108, 111, 97, 100])), (6, (D.str [114, 101, 102, 115, 116, 111, 114, 101])), (7, (D.str [112, 111, 112])), (8, (D.str [100, 117, 112])), (9, (D.str [115, 119, 97, 112])), (10, (D.str [97, 100, 100])), (11, (D.str [115, 117, 98])), (12, (D.str [109, 117, 108])), (13, (D.str [100, 105, 118])), (14, (D.str [105, 102, 122, 101, 114, 111])), (15, (D.str [105, 102, 110, 101, 103])), (16, (D.str [105, 102, 110, 117, 108, 108])), (17, (D.str [105, 102, 115, 97, 109, 101])), (18, (D.str [103, 111])), (19, (D.str [110, 101, 119])), (20, (D.str [103, 101, 116])), (21, (D.str [112, 117, 116])), (22, (D.str [103, 101, 116, 97, 108, 108])), (23, (D.str [112, 117, 116, 97, 108, 108])), (24, (D.str [118, 105, 114, 116, 117, 97, 108])), (25, (D.str [115, 112, 101, 99, 105, 97, 108])), (26, (D.str [115, 116, 97, 116, 105, 99])), (27, (D.str [102, 97, 99, 101])), (28, (D.str [99, 97, 115, 116])), (29, (D.str [105, 115])), (30, (D.str [103, 105, 118, 101, 105, 110, 116])), (31, (D.str [103, 105, 118, 101, 114, 101, 102])), (32, (D.str [103, 105, 118, 101])), (33, (D.str [116, 104, 114, 111, 119])), (34, (D.str [112, 114, 105, 110, 116]))]).bind fun r1 => ret_ r1.2 [some r1.1] :=
  (ent_seg E 65 [] 400 [] H).trans (by kernel_rfl)
-- spec.l1In
theorem e66 (x0 x1 x2 : D) (H : Heap) :
    ent E 66 [x0, x1, x2] H =
    (bI .geq x0 x1).bind fun v1 => asB v1 fun t => bif t then ((bI .leq x0 x2).bind fun v2 => ret_ H [some v2]) else (ret_ H [some (D.bool false)]) :=
  (ent_seg E 66 [] 400 [x0, x1, x2] H).trans (by kernel_rfl)
-- laws.toLine
theorem e67 (x0 : D) (H : Heap) :
    ent E 67 [x0] H =
    alloc_ H (D.cells x0) fun p1 H1 => alloc_ H1 [.int .i64 0, .str [], .str [], .int .i64 0, .int .i64 0, .int .i64 0] fun p2 H2 => alloc_ H2 [.int .i64 0, .str [], .str [], .int .i64 0, .int .i64 0, .int .i64 0] fun p3 H3 => (fa 0 p1).bind fun v4 => (ld false 1 H3 v4).bind fun v5 => (fa 0 p3).bind fun v6 => (st 1 H3 v6 v5).bind fun H7 => (fa 1 p1).bind fun v8 => (ld false 1 H7 v8).bind fun v9 => (fa 1 p3).bind fun v10 => (st 1 H7 v10 v9).bind fun H11 => (fa 2 p1).bind fun v12 => (ld false 1 H11 v12).bind fun v13 => (fa 2 p3).bind fun v14 => (st 1 H11 v14 v13).bind fun H15 => (fa 3 p1).bind fun v16 => (ld false 1 H15 v16).bind fun v17 => (fa 3 p3).bind fun v18 => (st 1 H15 v18 v17).bind fun H19 => (fa 4 p1).bind fun v20 => (ld false 1 H19 v20).bind fun v21 => (fa 4 p3).bind fun v22 => (st 1 H19 v22 v21).bind fun H23 => (fa 5 p1).bind fun v24 => (ld false 1 H23 v24).bind fun v25 => (fa 5 p3).bind fun v26 => (st 1 H23 v26 v25).bind fun H27 => (ld true 6 H27 p3).bind fun v28 => (st 6 H27 p2 v28).bind fun H29 => ret_ H29 [ld true 6 H29 p2] :=
  (ent_seg E 67 [] 400 [x0] H).trans (by kernel_rfl)
-- laws.eqLine
theorem e68 (x0 x1 : D) (H : Heap) :
    ent E 68 [x0, x1] H =
    alloc_ H (D.cells x0) fun p1 H1 => alloc_ H1 (D.cells x1) fun p2 H2 => (fa 0 p1).bind fun v3 => (ld false 1 H2 v3).bind fun v4 => (fa 0 p2).bind fun v5 => (ld false 1 H2 v5).bind fun v6 => (bI .neq v4 v6).bind fun v7 => asB v7 fun t => bif t then (ret_ H2 [some (D.bool false)]) else ((fa 1 p1).bind fun v8 => (ld false 1 H2 v8).bind fun v9 => (fa 1 p2).bind fun v10 => (ld false 1 H2 v10).bind fun v11 => (bS .neq v9 v11).bind fun v12 => asB v12 fun t => bif t then (ret_ H2 [some (D.bool false)]) else ((fa 2 p1).bind fun v13 => (ld false 1 H2 v13).bind fun v14 => (fa 2 p2).bind fun v15 => (ld false 1 H2 v15).bind fun v16 => (bS .neq v14 v16).bind fun v17 => asB v17 fun t => bif t then (ret_ H2 [some (D.bool false)]) else ((fa 3 p1).bind fun v18 => (ld false 1 H2 v18).bind fun v19 => (fa 3 p2).bind fun v20 => (ld false 1 H2 v20).bind fun v21 => (bI .neq v19 v21).bind fun v22 => asB v22 fun t => bif t then (ret_ H2 [some (D.bool false)]) else ((fa 4 p1).bind fun v23 => (ld false 1 H2 v23).bind fun v24 => (fa 4 p2).bind fun v25 => (ld false 1 H2 v25).bind fun v26 => (bI .neq v24 v26).bind fun v27 => asB v27 fun t => bif t then (ret_ H2 [some (D.bool false)]) else ((fa 5 p1).bind fun v28 => (ld false 1 H2 v28).bind fun v29 => (fa 5 p2).bind fun v30 => (ld false 1 H2 v30).bind fun v31 => (bI .neq v29 v31).bind fun v32 => asB v32 fun t => bif t then (ret_ H2 [some (D.bool false)]) else (ret_ H2 [some (D.bool true)])))))) :=
  (ent_seg E 68 [] 400 [x0, x1] H).trans (by kernel_rfl)
-- laws.markText
theorem e69 (x0 : D) (H : Heap) :
    ent E 69 [x0] H =
    (bI .leq x0 (D.int .i64 0)).bind fun v1 => asB v1 fun t => bif t then (ret_ H [some (D.str [109, 48])]) else (J E 69 4 [x0, (D.str [])] H) :=
  (ent_seg E 69 [4] 400 [x0] H).trans (by kernel_rfl)
theorem j69_4 (x0 x3 : D) (H : Heap) :
    J E 69 4 [x0, x3] H =
    (bI .gtr x0 (D.int .i64 0)).bind fun v2 => asB v2 fun t => bif t then ((bI .rem x0 (D.int .i64 10)).bind fun v3 => (bI .add (D.int .i64 48) v3).bind fun v4 => (cI .u8 v4).bind fun v5 => (bsl 1 [.int .u8 0] H 1 [(0, v5)]).bind fun r6 => (cBS r6.2 r6.1).bind fun r7 => (bS .add r7.1 x3).bind fun v8 => (bI .quo x0 (D.int .i64 10)).bind fun v9 => J E 69 4 [v9, v8] r7.2) else ((bS .add (D.str [109]) x3).bind fun v10 => ret_ H [some v10]) :=
  (J_seg E 69 4 [4] 400 [x0, x3] H).trans (by kernel_rfl)
end Go.Ev.Ytohkcloiokhglaa
