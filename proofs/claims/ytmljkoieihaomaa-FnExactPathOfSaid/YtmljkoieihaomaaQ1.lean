import Derived.Test.YtmljkoieihaomaaQ0
namespace Go.Ev.Ytmljkoieihaomaa
set_option maxRecDepth 100000
set_option linter.unusedVariables false
-- (*spec.l1Rd).body
theorem e154 (x0 x1 : D) (H : Heap) :
    ent E 154 [x0, x1] H =
    alloc_ H (D.cells x1) fun p1 H1 => alloc_ H1 [.int .i64 0, .int .i64 0, .int .i64 0, .int .i64 0, .int .i64 0, .str [], .sl0, .sl0] fun p2 H2 => (callFn E (exec E) .raw 129 [x0] H2).bind fun r3 => (fa 3 p1).bind fun v4 => (st 1 r3.2 v4 r3.1).bind fun H5 => (callFn E (exec E) .raw 129 [x0] H5).bind fun r6 => (fa 4 p1).bind fun v7 => (st 1 r6.2 v7 r6.1).bind fun H8 => (callFn E (exec E) .raw 130 [x0] H8).bind fun r9 => (bI .gtr r9.1 (D.int .i64 120)).bind fun v10 => asB v10 fun t => bif t then ((nilCheck x0).bind fun v11 => (fa 2 v11).bind fun v12 => (st 1 r9.2 v12 (D.bool true)).bind fun H13 => J E 154 6 [x0, p1, p2, r9.1] H13) else (J E 154 6 [x0, p1, p2, r9.1] r9.2) :=
  (ent_seg E 154 [6, 10, 11, 17, 18] 400 [x0, x1] H).trans (by kernel_rfl)
theorem j154_6 (x0 x3 x4 x5 : D) (H : Heap) :
    J E 154 6 [x0, x3, x4, x5] H =
    (callFn E (exec E) .raw 127 [x0, x5] H).bind fun r14 => (fa 5 x3).bind fun v15 => (st 1 r14.2 v15 r14.1).bind fun H16 => (callFn E (exec E) .raw 129 [x0] H16).bind fun r17 => (bI .gtr r17.1 (D.int .i64 3)).bind fun v18 => asB v18 fun t => bif t then ((nilCheck x0).bind fun v19 => (fa 2 v19).bind fun v20 => (st 1 r17.2 v20 (D.bool true)).bind fun H21 => J E 154 10 [x0, x3, x4, r17.1] H21) else (J E 154 10 [x0, x3, x4, r17.1] r17.2) :=
  (J_seg E 154 6 [6, 10, 11, 17, 18] 400 [x0, x3, x4, x5] H).trans (by kernel_rfl)
theorem j154_10 (x0 x3 x4 x6 : D) (H : Heap) :
    J E 154 10 [x0, x3, x4, x6] H =
    J E 154 11 [x0, x3, x4, x6, (D.int .i64 0)] H :=
  (J_seg E 154 10 [6, 10, 11, 17, 18] 400 [x0, x3, x4, x6] H).trans (by kernel_rfl)
theorem j154_11 (x0 x3 x4 x6 x7 : D) (H : Heap) :
    J E 154 11 [x0, x3, x4, x6, x7] H =
    (bI .lss x7 x6).bind fun v22 => asB v22 fun t => bif t then ((nilCheck x0).bind fun v23 => (fa 2 v23).bind fun v24 => (ld false 1 H v24).bind fun v25 => (unOp .not v25).bind fun v26 => asB v26 fun t => bif t then ((fa 6 x3).bind fun v27 => (ld false 1 H v27).bind fun v28 => (callFn E (exec E) .raw 130 [x0] H).bind fun r29 => (ld false 1 r29.2 v27).bind fun w30 => again w30 v28 ((callFn E (exec E) .raw 130 [x0] r29.2).bind fun r31 => (ld false 1 r31.2 v27).bind fun w32 => again w32 v28 ((callFn E (exec E) .raw 130 [x0] r31.2).bind fun r33 => (ld false 1 r33.2 v27).bind fun w34 => again w34 v28 ((callFn E (exec E) .raw 130 [x0] r33.2).bind fun r35 => (ld false 1 r35.2 v27).bind fun w36 => again w36 v28 ((bld [.int .i64 0, .int .i64 0, .int .i64 0, .int .i64 0] [(0, 1, false), (1, 1, false), (2, 1, false), (3, 1, false)] [(0, r29.1), (1, r31.1), (2, r33.1), (3, r35.1)]).bind fun v37 => (bsl 4 [.int .i64 0, .int .i64 0, .int .i64 0, .int .i64 0] r35.2 1 [(0, v37)]).bind fun r38 => (app 4 32 r38.2 v28 r38.1).bind fun r39 => (fa 6 x3).bind fun v40 => (st 1 r39.2 v40 r39.1).bind fun H41 => (bI .add x7 (D.int .i64 1)).bind fun v42 => J E 154 11 [x0, x3, x4, x6, v42] H41))))) else ((callFn E (exec E) .raw 129 [x0] H).bind fun r43 => (bI .gtr r43.1 (D.int .i64 8)).bind fun v44 => asB v44 fun t => bif t then ((nilCheck x0).bind fun v45 => (fa 2 v45).bind fun v46 => (st 1 r43.2 v46 (D.bool true)).bind fun H47 => J E 154 17 [x0, x3, x4, r43.1] H47) else (J E 154 17 [x0, x3, x4, r43.1] r43.2))) else ((callFn E (exec E) .raw 129 [x0] H).bind fun r48 => (bI .gtr r48.1 (D.int .i64 8)).bind fun v49 => asB v49 fun t => bif t then ((nilCheck x0).bind fun v50 => (fa 2 v50).bind fun v51 => (st 1 r48.2 v51 (D.bool true)).bind fun H52 => J E 154 17 [x0, x3, x4, r48.1] H52) else (J E 154 17 [x0, x3, x4, r48.1] r48.2)) :=
  (J_seg E 154 11 [6, 10, 11, 17, 18] 400 [x0, x3, x4, x6, x7] H).trans (by kernel_rfl)
theorem j154_17 (x0 x3 x4 x6 : D) (H : Heap) :
    J E 154 17 [x0, x3, x4, x6] H =
    J E 154 18 [x0, x3, x4, x6, (D.int .i64 0)] H :=
  (J_seg E 154 17 [6, 10, 11, 17, 18] 400 [x0, x3, x4, x6] H).trans (by kernel_rfl)
theorem j154_18 (x0 x3 x4 x6 x8 : D) (H : Heap) :
    J E 154 18 [x0, x3, x4, x6, x8] H =
    (bI .lss x8 x6).bind fun v53 => asB v53 fun t => bif t then ((nilCheck x0).bind fun v54 => (fa 2 v54).bind fun v55 => (ld false 1 H v55).bind fun v56 => (unOp .not v56).bind fun v57 => asB v57 fun t => bif t then ((fa 7 x3).bind fun v58 => (ld false 1 H v58).bind fun v59 => (callFn E (exec E) .raw 130 [x0] H).bind fun r60 => (ld false 1 r60.2 v58).bind fun w61 => again w61 v59 ((callFn E (exec E) .raw 161 [x0] r60.2).bind fun r62 => (ld false 1 r62.2 v58).bind fun w63 => again w63 v59 ((callFn E (exec E) .raw 161 [x0] r62.2).bind fun r64 => (ld false 1 r64.2 v58).bind fun w65 => again w65 v59 ((bld [.int .i64 0, .sl0, .sl0] [(0, 1, false), (1, 1, false), (2, 1, false)] [(0, r60.1), (1, r62.1), (2, r64.1)]).bind fun v66 => (bsl 3 [.int .i64 0, .sl0, .sl0] r64.2 1 [(0, v66)]).bind fun r67 => (app 3 56 r67.2 v59 r67.1).bind fun r68 => (fa 7 x3).bind fun v69 => (st 1 r68.2 v69 r68.1).bind fun H70 => (bI .add x8 (D.int .i64 1)).bind fun v71 => J E 154 18 [x0, x3, x4, x6, v71] H70)))) else ((ld true 8 H x3).bind fun v72 => (st 8 H x4 v72).bind fun H73 => ret_ H73 [ld true 8 H73 x4])) else ((ld true 8 H x3).bind fun v74 => (st 8 H x4 v74).bind fun H75 => ret_ H75 [ld true 8 H75 x4]) :=
  (J_seg E 154 18 [6, 10, 11, 17, 18] 400 [x0, x3, x4, x6, x8] H).trans (by kernel_rfl)
-- laws.eqTrap
theorem e155 (x0 x1 : D) (H : Heap) :
    ent E 155 [x0, x1] H =
    alloc_ H (D.cells x0) fun p1 H1 => alloc_ H1 (D.cells x1) fun p2 H2 => (fa 0 p1).bind fun v3 => (ld false 1 H2 v3).bind fun v4 => (fa 0 p2).bind fun v5 => (ld false 1 H2 v5).bind fun v6 => (bI .neq v4 v6).bind fun v7 => asB v7 fun t => bif t then (ret_ H2 [some (D.bool false)]) else ((fa 1 p1).bind fun v8 => (ld false 1 H2 v8).bind fun v9 => (fa 1 p2).bind fun v10 => (ld false 1 H2 v10).bind fun v11 => (bI .neq v9 v11).bind fun v12 => asB v12 fun t => bif t then (ret_ H2 [some (D.bool false)]) else ((fa 2 p1).bind fun v13 => (ld false 1 H2 v13).bind fun v14 => (fa 2 p2).bind fun v15 => (ld false 1 H2 v15).bind fun v16 => (bI .neq v14 v16).bind fun v17 => asB v17 fun t => bif t then (ret_ H2 [some (D.bool false)]) else ((fa 3 p1).bind fun v18 => (ld false 1 H2 v18).bind fun v19 => (fa 3 p2).bind fun v20 => (ld false 1 H2 v20).bind fun v21 => (bI .neq v19 v21).bind fun v22 => asB v22 fun t => bif t then (ret_ H2 [some (D.bool false)]) else (ret_ H2 [some (D.bool true)])))) :=
  (ent_seg E 155 [] 400 [x0, x1] H).trans (by kernel_rfl)
-- laws.eqFrame
theorem e156 (x0 x1 : D) (H : Heap) :
    ent E 156 [x0, x1] H =
    alloc_ H (D.cells x0) fun p1 H1 => alloc_ H1 (D.cells x1) fun p2 H2 => (fa 0 p1).bind fun v3 => (ld false 1 H2 v3).bind fun v4 => (fa 0 p2).bind fun v5 => (ld false 1 H2 v5).bind fun v6 => (bI .neq v4 v6).bind fun v7 => asB v7 fun t => bif t then (ret_ H2 [some (D.bool false)]) else ((fa 1 p1).bind fun v8 => (ld false 1 H2 v8).bind fun v9 => (fa 1 p2).bind fun v10 => (ld false 1 H2 v10).bind fun v11 => (callFn E (exec E) .pure 162 [v9, v11] H2).bind fun r12 => (unOp .not r12.1).bind fun v13 => asB v13 fun t => bif t then (ret_ r12.2 [some (D.bool false)]) else ((fa 2 p1).bind fun v14 => (ld false 1 r12.2 v14).bind fun v15 => (fa 2 p2).bind fun v16 => (ld false 1 r12.2 v16).bind fun v17 => (callFn E (exec E) .pure 162 [v15, v17] r12.2).bind fun r18 => (unOp .not r18.1).bind fun v19 => asB v19 fun t => bif t then (ret_ r18.2 [some (D.bool false)]) else (ret_ r18.2 [some (D.bool true)]))) :=
  (ent_seg E 156 [] 400 [x0, x1] H).trans (by kernel_rfl)
-- laws.szFrame
theorem e157 (x0 x1 : D) (H : Heap) :
    ent E 157 [x0, x1] H =
    alloc_ H (D.cells x0) fun p1 H1 => (fa 1 p1).bind fun v2 => (ld false 1 H1 v2).bind fun v3 => (callFn E (exec E) .pure 163 [v3, x1] H1).bind fun r4 => (bI .lss r4.1 (D.int .i64 0)).bind fun v5 => asB v5 fun t => bif t then (ret_ r4.2 [some (D.int .i64 (-1))]) else ((fa 2 p1).bind fun v6 => (ld false 1 r4.2 v6).bind fun v7 => (callFn E (exec E) .pure 163 [v7, r4.1] r4.2).bind fun r8 => (bI .lss r8.1 (D.int .i64 0)).bind fun v9 => asB v9 fun t => bif t then (ret_ r8.2 [some (D.int .i64 (-1))]) else (ret_ r8.2 [some r8.1])) :=
  (ent_seg E 157 [] 400 [x0, x1] H).trans (by kernel_rfl)
-- spec.l1Kinds
theorem e158 (x0 x1 : D) (H : Heap) :
    ent E 158 [x0, x1] H =
    (lnL x0).bind fun v1 => (lnL x1).bind fun v2 => (bI .neq v1 v2).bind fun v3 => asB v3 fun t => bif t then (ret_ H [some (D.bool false)]) else (J E 158 4 [x0, x1, (D.int .i64 0)] H) :=
  (ent_seg E 158 [4] 400 [x0, x1] H).trans (by kernel_rfl)
theorem j158_4 (x0 x1 x5 : D) (H : Heap) :
    J E 158 4 [x0, x1, x5] H =
    (lnL x0).bind fun v4 => (bI .lss x5 v4).bind fun v5 => asB v5 fun t => bif t then ((ia 2 H x0 x5).bind fun v6 => (ld true 2 H v6).bind fun v7 => (ia 2 H x1 x5).bind fun v8 => (ld true 2 H v8).bind fun v9 => (bA [.int .i64, .int .i64] .neq v7 v9).bind fun v10 => asB v10 fun t => bif t then (ret_ H [some (D.bool false)]) else ((bI .add x5 (D.int .i64 1)).bind fun v11 => J E 158 4 [x0, x1, v11] H)) else (ret_ H [some (D.bool true)]) :=
  (J_seg E 158 4 [4] 400 [x0, x1, x5] H).trans (by kernel_rfl)
-- laws.toTrap
theorem e159 (x0 : D) (H : Heap) :
    ent E 159 [x0] H =
    alloc_ H (D.cells x0) fun p1 H1 => alloc_ H1 [.int .i64 0, .int .i64 0, .int .i64 0, .int .i64 0] fun p2 H2 => alloc_ H2 [.int .i64 0, .int .i64 0, .int .i64 0, .int .i64 0] fun p3 H3 => (fa 0 p1).bind fun v4 => (ld false 1 H3 v4).bind fun v5 => (fa 0 p3).bind fun v6 => (st 1 H3 v6 v5).bind fun H7 => (fa 1 p1).bind fun v8 => (ld false 1 H7 v8).bind fun v9 => (fa 1 p3).bind fun v10 => (st 1 H7 v10 v9).bind fun H11 => (fa 2 p1).bind fun v12 => (ld false 1 H11 v12).bind fun v13 => (fa 2 p3).bind fun v14 => (st 1 H11 v14 v13).bind fun H15 => (fa 3 p1).bind fun v16 => (ld false 1 H15 v16).bind fun v17 => (fa 3 p3).bind fun v18 => (st 1 H15 v18 v17).bind fun H19 => (ld true 4 H19 p3).bind fun v20 => (st 4 H19 p2 v20).bind fun H21 => ret_ H21 [ld true 4 H21 p2] :=
  (ent_seg E 159 [] 400 [x0] H).trans (by kernel_rfl)
-- laws.toFrame
theorem e160 (x0 : D) (H : Heap) :
    ent E 160 [x0] H =
    alloc_ H (D.cells x0) fun p1 H1 => alloc_ H1 [.int .i64 0, .sl0, .sl0] fun p2 H2 => alloc_ H2 [.int .i64 0, .sl0, .sl0] fun p3 H3 => (fa 0 p1).bind fun v4 => (ld false 1 H3 v4).bind fun v5 => (fa 0 p3).bind fun v6 => (st 1 H3 v6 v5).bind fun H7 => (fa 1 p1).bind fun v8 => (ld false 1 H7 v8).bind fun v9 => (callFn E (exec E) .own 164 [v9] H7).bind fun r10 => (fa 1 p3).bind fun v11 => (st 1 r10.2 v11 r10.1).bind fun H12 => (fa 2 p1).bind fun v13 => (ld false 1 H12 v13).bind fun v14 => (callFn E (exec E) .own 164 [v14] H12).bind fun r15 => (fa 2 p3).bind fun v16 => (st 1 r15.2 v16 r15.1).bind fun H17 => (ld true 3 H17 p3).bind fun v18 => (st 3 H17 p2 v18).bind fun H19 => ret_ H19 [ld true 3 H19 p2] :=
  (ent_seg E 160 [] 400 [x0] H).trans (by kernel_rfl)
-- (*spec.l1Rd).kinds
theorem e161 (x0 : D) (H : Heap) :
    ent E 161 [x0] H =
    (bsl 2 [.int .i64 0, .int .i64 0] H 0 []).bind fun r1 => (callFn E (exec E) .raw 129 [x0] r1.2).bind fun r2 => (bI .gtr r2.1 (D.int .i64 8)).bind fun v3 => asB v3 fun t => bif t then ((nilCheck x0).bind fun v4 => (fa 2 v4).bind fun v5 => (st 1 r2.2 v5 (D.bool true)).bind fun H6 => J E 161 5 [x0, r1.1, r2.1] H6) else (J E 161 5 [x0, r1.1, r2.1] r2.2) :=
  (ent_seg E 161 [5, 6, 11, 13] 400 [x0] H).trans (by kernel_rfl)
theorem j161_5 (x0 x3 x4 : D) (H : Heap) :
    J E 161 5 [x0, x3, x4] H =
    J E 161 6 [x0, x3, x4, (D.int .i64 0)] H :=
  (J_seg E 161 5 [5, 6, 11, 13] 400 [x0, x3, x4] H).trans (by kernel_rfl)
theorem j161_6 (x0 x3 x4 x5 : D) (H : Heap) :
    J E 161 6 [x0, x3, x4, x5] H =
    (bI .lss x5 x4).bind fun v7 => asB v7 fun t => bif t then ((nilCheck x0).bind fun v8 => (fa 2 v8).bind fun v9 => (ld false 1 H v9).bind fun v10 => (unOp .not v10).bind fun v11 => asB v11 fun t => bif t then ((callFn E (exec E) .raw 129 [x0] H).bind fun r12 => (bld [.int .i64 0, .int .i64 0] [(0, 1, false), (1, 1, false)] [(0, r12.1)]).bind fun v13 => alloc_ r12.2 [.int .i64 0, .int .i64 0] fun p14 H14 => (st 2 H14 p14 v13).bind fun H15 => (fa 0 p14).bind fun v16 => (ld false 1 H15 v16).bind fun v17 => (bI .eql v17 (D.int .i64 3)).bind fun v18 => asB v18 fun t => bif t then ((callFn E (exec E) .raw 130 [x0] H15).bind fun r19 => (fa 1 p14).bind fun v20 => (st 1 r19.2 v20 r19.1).bind fun H21 => J E 161 11 [x0, x3, x4, x5, p14] H21) else (J E 161 11 [x0, x3, x4, x5, p14] H15)) else (ret_ H [some x3])) else (ret_ H [some x3]) :=
  (J_seg E 161 6 [5, 6, 11, 13] 400 [x0, x3, x4, x5] H).trans (by kernel_rfl)
theorem j161_11 (x0 x3 x4 x5 x6 : D) (H : Heap) :
    J E 161 11 [x0, x3, x4, x5, x6] H =
    (fa 0 x6).bind fun v22 => (ld false 1 H v22).bind fun v23 => (bI .gtr v23 (D.int .i64 3)).bind fun v24 => asB v24 fun t => bif t then ((nilCheck x0).bind fun v25 => (fa 2 v25).bind fun v26 => (st 1 H v26 (D.bool true)).bind fun H27 => J E 161 13 [x0, x3, x4, x5, x6] H27) else (J E 161 13 [x0, x3, x4, x5, x6] H) :=
  (J_seg E 161 11 [5, 6, 11, 13] 400 [x0, x3, x4, x5, x6] H).trans (by kernel_rfl)
theorem j161_13 (x0 x3 x4 x5 x6 : D) (H : Heap) :
    J E 161 13 [x0, x3, x4, x5, x6] H =
    (ld true 2 H x6).bind fun v28 => (bsl 2 [.int .i64 0, .int .i64 0] H 1 [(0, v28)]).bind fun r29 => (app 2 16 r29.2 x3 r29.1).bind fun r30 => (bI .add x5 (D.int .i64 1)).bind fun v31 => J E 161 6 [x0, r30.1, x4, v31] r30.2 :=
  (J_seg E 161 13 [5, 6, 11, 13] 400 [x0, x3, x4, x5, x6] H).trans (by kernel_rfl)
-- laws.eqKindS
theorem e162 (x0 x1 : D) (H : Heap) :
    ent E 162 [x0, x1] H =
    (lnL x0).bind fun v1 => (lnL x1).bind fun v2 => (bI .neq v1 v2).bind fun v3 => asB v3 fun t => bif t then (ret_ H [some (D.bool false)]) else (J E 162 4 [x0, x1, (D.int .i64 0)] H) :=
  (ent_seg E 162 [4] 400 [x0, x1] H).trans (by kernel_rfl)
theorem j162_4 (x0 x1 x5 : D) (H : Heap) :
    J E 162 4 [x0, x1, x5] H =
    (lnL x0).bind fun v4 => (bI .lss x5 v4).bind fun v5 => asB v5 fun t => bif t then ((ia 2 H x0 x5).bind fun v6 => (ld true 2 H v6).bind fun v7 => (ia 2 H x1 x5).bind fun v8 => (ld true 2 H v8).bind fun v9 => (callFn E (exec E) .pure 165 [v7, v9] H).bind fun r10 => (unOp .not r10.1).bind fun v11 => asB v11 fun t => bif t then (ret_ r10.2 [some (D.bool false)]) else ((bI .add x5 (D.int .i64 1)).bind fun v12 => J E 162 4 [x0, x1, v12] r10.2)) else (ret_ H [some (D.bool true)]) :=
  (J_seg E 162 4 [4] 400 [x0, x1, x5] H).trans (by kernel_rfl)
-- laws.szKindS
theorem e163 (x0 x1 : D) (H : Heap) :
    ent E 163 [x0, x1] H =
    (lnL x0).bind fun v1 => (bI .sub x1 v1).bind fun v2 => (bI .lss v2 (D.int .i64 0)).bind fun v3 => asB v3 fun t => bif t then (ret_ H [some (D.int .i64 (-1))]) else (ret_ H [some v2]) :=
  (ent_seg E 163 [] 400 [x0, x1] H).trans (by kernel_rfl)
-- laws.toKindS
theorem e164 (x0 : D) (H : Heap) :
    ent E 164 [x0] H =
    (lnL x0).bind fun v1 => (mks 16 [.int .i64 0, .int .i64 0] H v1 v1).bind fun r2 => J E 164 3 [x0, r2.1, (D.int .i64 0)] r2.2 :=
  (ent_seg E 164 [3] 400 [x0] H).trans (by kernel_rfl)
theorem j164_3 (x0 x3 x4 : D) (H : Heap) :
    J E 164 3 [x0, x3, x4] H =
    (lnL x0).bind fun v3 => (bI .lss x4 v3).bind fun v4 => asB v4 fun t => bif t then ((ia 2 H x0 x4).bind fun v5 => (ld true 2 H v5).bind fun v6 => (callFn E (exec E) .pure 166 [v6] H).bind fun r7 => (ia 2 r7.2 x3 x4).bind fun v8 => (st 2 r7.2 v8 r7.1).bind fun H9 => (bI .add x4 (D.int .i64 1)).bind fun v10 => J E 164 3 [x0, x3, v10] H9) else (ret_ H [some x3]) :=
  (J_seg E 164 3 [3] 400 [x0, x3, x4] H).trans (by kernel_rfl)
-- laws.eqKind
theorem e165 (x0 x1 : D) (H : Heap) :
    ent E 165 [x0, x1] H =
    alloc_ H (D.cells x0) fun p1 H1 => alloc_ H1 (D.cells x1) fun p2 H2 => (fa 0 p1).bind fun v3 => (ld false 1 H2 v3).bind fun v4 => (fa 0 p2).bind fun v5 => (ld false 1 H2 v5).bind fun v6 => (bI .neq v4 v6).bind fun v7 => asB v7 fun t => bif t then (ret_ H2 [some (D.bool false)]) else ((fa 1 p1).bind fun v8 => (ld false 1 H2 v8).bind fun v9 => (fa 1 p2).bind fun v10 => (ld false 1 H2 v10).bind fun v11 => (bI .neq v9 v11).bind fun v12 => asB v12 fun t => bif t then (ret_ H2 [some (D.bool false)]) else (ret_ H2 [some (D.bool true)])) :=
  (ent_seg E 165 [] 400 [x0, x1] H).trans (by kernel_rfl)
-- laws.toKind
theorem e166 (x0 : D) (H : Heap) :
    ent E 166 [x0] H =
    alloc_ H (D.cells x0) fun p1 H1 => alloc_ H1 [.int .i64 0, .int .i64 0] fun p2 H2 => alloc_ H2 [.int .i64 0, .int .i64 0] fun p3 H3 => (fa 0 p1).bind fun v4 => (ld false 1 H3 v4).bind fun v5 => (fa 0 p3).bind fun v6 => (st 1 H3 v6 v5).bind fun H7 => (fa 1 p1).bind fun v8 => (ld false 1 H7 v8).bind fun v9 => (fa 1 p3).bind fun v10 => (st 1 H7 v10 v9).bind fun H11 => (ld true 2 H11 p3).bind fun v12 => (st 2 H11 p2 v12).bind fun H13 => ret_ H13 [ld true 2 H13 p2] :=
  (ent_seg E 166 [] 400 [x0] H).trans (by kernel_rfl)
end Go.Ev.Ytmljkoieihaomaa
