/- Contracts. -/
import Derived.Test.YtohkcloiokhglaaC2A2
namespace Go.Ev.Ytohkcloiokhglaa
set_option linter.unusedVariables false
set_option linter.unusedSimpArgs false
open Go.Ev
theorem u8_wrap (n : Int) : IntKind.wrap .u8 n = ((u8 n).toNat : Int) := by
  have : (n % 256).toNat % 256 = (n % 256).toNat := by omega
  simp only [IntKind.wrap, IntKind.signed, IntKind.bits, u8, UInt8.toNat_ofNat', Nat.reducePow, this]
  have h : 0 ≤ n % 256 := by omega
  simp
  omega
theorem cBS_map (H : Heap) (s : List UInt8) (b : Nat) (h : getBlk H b = some (s.map rByte)) : cBS H (.sl b 0 s.length) = some (.str s, H) := by
  have h1 : ∀ l : List UInt8, optAll byteOf (l.map rByte) = some l := by
    intro l
    induction l with
    | nil => rfl
    | cons a l ih => 
      have : byteOf (rByte a) = some a := by simp [byteOf, rByte]
      rw [List.map_cons, optAll_cons, this, ih]; rfl
  simp [cBS, srcRows, h, rowsFit, h1]
theorem c73 (n : Int) : run E (exec E) false 73 [.int .i64 n] = some (.str [u8 n]) := by
  rw [run_ent, e73]
  simp only [cI_int, u8_wrap, Option.bind_some]
  rw [bsl_one (esz := 1) (by omega) rfl rfl rfl]
  simp only [Option.bind_some, D.cells]
  have q : cBS ([] ++ [some [[D.int .u8 (u8 n).toNat]]]) (.sl ([] : Heap).length 0 1) = some (.str [u8 n], _) := cBS_one _ (u8 n) [] _ rfl
  rw [q]
  simp
theorem c99 (n : Int) : run E (exec E) false 99 [.int .i64 n] = some (.str [u8 n]) := by
  rw [run_ent, e99]
  simp only [cI_int, u8_wrap, Option.bind_some]
  rw [bsl_one (esz := 1) (by omega) rfl rfl rfl]
  simp only [Option.bind_some, D.cells]
  have q : cBS ([] ++ [some [[D.int .u8 (u8 n).toNat]]]) (.sl ([] : Heap).length 0 1) = some (.str [u8 n], _) := cBS_one _ (u8 n) [] _ rfl
  rw [q]
  simp
theorem bI_shr8 (n : Int) : bI .shr (.int .i64 n) (.int .u64 8) = some (.int .i64 (n / 256)) := by
  have : n.fdiv 256 = n / 256 := Int.fdiv_eq_ediv_of_nonneg _ (by decide)
  simp [bI, binInt, IntKind.bits, this]
theorem c74 (n : Int) : run E (exec E) false 74 [.int .i64 n] = some (.str [u8 (n / 256), u8 n]) := by
  rw [run_ent, e74, bI_shr8]
  simp only [call_pure, optAll_cons, optAll_nil, readT_int, Option.bind_some, c73]
  rw [bS_add _ _ (by simp)]
  simp
theorem c100 (n : Int) (h0 : 0 ≤ n) (h1 : n ≤ 65535) : run E (exec E) false 100 [.int .i64 n] = some (.str [u8 (n / 256), u8 n]) := by
  rw [run_ent, e100]
  have e1 : n.tmod 256 = n % 256 := Int.tmod_eq_emod_of_nonneg h0
  have e2 : n.tdiv 256 = n / 256 := Int.tdiv_eq_ediv_of_nonneg h0
  have e3 : u8 (n % 256) = u8 n := by simp [u8]
  simp only [bI_rem _ _ _ (show (256 : Int) ≠ 0 by decide), bI_quo _ _ _ (show (256 : Int) ≠ 0 by decide), e1, e2, Option.bind_some, cI_int]
  rw [wrap_i64 (n := n / 256) (by omega) (by omega)]
  simp only [u8_wrap, e3]
  have : bsl 1 [.int .u8 0] [] 2 [(0, .int .u8 ((u8 (n / 256)).toNat : Int)), (1, .int .u8 ((u8 n).toNat : Int))] = some (.sl 0 0 2, [some ([u8 (n / 256), u8 n].map rByte)]) := rfl
  rw [this]
  simp only [Option.bind_some]
  rw [show D.sl 0 0 2 = D.sl 0 0 [u8 (n / 256), u8 n].length from rfl, cBS_map _ _ _ rfl]
  simp
def opBytes (x : SIns) : List UInt8 := if opArgs x.Op = 1 then [u8 x.Op, u8 x.Num] else if opArgs x.Op = 2 then [u8 x.Op, u8 (x.Num / 256), u8 x.Num] else if opArgs x.Op = 0 then [u8 x.Op] else []
theorem opBytes_len (x : SIns) : (opBytes x).length ≤ 3 := by unfold opBytes; split <;> (try split) <;> (try split) <;> simp
def opsPut (l : List SIns) : List UInt8 := if 120 < l.length then [] else if opsGet (l.flatMap opBytes) = some l then l.flatMap opBytes else []
theorem numBytes_rng (s : List UInt8) (h : s.length ≤ 2) : 0 ≤ numBytes s ∧ numBytes s ≤ 65535 := by
  match s, h with
  | [], _ => simp [numBytes]
  | [a], _ => have := a.toNat_lt; simp [numBytes]; omega
  | [a, b], _ => have := a.toNat_lt; have := b.toNat_lt; simp [numBytes]; omega
def fair (x : SIns) : Prop := 0 ≤ opArgs x.Op ∧ -32768 ≤ x.Num ∧ x.Num ≤ 65535
theorem opsGo_fair : ∀ {s : List UInt8} {l : List SIns} {a : Nat}, opsGo a s = some l → ∀ x ∈ l, fair x
  | [], l, a, h => by rw [opsGo] at h; cases h; simp
  | b :: rest, l, a, h => by
    rw [opsGo] at h
    have h2 := opArgs_le b.toNat
    split at h
    · cases h
    · rename_i hc
      obtain ⟨l', h', rfl⟩ := Option.map_eq_some_iff.mp h
      have ih := opsGo_fair h'
      intro x hx
      rcases List.mem_cons.mp hx with rfl | hx
      · have := numBytes_rng (rest.take (opArgs b.toNat).toNat) (by simp; omega)
        refine ⟨by simp only; omega, ?_⟩
        simp only [numFix]
        split <;> omega
      · exact ih x hx
  termination_by s => s.length
  decreasing_by simp; omega
theorem opsGet_fair {s : List UInt8} {l : List SIns} (h : opsGet s = some l) : ∀ x ∈ l, fair x := by
  unfold opsGet at h
  split at h
  · exact opsGo_fair h
  · cases h
theorem SIns.dneq (a b : SIns) : bA [.int .i64, .int .i64, .int .i64] .neq a.d b.d = some (.bool (!decide (a = b))) := by
  obtain ⟨a1, a2, a3⟩ := a
  obtain ⟨b1, b2, b3⟩ := b
  simp only [bA, SIns.row, scEqs, scEq, Option.bind_some, Option.map_some, if_true]
  congr 3
  simp [Bool.beq_eq_decide_eq]
theorem c75_4 (a b : List SIns) (wa : a.length ≤ 140737488351232) (hlen : a.length = b.length) (H : Heap) : ∀ i, i ≤ a.length → J E 75 4 [.list (a.map SIns.row), .list (b.map SIns.row), .int .i64 a.length, .int .i64 i] H = some (.bool (decide (a.drop i = b.drop i)), H) := by
  refine loop_up (P := fun i => _) ?_ fun i hi ih => ?_
  · rw [j75_4]; simp [hlen]
  · have hi' : i < b.length := by omega
    rw [j75_4]
    rw [Ev.ia_list (n := (i : Int)) (by omega) (by simpa using hi) (by simp [SIns.row])]
    rw [Ev.ia_list (n := (i : Int)) (by omega) (by simpa using hi') (by simp [SIns.row])]
    simp only [bI_lss, Int.ofNat_lt, hi, decide_true, cond_true, asB_bool, Option.bind_some, ld_el, Int.toNat_natCast, List.getElem_map]
    rw [show part a[i].row (0, 3, true) = some a[i].d from rfl, show part b[i].row (0, 3, true) = some b[i].d from rfl]
    simp only [Option.bind_some, SIns.dneq, bI_add, asB_bool]
    simp (disch := omega) only [wrap_i64]
    rw [drop_dec hi hi']
    by_cases h : a[i] = b[i] <;> simp [h]
    simpa using ih
theorem c75 (a b : List SIns) (wa : a.length ≤ 140737488351232) : run E (exec E) false 75 [.list (a.map SIns.row), .list (b.map SIns.row)] = some (.bool (decide (a = b))) := by
  rw [run_ent, e75]
  by_cases h : a.length = b.length
  · have := c75_4 a b wa h [] 0 (by omega)
    simp only [Int.natCast_zero] at this
    simp [h, this]
    rw [← h]; simp [this]
  · have : a ≠ b := fun e => h (by rw [e])
    simp [show ¬ (a.length : Int) = b.length by omega, this]
theorem c71_4 (a b : List SIns) (wa : a.length ≤ 140737488351232) (hlen : a.length = b.length) (H : Heap) : ∀ i, i ≤ a.length → J E 71 4 [.list (a.map SIns.row), .list (b.map SIns.row), .int .i64 i] H = some (.bool (decide (a.drop i = b.drop i)), H) := by
  refine loop_up (P := fun i => _) ?_ fun i hi ih => ?_
  · rw [j71_4]; simp [hlen]
  · have hi' : i < b.length := by omega
    rw [j71_4]
    rw [Ev.ia_list (n := (i : Int)) (by omega) (by simpa using hi) (by simp [SIns.row])]
    rw [Ev.ia_list (n := (i : Int)) (by omega) (by simpa using hi') (by simp [SIns.row])]
    simp only [lnL_list, List.length_map, bI_lss, Int.ofNat_lt, hi, decide_true, cond_true, asB_bool, Option.bind_some, ld_el, Int.toNat_natCast, List.getElem_map]
    rw [show part a[i].row (0, 3, true) = some a[i].d from rfl, show part b[i].row (0, 3, true) = some b[i].d from rfl]
    simp only [Option.bind_some, SIns.dneq, bI_add, asB_bool]
    simp (disch := omega) only [wrap_i64]
    rw [drop_dec hi hi']
    by_cases h : a[i] = b[i] <;> simp [h]
    simpa using ih
theorem c71 (a b : List SIns) (wa : a.length ≤ 140737488351232) : run E (exec E) false 71 [.list (a.map SIns.row), .list (b.map SIns.row)] = some (.bool (decide (a = b))) := by
  rw [run_ent, e71]
  by_cases h : a.length = b.length
  · have := c71_4 a b wa h [] 0 (by omega)
    simp only [Int.natCast_zero] at this
    simp [h, this]
  · have : a ≠ b := fun e => h (by rw [e])
    simp [show ¬ (a.length : Int) = b.length by omega, this]
theorem p20 (s : List UInt8) : run E (exec E) false 20 [.str s] = some (resIns (opsGet s)) := by
  have h := c20 s
  cases hg : opsGet s with
  | none =>
    rw [hg] at h
    obtain ⟨H, h⟩ := h
    rw [run_ent, h]
    rfl
  | some l =>
    rw [hg] at h
    obtain ⟨d, H, h, hA⟩ := h
    rw [run_ent, h]
    simp [hA.read (SIns.plain l), resIns]

theorem flat_step {α β : Type} (f : α → List β) (l : List α) {i : Nat} (hi : i < l.length) : (l.drop i).flatMap f = f l[i] ++ (l.drop (i + 1)).flatMap f := by
  rw [List.drop_eq_getElem_cons hi]; rfl
def putFin (l : List SIns) (s : List UInt8) : List UInt8 := if opsGet s = some l then s else []
theorem c36_5 (l : List SIns) (hl : l.length ≤ 120) : ∀ i, i ≤ l.length → ∀ (out : List UInt8) (H : Heap), out.length ≤ 3 * i → ∃ H', J E 36 5 [.list (l.map SIns.row), .str out, .list (l.map SIns.row), .int .i64 l.length, .int .i64 i] H = some (.str (putFin l (out ++ (l.drop i).flatMap opBytes)), H') := by
  refine loop_up (P := fun i => _) ?_ fun i hi ih out H ho => ?_
  · intro out H ho
    refine ⟨H, ?_⟩
    rw [j36_5]
    simp only [bI_lss, Int.lt_irrefl, decide_false, cond_false, asB_bool, Option.bind_some, call_pure, optAll_cons, optAll_nil, readT_str, p20, List.drop_length, List.flatMap_nil, List.append_nil, putFin]
    cases hg : opsGet out with
    | none => simp [resIns]
    | some r =>
      simp only [resIns, extract_tup, List.getElem?_cons_zero, List.getElem?_cons_succ, Option.bind_some, unOp_not, Bool.not_true, asB_bool, cond_false, optAll_cons, optAll_nil, readT_list9]
      have hr : r.length ≤ 1000 := by
        unfold opsGet at hg
        split at hg
        · have := opsGo_len hg; omega
        · cases hg
      rw [c75 r l (by omega)]
      by_cases h : r = l <;> simp [h]
  · have hlt : ((i : Nat) : Int) < (l.length : Int) := by omega
    rw [j36_5]
    rw [Ev.ia_list (n := (i : Int)) (by omega) (by simpa using hi) (by simp [SIns.row])]
    simp only [bI_lss, hlt, decide_true, cond_true, asB_bool, Option.bind_some, ld_el, Int.toNat_natCast, List.getElem_map]
    rw [show part l[i].row (0, 3, true) = some l[i].d from rfl]
    simp only [Option.bind_some]
    rw [alloc_eq _ _ _ rfl]
    rw [st_ptr (z := 3) (f := 0) (v := l[i].d) (getBlk_self H _ []) rfl rfl rfl (by decide)]
    simp only [Option.bind_some, fa_ptr]
    generalize hG : (H ++ [some [[D.int .i64 0, .int .i64 0, .int .i64 0]]]).set H.length _ = G
    have g1 : getBlk G H.length = some [l[i].row] := by rw [← hG, getBlk_set_self (by simp)]; rfl
    have e1 : ld false 1 G (.ptr H.length 0 (0 + 1)) = some (.int .i64 l[i].Op) := by rw [ld_ptr g1 rfl]; rfl
    have e2 : ld false 1 G (.ptr H.length 0 (0 + 2)) = some (.int .i64 l[i].Num) := by rw [ld_ptr g1 rfl]; rfl
    simp only [e1, e2, Option.bind_some, call_pure, optAll_cons, optAll_nil, readT_int, c62, c73, c74, bI_eql, asB_bool]
    rw [flat_step opBytes l hi, ← List.append_assoc]
    have hb := opBytes_len l[i]
    have next : ∀ K, ∃ H', J E 36 14 [.list (l.map SIns.row), .str (out ++ opBytes l[i]), .list (l.map SIns.row), .int .i64 l.length, .int .i64 i] K = some (.str (putFin l (out ++ opBytes l[i] ++ (l.drop (i + 1)).flatMap opBytes)), H') := by
      intro K
      rw [j36_14]
      simp only [bI_add, Option.bind_some]
      simp (disch := omega) only [wrap_i64]
      have := ih (out ++ opBytes l[i]) K (by simp; omega)
      simpa using this
    by_cases h0 : opArgs l[i].Op = 0
    · have e : opBytes l[i] = [u8 l[i].Op] := by simp [opBytes, h0]
      simp only [h0, decide_true, cond_true]
      rw [bS_add _ _ (by simp; omega), ← e]
      exact next _
    · by_cases h1 : opArgs l[i].Op = 1
      · have e : opBytes l[i] = [u8 l[i].Op, u8 l[i].Num] := by simp [opBytes, h1]
        simp only [h1, decide_true, cond_true, show ¬ (1 : Int) = 0 by omega, decide_false, cond_false]
        rw [bS_add _ _ (by simp)]
        simp only [Option.bind_some, List.cons_append, List.nil_append]
        rw [bS_add _ _ (by simp; omega), ← e]
        exact next _
      · by_cases h2 : opArgs l[i].Op = 2
        · have e : opBytes l[i] = [u8 l[i].Op, u8 (l[i].Num / 256), u8 l[i].Num] := by simp [opBytes, h2]
          simp only [h2, decide_true, cond_true, show ¬ (2 : Int) = 0 by omega, show ¬ (2 : Int) = 1 by omega, decide_false, cond_false]
          rw [bS_add _ _ (by simp)]
          simp only [Option.bind_some, List.cons_append, List.nil_append]
          rw [bS_add _ _ (by simp; omega), ← e]
          exact next _
        · have e : opBytes l[i] = [] := by simp [opBytes, h0, h1, h2]
          simp only [h0, h1, h2, decide_false, cond_false]
          have := next G
          rw [e, List.append_nil] at this ⊢
          exact this
theorem c36 (l : List SIns) : run E (exec E) false 36 [.list (l.map SIns.row)] = some (.str (opsPut l)) := by
  rw [run_ent, e36]
  unfold opsPut
  by_cases h : 120 < l.length
  · simp [h, show (120 : Int) < l.length by omega]
  · obtain ⟨H', h1⟩ := c36_5 l (by omega) 0 (by omega) [] [] (by simp)
    simp only [lnL_list, List.length_map, Option.bind_some, bI_gtr, asB_bool, show ¬ (120 : Int) < l.length by omega, decide_false, cond_false]
    simp only [Int.natCast_zero, List.drop_zero, List.nil_append] at h1
    rw [h1]
    simp [h, putFin]
theorem tmod_pos (n : Int) (h : -65536 ≤ n) : (n + 65536).tmod 65536 = n % 65536 := by
  rw [Int.tmod_eq_emod_of_nonneg (by omega)]; omega
theorem u8_mod (n : Int) : u8 (n % 65536) = u8 n := by
  have : n % 65536 % 256 = n % 256 := by omega
  simp [u8, this]
theorem u8_div (n : Int) : u8 (n % 65536 / 256) = u8 (n / 256) := by
  have : n % 65536 / 256 % 256 = n / 256 % 256 := by omega
  simp [u8, this]
theorem c70_3 (l : List SIns) (hl : l.length ≤ 120) (hn : ∀ x ∈ l, -32768 ≤ x.Num ∧ x.Num ≤ 65535) : ∀ i, i ≤ l.length → ∀ (out : List UInt8) (H : Heap), out.length ≤ 3 * i → ∃ H' r, J E 70 3 [.list (l.map SIns.row), .str out, .int .i64 i] H = some (.str r, H') ∧ ((∀ x ∈ l, fair x) → r = out ++ (l.drop i).flatMap opBytes) := by
  refine loop_up (P := fun i => _) ?_ fun i hi ih out H ho => ?_
  · intro out H ho
    refine ⟨H, out, ?_, by simp⟩
    rw [j70_3]
    simp
  · have hlt : ((i : Nat) : Int) < (l.length : Int) := by omega
    have hm := hn _ (List.getElem_mem hi)
    rw [j70_3]
    rw [Ev.ia_list (n := (i : Int)) (by omega) (by simpa using hi) (by simp [SIns.row])]
    simp only [lnL_list, List.length_map, bI_lss, hlt, decide_true, cond_true, asB_bool, Option.bind_some, ld_el, Int.toNat_natCast, List.getElem_map]
    rw [show part l[i].row (0, 3, true) = some l[i].d from rfl]
    simp only [Option.bind_some]
    rw [alloc_eq _ _ _ rfl]
    rw [st_ptr (z := 3) (f := 0) (v := l[i].d) (getBlk_self H _ []) rfl rfl rfl (by decide)]
    simp only [Option.bind_some, fa_ptr]
    generalize hG : (H ++ [some [[D.int .i64 0, .int .i64 0, .int .i64 0]]]).set H.length _ = G
    have g1 : getBlk G H.length = some [l[i].row] := by rw [← hG, getBlk_set_self (by simp)]; rfl
    have e1 : ld false 1 G (.ptr H.length 0 (0 + 1)) = some (.int .i64 l[i].Op) := by rw [ld_ptr g1 rfl]; rfl
    have e2 : ld false 1 G (.ptr H.length 0 (0 + 2)) = some (.int .i64 l[i].Num) := by rw [ld_ptr g1 rfl]; rfl
    simp only [e1, e2, Option.bind_some, call_pure, optAll_cons, optAll_nil, readT_int, c97, c99, bI_eql, asB_bool, bI_add]
    rw [wrap_i64 (n := l[i].Num + 65536) (by omega) (by omega)]
    simp only [bI_rem _ _ _ (show (65536 : Int) ≠ 0 by decide), tmod_pos _ (show -65536 ≤ l[i].Num by omega), Option.bind_some, readT_int]
    rw [c100 _ (by omega) (by omega), u8_mod, u8_div]
    simp only [Option.bind_some]
    rw [flat_step opBytes l hi, ← List.append_assoc]
    have hb := opBytes_len l[i]
    have next : ∀ K b, b.length ≤ 3 → (fair l[i] → b = opBytes l[i]) → ∃ H' r, J E 70 4 [.list (l.map SIns.row), .str (out ++ b), .int .i64 i] K = some (.str r, H') ∧ ((∀ x ∈ l, fair x) → r = out ++ opBytes l[i] ++ (l.drop (i + 1)).flatMap opBytes) := by
      intro K b hb he
      rw [j70_4]
      simp only [bI_add, Option.bind_some]
      simp (disch := omega) only [wrap_i64]
      obtain ⟨H', r, k1, k2⟩ := ih (out ++ b) K (by simp; omega)
      refine ⟨H', r, by simpa using k1, fun hf => ?_⟩
      rw [k2 hf, he (hf _ (List.getElem_mem hi))]
    rw [bS_add _ _ (by simp; omega)]
    simp only [Option.bind_some]
    by_cases h1 : opArgs l[i].Op = 1
    · simp only [h1, decide_true, cond_true]
      rw [bS_add _ _ (by simp; omega)]
      have := next G [u8 l[i].Op, u8 l[i].Num] (by simp) (fun _ => by simp [opBytes, h1])
      simpa using this
    · by_cases h2 : opArgs l[i].Op = 2
      · simp only [h2, decide_true, cond_true, show ¬ (2 : Int) = 1 by omega, decide_false, cond_false]
        rw [bS_add _ _ (by simp; omega)]
        have := next G [u8 l[i].Op, u8 (l[i].Num / 256), u8 l[i].Num] (by simp) (fun _ => by simp [opBytes, h2])
        simpa using this
      · simp only [h1, h2, decide_false, cond_false]
        exact next _ _ (by simp) fun hf => by
          have := hf.1; have := opArgs_le l[i].Op
          have h0 : opArgs l[i].Op = 0 := by omega
          simp [opBytes, h0]
theorem opsPut_unfair {l : List SIns} (h : ¬ ∀ x ∈ l, fair x) (s : List UInt8) : opsGet s ≠ some l := fun e => h (opsGet_fair e)
theorem c34_4 (l : List SIns) (hl : l.length ≤ 120) : ∀ i, i ≤ l.length → (∀ x ∈ l.take i, -32768 ≤ x.Num ∧ x.Num ≤ 65535) → ∃ H', J E 34 4 [.list (l.map SIns.row), .int .i64 i] [] = some (.str (putFin l (l.flatMap opBytes)), H') := by
  refine loop_up (P := fun i => _) ?_ fun i hi ih hq => ?_
  · intro hq
    rw [List.take_length] at hq
    rw [j34_4]
    obtain ⟨K, r, k1, k2⟩ := c70_3 l hl hq 0 (by omega) [] [] (by simp)
    have k3 : run E (exec E) false 70 [.list (l.map SIns.row)] = some (.str r) := by
      rw [run_ent, e70]
      simp only [Int.natCast_zero] at k1
      rw [k1]; simp
    simp only [lnL_list, List.length_map, bI_lss, Int.lt_irrefl, decide_false, cond_false, asB_bool, Option.bind_some, call_pure, call_view, optAll_cons, optAll_nil, readT_str, readT_list9, k3, c19]
    simp only [List.drop_zero, List.nil_append] at k2
    by_cases hf : ∀ x ∈ l, fair x
    · rw [k2 hf]
      cases hg : opsGet (l.flatMap opBytes) with
      | none => simp [resIns, putFin, hg]
      | some r =>
        have hr : r.length ≤ 1000 := by
          have hg' := hg
          unfold opsGet at hg'
          split at hg'
          · have := opsGo_len hg'; omega
          · cases hg'
        simp only [resIns, extract_tup, List.getElem?_cons_zero, List.getElem?_cons_succ, Option.bind_some, unOp_not, Bool.not_true, asB_bool, cond_false, optAll_cons, optAll_nil, readT_list9]
        rw [c71 r l (by omega)]
        by_cases h : r = l <;> simp [h, putFin, hg]
    · have hp : putFin l (l.flatMap opBytes) = [] := by simp [putFin, opsPut_unfair hf]
      rw [hp]
      cases hg : opsGet r with
      | none => simp [resIns]
      | some r' =>
        have hr : r'.length ≤ 1000 := by
          have hg' := hg
          unfold opsGet at hg'
          split at hg'
          · have := opsGo_len hg'; omega
          · cases hg'
        simp only [resIns, extract_tup, List.getElem?_cons_zero, List.getElem?_cons_succ, Option.bind_some, unOp_not, Bool.not_true, asB_bool, cond_false, optAll_cons, optAll_nil, readT_list9]
        rw [c71 r' l (by omega)]
        have h : r' ≠ l := by rintro rfl; exact opsPut_unfair hf r hg
        simp [h]
  · have hlt : ((i : Nat) : Int) < (l.length : Int) := by omega
    rw [j34_4]
    rw [Ev.ia_list (n := (i : Int)) (by omega) (by simpa using hi) (by simp [SIns.row])]
    simp only [lnL_list, List.length_map, bI_lss, hlt, decide_true, cond_true, asB_bool, Option.bind_some, fa_el, ld_el, Int.toNat_natCast, List.getElem_map, Nat.zero_add]
    rw [show part l[i].row (2, 1, false) = some (.int .i64 l[i].Num) from rfl]
    simp only [Option.bind_some, call_pure, optAll_cons, optAll_nil, readT_int, c66, unOp_not, asB_bool]
    cases hr : inR l[i].Num (-32768) 65535 with
    | false =>
      have hp : putFin l (l.flatMap opBytes) = [] := by
        have : ¬ ∀ x ∈ l, fair x := fun hf => by
          have := (hf _ (List.getElem_mem hi)).2
          simp [inR] at hr; omega
        simp [putFin, opsPut_unfair this]
      rw [hp]
      simp
    | true =>
      simp only [Bool.not_true, cond_false, bI_add, Option.bind_some]
      simp (disch := omega) only [wrap_i64]
      have := ih fun x hx => by
        rw [List.take_add_one, List.getElem?_eq_getElem hi] at hx
        rcases List.mem_append.mp hx with hx | hx
        · exact hq x hx
        · simp at hx; subst hx; simpa [inR] using hr
      simpa using this
theorem c34 (l : List SIns) : run E (exec E) false 34 [.list (l.map SIns.row)] = some (.str (opsPut l)) := by
  rw [run_ent, e34]
  unfold opsPut
  by_cases h : 120 < l.length
  · simp [h, show (120 : Int) < l.length by omega]
  · obtain ⟨H', h1⟩ := c34_4 l (by omega) 0 (by omega) (by simp)
    simp only [lnL_list, List.length_map, Option.bind_some, bI_gtr, asB_bool, show ¬ (120 : Int) < l.length by omega, decide_false, cond_false]
    simp only [Int.natCast_zero] at h1
    rw [h1]
    simp [h, putFin]

end Go.Ev.Ytohkcloiokhglaa
