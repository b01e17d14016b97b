/- Contracts. -/
import Derived.Test.YtohkcloiokhglaaC3B1
namespace Go.Ev.Ytohkcloiokhglaa
set_option linter.unusedVariables false
set_option linter.unusedSimpArgs false
open Go.Ev
/-! What is drawn. -/
def Rd (H : Heap) (b : Nat) (bytes : List UInt8) (p : Int) : Prop := getBlk H b = some [[.list (bytes.map rByte), .int .i64 p]]
theorem Rd.app {H : Heap} {b : Nat} {bytes : List UInt8} {p : Int} (h : Rd H b bytes p) (K : Heap) : Rd (H ++ K) b bytes p := (getBlk_left (getBlk_lt' h)).trans h
theorem Rd.ne {H : Heap} {b : Nat} {bytes : List UInt8} {p : Int} (h : Rd H b bytes p) : b < H.length := getBlk_lt' h
theorem c76 (code : List UInt8) (hc : code.length ≤ 140737488351232) (H : Heap) : ent E 76 [.list (code.map rByte)] H = some (.ptr H.length 0 0, H ++ [some [[.list ((code.take 2000).map rByte), .int .i64 0]]]) := by
  rw [e76]
  have go : ∀ l : List UInt8, J E 76 3 [.list (l.map rByte)] H = some (.ptr H.length 0 0, H ++ [some [[.list (l.map rByte), .int .i64 0]]]) := by
    intro l
    rw [j76_3]
    have : bld [.sl0, .int .i64 0] [(0, 1, false), (1, 1, false)] [(0, .list (l.map rByte))] = some (.agg [.list (l.map rByte), .int .i64 0]) := rfl
    rw [this]
    simp only [Option.bind_some, D.cells]
    rw [alloc_eq _ _ _ rfl]
    rfl
  simp only [lnL_list, List.length_map, Option.bind_some, bI_gtr, asB_bool]
  by_cases h : 2000 < code.length
  · simp only [show (2000 : Int) < (code.length : Int) by omega, decide_true, cond_true]
    have : slL 1 H (.list (code.map rByte)) none (some (.int .i64 2000)) none = some (.list ((code.take 2000).map rByte)) := by
      have h2 : (2000 : Int) ≤ (code.length : Int) := by omega
      have h3 : rowsFit 1 (code.map rByte) = true := by cases code <;> rfl
      simp [slL, bound, h2, h3, List.map_take]
    rw [this]
    exact go _
  · simp only [show ¬ (2000 : Int) < (code.length : Int) by omega, decide_false, cond_false]
    rw [List.take_of_length_le (by omega)]
    exact go _
theorem xor_rng {a b : Int} (ha : 0 ≤ a) (ha' : a < 9223372036854775808) (hb : 0 ≤ b) (hb' : b < 9223372036854775808) : ∃ r : Int, bI .xor (.int .i64 a) (.int .i64 b) = some (.int .i64 r) ∧ 0 ≤ r := by
  have h : (BitVec.ofInt 64 a ^^^ BitVec.ofInt 64 b).toNat < 2 ^ 63 := by
    rw [BitVec.toNat_xor]
    apply Nat.xor_lt_two_pow
    · rw [BitVec.toNat_ofInt]; omega
    · rw [BitVec.toNat_ofInt]; omega
  refine ⟨((BitVec.ofInt 64 a ^^^ BitVec.ofInt 64 b).toNat : Int), ?_, by omega⟩
  show some (D.int .i64 (IntKind.wrap .i64 ((BitVec.ofInt 64 a ^^^ BitVec.ofInt 64 b).toNat : Int))) = _
  rw [wrap_i64 (by omega) (by omega)]
theorem tmod_rng {a n : Int} (ha : 0 ≤ a) (hn : 1 ≤ n) : 0 ≤ a.tmod n ∧ a.tmod n < n := by
  rw [Int.tmod_eq_emod_of_nonneg ha]
  exact ⟨Int.emod_nonneg _ (by omega), Int.emod_lt_of_pos _ (by omega)⟩
theorem tdiv_rng {a n : Int} (ha : 0 ≤ a) (hn : 1 ≤ n) : 0 ≤ a.tdiv n ∧ a.tdiv n ≤ a := by
  rw [Int.tdiv_eq_ediv_of_nonneg ha]
  exact ⟨Int.ediv_nonneg ha (by omega), Int.ediv_le_self _ ha⟩
theorem byte_at {bytes : List UInt8} {H : Heap} {n : Int} (h0 : 0 ≤ n) (h1 : n < bytes.length) : ∃ c : UInt8, (ia 1 H (.list (bytes.map rByte)) (.int .i64 n)).bind (fun v => (ld false 1 H v).bind fun w => cI .i64 w) = some (.int .i64 c.toNat) := by
  refine ⟨bytes[n.toNat]'(by omega), ?_⟩
  have hlt : n.toNat < bytes.length := by omega
  have hb := (bytes[n.toNat]'hlt).toNat_lt
  rw [Ev.ia_list (n := n) h0 (by simpa using hlt) (by simp [rByte])]
  simp only [Option.bind_some, ld_el, List.getElem_map]
  rw [show part (rByte (bytes[n.toNat]'hlt)) (0, 1, false) = some (.int .u8 (bytes[n.toNat]'hlt).toNat) from rfl]
  simp only [Option.bind_some, cI_int]
  rw [wrap_i64 (by omega) (by omega)]
theorem nilCheck_ptr (b i f : Nat) : nilCheck (.ptr b i f) = some (.ptr b i f) := rfl
theorem c83 (bytes : List UInt8) (p n : Int) (H : Heap) (b : Nat) (hR : Rd H b bytes p) (hl : bytes.length ≤ 2000) (h0 : 0 ≤ p) (h1 : p ≤ 1099511627776) (hn : n ≤ 1099511627776) :
    ∃ r : Int, ent E 83 [.ptr b 0 0, .int .i64 n] H = some (.int .i64 r, H.set b (some [[.list (bytes.map rByte), .int .i64 (p + 1)]])) ∧ 0 ≤ r ∧ (1 ≤ n → r < n) := by
  have hb : getBlk H b = some [[.list (bytes.map rByte), .int .i64 p]] := hR
  rw [e83]
  have e1 : ld false 1 H (.ptr b 0 (0 + 1)) = some (.int .i64 p) := by rw [ld_ptr hb rfl]; rfl
  have e2 : st 1 H (.ptr b 0 (0 + 1)) (.int .i64 (p + 1)) = some (H.set b (some [[.list (bytes.map rByte), .int .i64 (p + 1)]])) := by
    rw [st_ptr (z := 1) (v := .int .i64 (p + 1)) hb rfl rfl rfl (Nat.le_refl 2)]; rfl
  simp only [nilCheck_ptr, Option.bind_some, fa_ptr, e1, bI_add]
  rw [wrap_i64 (n := p + 1) (by omega) (by omega), e2]
  have hb' : getBlk (H.set b (some [[.list (bytes.map rByte), .int .i64 (p + 1)]])) b = some [[.list (bytes.map rByte), .int .i64 (p + 1)]] := getBlk_set_self (getBlk_lt' hb)
  generalize H.set b (some [[.list (bytes.map rByte), .int .i64 (p + 1)]]) = G at hb' ⊢
  have e3 : ld false 1 G (.ptr b 0 (0 + 1)) = some (.int .i64 (p + 1)) := by rw [ld_ptr hb' rfl]; rfl
  have e4 : ld false 1 G (.ptr b 0 (0 + 0)) = some (.list (bytes.map rByte)) := by rw [ld_ptr hb' rfl]; rfl
  simp only [Option.bind_some, bI_lss, asB_bool]
  by_cases hn1 : n < 1
  · simp only [hn1, decide_true, cond_true]
    exact ⟨0, rfl, by omega, by omega⟩
  · simp only [hn1, decide_false, cond_false, e3, e4, Option.bind_some, lnL_list, List.length_map, bI_eql, asB_bool, bI_sub]
    rw [wrap_i64 (n := p + 1 - 1) (by omega) (by omega), show p + 1 - 1 = p by omega]
    by_cases hz : (bytes.length : Int) = 0
    · simp only [hz, decide_true, cond_true]
      exact ⟨0, rfl, by omega, by omega⟩
    · simp only [hz, decide_false, cond_false, bI_lss, Option.bind_some, asB_bool]
      by_cases hk : p < (bytes.length : Int)
      · simp only [hk, decide_true, cond_true]
        obtain ⟨c, hc⟩ := byte_at (bytes := bytes) (H := G) h0 hk
        have := tmod_rng (a := (c.toNat : Int)) (n := n) (by omega) (by omega)
        refine ⟨(c.toNat : Int).tmod n, ?_, this.1, fun _ => this.2⟩
        cases hi : ia 1 G (.list (bytes.map rByte)) (.int .i64 p) with
        | none => rw [hi] at hc; cases hc
        | some v =>
          rw [hi] at hc
          simp only [Option.bind_some] at hc ⊢
          cases hv : ld false 1 G v with
          | none => rw [hv] at hc; cases hc
          | some u =>
            rw [hv] at hc
            simp only [Option.bind_some] at hc ⊢
            rw [hc]
            simp only [Option.bind_some, bI_rem _ _ _ (show n ≠ 0 by omega)]
            rfl
      · simp only [hk, decide_false, cond_false]
        rw [j83_7]
        simp only [nilCheck_ptr, Option.bind_some, fa_ptr, e4, lnL_list, List.length_map, bI_rem _ _ _ hz, bI_quo _ _ _ hz, bI_mul, bI_add]
        rw [wrap_i64 (n := p * 7) (by omega) (by omega), wrap_i64 (n := p * 7 + 3) (by omega) (by omega), wrap_i64 (n := p * 29) (by omega) (by omega)]
        have m1 := tmod_rng (a := p) (n := bytes.length) h0 (by omega)
        have m2 := tmod_rng (a := p * 7 + 3) (n := bytes.length) (by omega) (by omega)
        have m3 := tdiv_rng (a := p) (n := bytes.length) h0 (by omega)
        obtain ⟨c1, hc1⟩ := byte_at (bytes := bytes) (H := G) m1.1 m1.2
        obtain ⟨c2, hc2⟩ := byte_at (bytes := bytes) (H := G) m2.1 m2.2
        have l1 := c1.toNat_lt
        have l2 := c2.toNat_lt
        cases hi : ia 1 G (.list (bytes.map rByte)) (.int .i64 (p.tmod bytes.length)) with
        | none => rw [hi] at hc1; cases hc1
        | some v =>
          rw [hi] at hc1
          simp only [Option.bind_some] at hc1 ⊢
          cases hv : ld false 1 G v with
          | none => rw [hv] at hc1; cases hc1
          | some u =>
            rw [hv] at hc1
            simp only [Option.bind_some] at hc1 ⊢
            rw [hc1]
            simp only [Option.bind_some, bI_mul]
            cases hi2 : ia 1 G (.list (bytes.map rByte)) (.int .i64 ((p * 7 + 3).tmod bytes.length)) with
            | none => rw [hi2] at hc2; cases hc2
            | some v2 =>
              rw [hi2] at hc2
              simp only [Option.bind_some] at hc2 ⊢
              cases hv2 : ld false 1 G v2 with
              | none => rw [hv2] at hc2; cases hc2
              | some u2 =>
                rw [hv2] at hc2
                simp only [Option.bind_some] at hc2 ⊢
                rw [hc2]
                simp only [Option.bind_some, bI_mul, bI_add]
                generalize hq : p.tdiv (bytes.length : Int) = q at m3
                rw [wrap_i64 (n := (c1.toNat : Int) * 131) (by omega) (by omega), wrap_i64 (n := (c2.toNat : Int) * 1117) (by omega) (by omega)]
                rw [wrap_i64 (n := (c1.toNat : Int) * 131 + (c2.toNat : Int) * 1117) (by omega) (by omega)]
                rw [wrap_i64 (n := (c1.toNat : Int) * 131 + (c2.toNat : Int) * 1117 + p * 29) (by omega) (by omega)]
                rw [wrap_i64 (n := IntKind.wrap .i64 q * 53) (by rw [wrap_i64 (by omega) (by omega)]; omega) (by rw [wrap_i64 (by omega) (by omega)]; omega)]
                rw [wrap_i64 (n := q) (by omega) (by omega)]
                rw [wrap_i64 (n := (c1.toNat : Int) * 131 + (c2.toNat : Int) * 1117 + p * 29 + q * 53) (by omega) (by omega)]
                generalize hx : (c1.toNat : Int) * 131 + (c2.toNat : Int) * 1117 + p * 29 + q * 53 = x
                have hx0 : 0 ≤ x := by omega
                have hx1 : x < 9223372036854775807 := by omega
                have m4 := tdiv_rng (a := x) (n := 64) hx0 (by omega)
                simp only [bI_quo _ _ _ (show (64 : Int) ≠ 0 by decide), Option.bind_some]
                rw [wrap_i64 (n := x.tdiv 64) (by omega) (by omega)]
                obtain ⟨r, hr, hr0⟩ := xor_rng hx0 (by omega) m4.1 (by omega)
                rw [hr]
                simp only [Option.bind_some, bI_rem _ _ _ (show n ≠ 0 by omega)]
                have := tmod_rng (a := r) (n := n) hr0 (by omega)
                exact ⟨r.tmod n, rfl, this.1, fun _ => this.2⟩
theorem c77 (xs : List (List UInt8)) (hx : 0 < xs.length) (hx2 : xs.length ≤ 1000) (bytes : List UInt8) (p : Int) (H : Heap) (b c : Nat) (hR : Rd H b bytes p) (hl : bytes.length ≤ 2000) (h0 : 0 ≤ p) (h1 : p ≤ 1099511627776) (hc : getBlk H c = some (xs.map rStr)) (hne : c ≠ b) :
    ∃ s ∈ xs, ent E 77 [.ptr b 0 0, .sl c 0 xs.length] H = some (.str s, H.set b (some [[.list (bytes.map rByte), .int .i64 (p + 1)]])) := by
  rw [e77]
  obtain ⟨r, e1, r0, r1⟩ := c83 bytes p xs.length H b hR hl h0 h1 (by omega)
  have r1 := r1 (by omega)
  have hlt : r.toNat < xs.length := by omega
  simp only [lnL_sl, Option.bind_some, call_raw, e1]
  have hc' : getBlk (H.set b (some [[.list (bytes.map rByte), .int .i64 (p + 1)]])) c = some (xs.map rStr) := by rw [getBlk_ne hne]; exact hc
  rw [ia_sl (esz := 1) (row := rStr (xs[r.toNat]'hlt)) hc' r0 (by omega) (by simp [hlt]) rfl]
  simp only [Option.bind_some]
  rw [ld_ptr (row := rStr (xs[r.toNat]'hlt)) hc' (by simp [hlt])]
  exact ⟨_, List.getElem_mem hlt, rfl⟩
theorem c82 (xs : List Int) (hx : 0 < xs.length) (hx2 : xs.length ≤ 1000) (bytes : List UInt8) (p : Int) (H : Heap) (b c : Nat) (hR : Rd H b bytes p) (hl : bytes.length ≤ 2000) (h0 : 0 ≤ p) (h1 : p ≤ 1099511627776) (hc : getBlk H c = some (xs.map rInt)) (hne : c ≠ b) :
    ∃ s ∈ xs, ent E 82 [.ptr b 0 0, .sl c 0 xs.length] H = some (.int .i64 s, H.set b (some [[.list (bytes.map rByte), .int .i64 (p + 1)]])) := by
  rw [e82]
  obtain ⟨r, e1, r0, r1⟩ := c83 bytes p xs.length H b hR hl h0 h1 (by omega)
  have r1 := r1 (by omega)
  have hlt : r.toNat < xs.length := by omega
  simp only [lnL_sl, Option.bind_some, call_raw, e1]
  have hc' : getBlk (H.set b (some [[.list (bytes.map rByte), .int .i64 (p + 1)]])) c = some (xs.map rInt) := by rw [getBlk_ne hne]; exact hc
  rw [ia_sl (esz := 1) (row := rInt (xs[r.toNat]'hlt)) hc' r0 (by omega) (by simp [hlt]) rfl]
  simp only [Option.bind_some]
  rw [ld_ptr (row := rInt (xs[r.toNat]'hlt)) hc' (by simp [hlt])]
  exact ⟨_, List.getElem_mem hlt, rfl⟩

end Go.Ev.Ytohkcloiokhglaa
