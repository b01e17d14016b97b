/- Contracts. -/
import Derived.Test.YtmljkoieihaomaaC3B1
namespace Go.Ev.Ytmljkoieihaomaa
set_option linter.unusedVariables false
set_option linter.unusedSimpArgs false
open Go.Ev
/-! What is drawn. -/
def Rd (H : Heap) (b : Nat) (bytes : List UInt8) (p : Int) : Prop := getBlk H b = some [[.list (bytes.map rByte), .int .i64 p]]
theorem Rd.app {H : Heap} {b : Nat} {bytes : List UInt8} {p : Int} (h : Rd H b bytes p) (K : Heap) : Rd (H ++ K) b bytes p := (getBlk_left (getBlk_lt' h)).trans h
theorem Rd.ne {H : Heap} {b : Nat} {bytes : List UInt8} {p : Int} (h : Rd H b bytes p) : b < H.length := getBlk_lt' h
theorem xor_rng {a b : Int} (ha : 0 ≤ a) (ha' : a < 9223372036854775808) (hb : 0 ≤ b) (hb' : b < 9223372036854775808) : ∃ r : Int, bI .xor (.int .i64 a) (.int .i64 b) = some (.int .i64 r) ∧ 0 ≤ r := by
  have h : (BitVec.ofInt 64 a ^^^ BitVec.ofInt 64 b).toNat < 2 ^ 63 := by
    rw [BitVec.toNat_xor]
    apply Nat.xor_lt_two_pow
    · rw [BitVec.toNat_ofInt]; omega
    · rw [BitVec.toNat_ofInt]; omega
  refine ⟨((BitVec.ofInt 64 a ^^^ BitVec.ofInt 64 b).toNat : Int), ?_, by omega⟩
  show some (D.int .i64 (IntKind.wrap .i64 ((BitVec.ofInt 64 a ^^^ BitVec.ofInt 64 b).toNat : Int))) = _
  rw [wrap_i64 (by omega) (by omega)]
theorem tmod_rng {a n : Int} (ha : 0 ≤ a) (hn : 1 ≤ n) : 0 ≤ a.tmod n ∧ a.tmod n < n := by
  rw [Int.tmod_eq_emod_of_nonneg ha]
  exact ⟨Int.emod_nonneg _ (by omega), Int.emod_lt_of_pos _ (by omega)⟩
theorem tdiv_rng {a n : Int} (ha : 0 ≤ a) (hn : 1 ≤ n) : 0 ≤ a.tdiv n ∧ a.tdiv n ≤ a := by
  rw [Int.tdiv_eq_ediv_of_nonneg ha]
  exact ⟨Int.ediv_nonneg ha (by omega), Int.ediv_le_self _ ha⟩
theorem byte_at {bytes : List UInt8} {H : Heap} {n : Int} (h0 : 0 ≤ n) (h1 : n < bytes.length) : ∃ c : UInt8, (ia 1 H (.list (bytes.map rByte)) (.int .i64 n)).bind (fun v => (ld false 1 H v).bind fun w => cI .i64 w) = some (.int .i64 c.toNat) := by
  refine ⟨bytes[n.toNat]'(by omega), ?_⟩
  have hlt : n.toNat < bytes.length := by omega
  have hb := (bytes[n.toNat]'hlt).toNat_lt
  rw [Ev.ia_list (n := n) h0 (by simpa using hlt) (by simp [rByte])]
  simp only [Option.bind_some, ld_el, List.getElem_map]
  rw [show part (rByte (bytes[n.toNat]'hlt)) (0, 1, false) = some (.int .u8 (bytes[n.toNat]'hlt).toNat) from rfl]
  simp only [Option.bind_some, cI_int]
  rw [wrap_i64 (by omega) (by omega)]
theorem nilCheck_ptr (b i f : Nat) : nilCheck (.ptr b i f) = some (.ptr b i f) := rfl
end Go.Ev.Ytmljkoieihaomaa
