/- Contracts. -/
import Derived.Test.YtmljkoieihaomaaC2A2
namespace Go.Ev.Ytmljkoieihaomaa
set_option linter.unusedVariables false
set_option linter.unusedSimpArgs false
open Go.Ev
theorem u8_wrap (n : Int) : IntKind.wrap .u8 n = ((u8 n).toNat : Int) := by
  have : (n % 256).toNat % 256 = (n % 256).toNat := by omega
  simp only [IntKind.wrap, IntKind.signed, IntKind.bits, u8, UInt8.toNat_ofNat', Nat.reducePow, this]
  have h : 0 ≤ n % 256 := by omega
  simp
  omega
theorem cBS_map (H : Heap) (s : List UInt8) (b : Nat) (h : getBlk H b = some (s.map rByte)) : cBS H (.sl b 0 s.length) = some (.str s, H) := by
  have h1 : ∀ l : List UInt8, optAll byteOf (l.map rByte) = some l := by
    intro l
    induction l with
    | nil => rfl
    | cons a l ih => 
      have : byteOf (rByte a) = some a := by simp [byteOf, rByte]
      rw [List.map_cons, optAll_cons, this, ih]; rfl
  simp [cBS, srcRows, h, rowsFit, h1]
theorem c95 (n : Int) : run E (exec E) false 95 [.int .i64 n] = some (.str [u8 n]) := by
  rw [run_ent, e95]
  simp only [cI_int, u8_wrap, Option.bind_some]
  rw [bsl_one (esz := 1) (by omega) rfl rfl rfl]
  simp only [Option.bind_some, D.cells]
  have q : cBS ([] ++ [some [[D.int .u8 (u8 n).toNat]]]) (.sl ([] : Heap).length 0 1) = some (.str [u8 n], _) := cBS_one _ (u8 n) [] _ rfl
  rw [q]
  simp
theorem bI_shr8 (n : Int) : bI .shr (.int .i64 n) (.int .u64 8) = some (.int .i64 (n / 256)) := by
  have : n.fdiv 256 = n / 256 := Int.fdiv_eq_ediv_of_nonneg _ (by decide)
  simp [bI, binInt, IntKind.bits, this]
theorem c97 (n : Int) (h0 : 0 ≤ n) (h1 : n ≤ 65535) : run E (exec E) false 97 [.int .i64 n] = some (.str [u8 (n / 256), u8 n]) := by
  rw [run_ent, e97]
  have e1 : n.tmod 256 = n % 256 := Int.tmod_eq_emod_of_nonneg h0
  have e2 : n.tdiv 256 = n / 256 := Int.tdiv_eq_ediv_of_nonneg h0
  have e3 : u8 (n % 256) = u8 n := by simp [u8]
  simp only [bI_rem _ _ _ (show (256 : Int) ≠ 0 by decide), bI_quo _ _ _ (show (256 : Int) ≠ 0 by decide), e1, e2, Option.bind_some, cI_int]
  rw [wrap_i64 (n := n / 256) (by omega) (by omega)]
  simp only [u8_wrap, e3]
  have : bsl 1 [.int .u8 0] [] 2 [(0, .int .u8 ((u8 (n / 256)).toNat : Int)), (1, .int .u8 ((u8 n).toNat : Int))] = some (.sl 0 0 2, [some ([u8 (n / 256), u8 n].map rByte)]) := rfl
  rw [this]
  simp only [Option.bind_some]
  rw [show D.sl 0 0 2 = D.sl 0 0 [u8 (n / 256), u8 n].length from rfl, cBS_map _ _ _ rfl]
  simp
def opBytes (x : SIns) : List UInt8 := if opArgs x.Op = 1 then [u8 x.Op, u8 x.Num] else if opArgs x.Op = 2 then [u8 x.Op, u8 (x.Num / 256), u8 x.Num] else if opArgs x.Op = 0 then [u8 x.Op] else []
theorem opBytes_len (x : SIns) : (opBytes x).length ≤ 3 := by unfold opBytes; split <;> (try split) <;> (try split) <;> simp
def opsPut (l : List SIns) : List UInt8 := if 120 < l.length then [] else if opsGet (l.flatMap opBytes) = some l then l.flatMap opBytes else []
theorem numBytes_rng (s : List UInt8) (h : s.length ≤ 2) : 0 ≤ numBytes s ∧ numBytes s ≤ 65535 := by
  match s, h with
  | [], _ => simp [numBytes]
  | [a], _ => have := a.toNat_lt; simp [numBytes]; omega
  | [a, b], _ => have := a.toNat_lt; have := b.toNat_lt; simp [numBytes]; omega
def fair (x : SIns) : Prop := 0 ≤ opArgs x.Op ∧ -32768 ≤ x.Num ∧ x.Num ≤ 65535
theorem opsGo_fair : ∀ {s : List UInt8} {l : List SIns} {a : Nat}, opsGo a s = some l → ∀ x ∈ l, fair x
  | [], l, a, h => by rw [opsGo] at h; cases h; simp
  | b :: rest, l, a, h => by
    rw [opsGo] at h
    have h2 := opArgs_le b.toNat
    split at h
    · cases h
    · rename_i hc
      obtain ⟨l', h', rfl⟩ := Option.map_eq_some_iff.mp h
      have ih := opsGo_fair h'
      intro x hx
      rcases List.mem_cons.mp hx with rfl | hx
      · have := numBytes_rng (rest.take (opArgs b.toNat).toNat) (by simp; omega)
        refine ⟨by simp only; omega, ?_⟩
        simp only [numFix]
        split <;> omega
      · exact ih x hx
  termination_by s => s.length
  decreasing_by simp; omega
theorem opsGet_fair {s : List UInt8} {l : List SIns} (h : opsGet s = some l) : ∀ x ∈ l, fair x := by
  unfold opsGet at h
  split at h
  · exact opsGo_fair h
  · cases h
theorem SIns.dneq (a b : SIns) : bA [.int .i64, .int .i64, .int .i64] .neq a.d b.d = some (.bool (!decide (a = b))) := by
  obtain ⟨a1, a2, a3⟩ := a
  obtain ⟨b1, b2, b3⟩ := b
  simp only [bA, SIns.row, scEqs, scEq, Option.bind_some, Option.map_some, if_true]
  congr 3
  simp [Bool.beq_eq_decide_eq]
theorem flat_step {α β : Type} (f : α → List β) (l : List α) {i : Nat} (hi : i < l.length) : (l.drop i).flatMap f = f l[i] ++ (l.drop (i + 1)).flatMap f := by
  rw [List.drop_eq_getElem_cons hi]; rfl
def putFin (l : List SIns) (s : List UInt8) : List UInt8 := if opsGet s = some l then s else []
theorem tmod_pos (n : Int) (h : -65536 ≤ n) : (n + 65536).tmod 65536 = n % 65536 := by
  rw [Int.tmod_eq_emod_of_nonneg (by omega)]; omega
theorem u8_mod (n : Int) : u8 (n % 65536) = u8 n := by
  have : n % 65536 % 256 = n % 256 := by omega
  simp [u8, this]
theorem u8_div (n : Int) : u8 (n % 65536 / 256) = u8 (n / 256) := by
  have : n % 65536 / 256 % 256 = n / 256 % 256 := by omega
  simp [u8, this]
theorem opsPut_unfair {l : List SIns} (h : ¬ ∀ x ∈ l, fair x) (s : List UInt8) : opsGet s ≠ some l := fun e => h (opsGet_fair e)
end Go.Ev.Ytmljkoieihaomaa
