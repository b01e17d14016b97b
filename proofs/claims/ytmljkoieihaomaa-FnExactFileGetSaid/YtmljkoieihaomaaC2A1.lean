/- Contracts. -/
import Derived.Test.YtmljkoieihaomaaC1A4
namespace Go.Ev.Ytmljkoieihaomaa
set_option linter.unusedVariables false
set_option linter.unusedSimpArgs false
open Go.Ev
def inR (n lo hi : Int) : Bool := decide (lo ≤ n) && decide (n ≤ hi)
def opArgs (op : Int) : Int := if op = 1 then 2 else if inR op 3 6 then 1 else if inR op 14 29 then 2 else if inR op 0 34 then 0 else -1
def numBytes (s : List UInt8) : Int := s.foldl (fun n b => 256 * n + b.toNat) 0
def numFix (op n : Int) : Int := if op = 1 ∧ 32767 < n then n - 65536 else n
theorem opArgs_le (op : Int) : opArgs op ≤ 2 := by
  unfold opArgs; split
  · omega
  · split
    · omega
    · split
      · omega
      · split <;> omega
theorem opArgs_ge (op : Int) : -1 ≤ opArgs op := by
  unfold opArgs; split
  · omega
  · split
    · omega
    · split
      · omega
      · split <;> omega
def opsGo (at_ : Nat) : List UInt8 → Option (List SIns)
  | [] => some []
  | b :: rest =>
    let n := opArgs b.toNat
    if n < 0 ∨ (rest.length : Int) < n then none
    else (opsGo (at_ + 1 + n.toNat) (rest.drop n.toNat)).map (⟨at_, b.toNat, numFix b.toNat (numBytes (rest.take n.toNat))⟩ :: ·)
  termination_by s => s.length
  decreasing_by simp; omega
theorem slS_mid {s : List UInt8} {a b : Int} (h0 : 0 ≤ a) (h1 : a ≤ b) (h2 : b ≤ s.length) : slS (.str s) (some (.int .i64 a)) (some (.int .i64 b)) none = some (.str ((s.take b.toNat).drop a.toNat)) := by
  simp [slS, bound, sliceStr, h0, h1, h2]
def opsRes : Option (List SIns) → D
  | some l => .tup [.list (l.map SIns.row), .bool (decide (0 < l.length))]
  | none => .tup [.list [], .bool false]
@[simp] theorem ix_at (s : List UInt8) (n : Int) (h0 : 0 ≤ n) (h : n < s.length) : ix (.str s) (.int .i64 n) = some (.int .u8 (s[n.toNat]'(by omega)).toNat) := ix_get h0 (by omega)
def opsGet (s : List UInt8) : Option (List SIns) := if 1 ≤ s.length ∧ s.length ≤ 120 then opsGo 0 s else none
def resIns : Option (List SIns) → D
  | some l => .tup [.list (l.map SIns.row), .bool true]
  | none => .tup [.list [], .bool false]
theorem opsGo_pos {s : List UInt8} {l : List SIns} {a : Nat} (h : opsGo a s = some l) (hs : s ≠ []) : 0 < l.length := by
  cases s with
  | nil => exact absurd rfl hs
  | cons b rest =>
    rw [opsGo] at h
    split at h
    · cases h
    · obtain ⟨l', _, rfl⟩ := Option.map_eq_some_iff.mp h
      simp
theorem opsGo_len : ∀ {s : List UInt8} {l : List SIns} {a : Nat}, opsGo a s = some l → l.length ≤ s.length
  | [], l, a, h => by rw [opsGo] at h; cases h; simp
  | b :: rest, l, a, h => by
    rw [opsGo] at h
    split at h
    · cases h
    · obtain ⟨l', h', rfl⟩ := Option.map_eq_some_iff.mp h
      have := opsGo_len h'
      simp at this ⊢
      omega
  termination_by s => s.length
  decreasing_by simp; omega
theorem opsGet_pos {s : List UInt8} {l : List SIns} (h : opsGet s = some l) : 0 < l.length := by
  unfold opsGet at h
  split at h
  · rename_i hc
    exact opsGo_pos h (by rintro rfl; simp at hc)
  · cases h
def markIns : Int → List SIns → List SIns
  | _, [] => []
  | m, _ :: l => ⟨m, m + 1, m + 2⟩ :: markIns (m + 3) l
theorem markIns_length : ∀ (m : Int) (l : List SIns), (markIns m l).length = l.length
  | _, [] => rfl
  | m, _ :: l => by simp [markIns, markIns_length (m + 3) l]
end Go.Ev.Ytmljkoieihaomaa
