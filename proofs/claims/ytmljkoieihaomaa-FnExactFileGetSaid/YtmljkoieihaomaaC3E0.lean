/- Contracts. -/
import Derived.Test.YtmljkoieihaomaaC3D0
namespace Go.Ev.Ytmljkoieihaomaa
set_option linter.unusedVariables false
set_option linter.unusedSimpArgs false
open Go.Ev
/-! Loaders. -/
theorem less_total : ∀ a b : List UInt8, (Op.bytesLess b a || b == a) = !Op.bytesLess a b
  | [], [] => rfl
  | [], _ :: _ => rfl
  | _ :: _, [] => rfl
  | a :: x, b :: y => by
    have ih := less_total x y
    simp only [Op.bytesLess]
    have e1 : (b :: y == a :: x) = (b == a && y == x) := rfl
    rw [e1]
    by_cases h : a = b
    · subst h
      have : ¬ a < a := UInt8.lt_irrefl a
      simpa [this] using ih
    · rcases UInt8.lt_or_lt_of_ne h with h1 | h1
      · have h2 : ¬ b < a := fun h2 => absurd (UInt8.lt_trans h1 h2) (UInt8.lt_irrefl _)
        have h3 : ¬ b = a := fun e => h e.symm
        simp [h1, h2, h3]
      · have h2 : ¬ a < b := fun h2 => absurd (UInt8.lt_trans h1 h2) (UInt8.lt_irrefl _)
        simp [h1, h2, h]
theorem slL_to {esz : Nat} {H : Heap} {rows : Rows} {n : Int} (h0 : 0 ≤ n) (h1 : n ≤ rows.length) (hf : rowsFit esz rows = true) : slL esz H (.list rows) none (some (.int .i64 n)) none = some (.list (rows.take n.toNat)) := by
  simp [slL, bound, h0, h1, hf]
def isFirstM (n : List UInt8) : Bool := decide (n = [79, 98, 106]) || decide (n = [69, 114, 114])
def builtM (n : List UInt8) : Int := if n = [79, 98, 106] then 0 else if n = [69, 114, 114] then 1 else -1
theorem built_first (s : List UInt8) : decide (0 ≤ builtM s) = isFirstM s := by
  unfold builtM isFirstM
  by_cases h : s = [79, 98, 106]
  · simp [h]
  · by_cases h2 : s = [69, 114, 114] <;> simp [h, h2]
theorem built_neg (s : List UInt8) : decide (builtM s < 0) = !isFirstM s := by
  rw [← built_first, ← decide_not]
  congr 1
  simp
def fileNamed (n : List UInt8) (f : SFile) : Bool := decide (f.Name = n)
def wayNamed (n : List UInt8) (w : SWay) : Bool := decide (w.Name = n)
def filesOk (all : List SFile) : Nat → List SFile → Bool
  | _, [] => true
  | i, f :: r => nameOk f.Name && (!(isFirstM f.Name) && (decide (f.Text.length ≤ 900) && (!((all.take i).any (fileNamed f.Name)) && filesOk all (i + 1) r)))
def wayLt (all : List SWay) (i : Nat) (w : SWay) : Bool := match i with
  | 0 => true
  | k + 1 => match all[k]? with
    | some v => Op.bytesLess v.Name w.Name
    | none => true
def waysOk (all : List SWay) (many : Int) : Nat → List SWay → Bool
  | _, [] => true
  | i, w :: r => nameOk w.Name && (inR w.To 0 (many - 1) && (wayLt all i w && waysOk all many (i + 1) r))
def loaderOk (l : SLoader) (many : Int) : Bool := decide (l.Files.length ≤ 5) && (decide (l.Ways.length ≤ 4) && (inR l.Parent (-1) (many - 1) && (filesOk l.Files 0 l.Files && waysOk l.Ways many 0 l.Ways)))
def loadersOk (list : List SLoader) : Bool := inR list.length 1 3 && list.all fun l => loaderOk l list.length
abbrev LoadersWf (list : List SLoader) : Prop := list.length ≤ 140737488351232 ∧ ∀ x ∈ list, x.wf
theorem ia_file {l : List SFile} {H : Heap} {n : Int} (h0 : 0 ≤ n) (h1 : n.toNat < l.length) : ia 2 H (.list (l.map SFile.row)) (.int .i64 n) = some (.el (l[n.toNat]).row 0) := by
  rw [ia_list h0 (by simpa using h1) (by simp)]; simp
theorem ia_way {l : List SWay} {H : Heap} {n : Int} (h0 : 0 ≤ n) (h1 : n.toNat < l.length) : ia 2 H (.list (l.map SWay.row)) (.int .i64 n) = some (.el (l[n.toNat]).row 0) := by
  rw [ia_list h0 (by simpa using h1) (by simp)]; simp
theorem ia_loader {l : List SLoader} {H : Heap} {n : Int} (h0 : 0 ≤ n) (h1 : n.toNat < l.length) : ia 3 H (.list (l.map SLoader.row)) (.int .i64 n) = some (.el (l[n.toNat]).row 0) := by
  rw [ia_list h0 (by simpa using h1) (by simp)]; simp
theorem put_loc {z : Nat} (H : Heap) (row : List D) (r : List D) (hr : row.length = z) (hl : r.length = z) (hc : r.all D.isCell = true) : st z (H ++ [some [row]]) (.ptr H.length 0 0) (.agg r) = some (H ++ [some [r]]) := by
  rw [st_loc (z := z) H row [] 0 (.agg r) hl hc (by omega)]
  simp [List.drop_of_length_le (show row.length ≤ z by omega)]; rfl
theorem ld_in {H : Heap} {b : Nat} {row : List D} (h : getBlk H b = some [row]) (K : Heap) (f : Nat) : ld false 1 (H ++ K) (.ptr b 0 (0 + f)) = row[0 + f]? := by rw [ld_ptr (getBlk_app h) rfl]; rfl
theorem ld_in0 {H : Heap} {b : Nat} {row : List D} (h : getBlk H b = some [row]) (f : Nat) : ld false 1 H (.ptr b 0 (0 + f)) = row[0 + f]? := by rw [ld_ptr h rfl]; rfl
theorem ld_at {H : Heap} {b : Nat} {row : List D} (h : getBlk H b = some [row]) (K : Heap) : ld false 1 (H ++ K) (.ptr b 0 0) = row[0]? := by rw [ld_ptr (getBlk_app h) rfl]; rfl
theorem ld_all {H : Heap} {b z : Nat} {row : List D} (h : getBlk H b = some [row]) (hz : row.length = z) (K : Heap) : ld true z (H ++ K) (.ptr b 0 0) = some (.agg row) := by
  rw [ld_ptr (getBlk_app h) rfl, part_agg, if_pos (by omega)]
  simp [← hz]
def asksM (list : List SLoader) (k : Int) (n : List UInt8) : Bool := loadersOk list && (inR k 0 (list.length - 1) && (nameOk n && !isFirstM n))
def nextM (l : SLoader) (n : List UInt8) : Int × Bool := match l.Ways.find? (wayNamed n) with
  | some w => (w.To, false)
  | none => if l.Files.any (fileNamed n) = true then (-1, true) else (l.Parent, false)
end Go.Ev.Ytmljkoieihaomaa
