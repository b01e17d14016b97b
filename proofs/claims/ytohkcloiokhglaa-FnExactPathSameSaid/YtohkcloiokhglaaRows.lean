/-
  No cell of these rows narrows 'for every input' (looked for: loops, veiled, ifaces, maps, wideKeys, modest, calm, conditions, laid).
  DERIVED. THE GIVEN ROWS OF THIS SEAT. 12 by the template 'for every input the law returns true; each argument reads behind the call as it read before'; 0 by the template 'total and deterministic' (their statements: YtohkcloiokhglaaTotals.lean).
  GIVEN WITH THE SEED: the statements are not yours to turn. If you find one false, say at which input.
  Laid BY PROGRAM, IN A SANDBOX (cutbox-rows.mjs): the forced cells as the released guide's own fill.sh prints them over the translation 19e3bd460489d494… (all of the seat's roots in one cut). By AI agents, Wed Nov 11 2026. No macro, syntax, notation, axiom, sorry.
-/
import Derived.Test.YtohkcloiokhglaaChecked
import GoSem.Claim
import GoSem.ClaimJoined
import GoSem.ClaimMapViews
import Derived.JoinedTies
import Derived.KernelRfl
namespace Go.Proofs.Ytohkcloiokhglaa
/- THE CELL 'sum', in the pinned program and in every row, IS THE sha256 OF THE DUMP (.gsa) THAT YtohkcloiokhglaaProg.lean LOADS. Nothing in Lean hashes anything: it is a label: what it is worth is what the hold of that sum in a sandbox is worth. -/
noncomputable def Try.pinned : Pinned := { name := "ytohkcloiokhglaa", sum := "19e3bd460489d4948896efef7e0575ff53cd00f8269b392ee3b85537ce96aef7", checked := Try.checked }
namespace Rows
def none {H : Type} : Left H := { results := [], args := [] }

/-- 'laws.FnExactConstants': WHATEVER THE INPUT: true; the input reads as it did. -/
def fnExactConstantsSpec : ChangeSpec := { name := "fnExactConstants", fn := fun _ => fun
  | [] => { results := [.lit (.bool true)], args := [] }
  | _ => none }
def fnExactConstantsRow : OpenClaim := { program := "ytohkcloiokhglaa", sum := "19e3bd460489d4948896efef7e0575ff53cd00f8269b392ee3b85537ce96aef7", func := "loop.example/stowage/laws.FnExactConstants", spec := "fnExactConstants", apart := false }
def FnExactConstantsSaid : Prop := fnExactConstantsRow.holds Try.pinned (OpenSpec.ofChange fnExactConstantsSpec)

/-- ITS FALSE NEIGHBOUR: 'it returns false'. Refute it at one input. -/
def fnExactConstantsWrong : ChangeSpec := { name := "fnExactConstants", fn := fun _ => fun
  | [] => { results := [.lit (.bool false)], args := [] }
  | _ => none }
def FnExactConstantsWrongFalsely : Prop := fnExactConstantsRow.holds Try.pinned (OpenSpec.ofChange fnExactConstantsWrong)

/-- 'laws.FnExactNameOk': WHATEVER THE INPUT: true; the input reads as it did. -/
def fnExactNameOkSpec : ChangeSpec := { name := "fnExactNameOk", fn := fun _ => fun
  | [d] => { results := [.lit (.bool true)], args := [d] }
  | _ => none }
def fnExactNameOkRow : OpenClaim := { program := "ytohkcloiokhglaa", sum := "19e3bd460489d4948896efef7e0575ff53cd00f8269b392ee3b85537ce96aef7", func := "loop.example/stowage/laws.FnExactNameOk", spec := "fnExactNameOk", apart := false }
def FnExactNameOkSaid : Prop := fnExactNameOkRow.holds Try.pinned (OpenSpec.ofChange fnExactNameOkSpec)

/-- ITS FALSE NEIGHBOUR: 'it returns false'. Refute it at one input. -/
def fnExactNameOkWrong : ChangeSpec := { name := "fnExactNameOk", fn := fun _ => fun
  | [d] => { results := [.lit (.bool false)], args := [d] }
  | _ => none }
def FnExactNameOkWrongFalsely : Prop := fnExactNameOkRow.holds Try.pinned (OpenSpec.ofChange fnExactNameOkWrong)

/-- 'laws.FnExactTypeOk': WHATEVER THE INPUT: true; the input reads as it did. -/
def fnExactTypeOkSpec : ChangeSpec := { name := "fnExactTypeOk", fn := fun _ => fun
  | [d] => { results := [.lit (.bool true)], args := [d] }
  | _ => none }
def fnExactTypeOkRow : OpenClaim := { program := "ytohkcloiokhglaa", sum := "19e3bd460489d4948896efef7e0575ff53cd00f8269b392ee3b85537ce96aef7", func := "loop.example/stowage/laws.FnExactTypeOk", spec := "fnExactTypeOk", apart := false }
def FnExactTypeOkSaid : Prop := fnExactTypeOkRow.holds Try.pinned (OpenSpec.ofChange fnExactTypeOkSpec)

/-- ITS FALSE NEIGHBOUR: 'it returns false'. Refute it at one input. -/
def fnExactTypeOkWrong : ChangeSpec := { name := "fnExactTypeOk", fn := fun _ => fun
  | [d] => { results := [.lit (.bool false)], args := [d] }
  | _ => none }
def FnExactTypeOkWrongFalsely : Prop := fnExactTypeOkRow.holds Try.pinned (OpenSpec.ofChange fnExactTypeOkWrong)

/-- 'laws.FnExactOpsGet': WHATEVER THE INPUT: true; the input reads as it did. -/
def fnExactOpsGetSpec : ChangeSpec := { name := "fnExactOpsGet", fn := fun _ => fun
  | [d] => { results := [.lit (.bool true)], args := [d] }
  | _ => none }
def fnExactOpsGetRow : OpenClaim := { program := "ytohkcloiokhglaa", sum := "19e3bd460489d4948896efef7e0575ff53cd00f8269b392ee3b85537ce96aef7", func := "loop.example/stowage/laws.FnExactOpsGet", spec := "fnExactOpsGet", apart := false }
def FnExactOpsGetSaid : Prop := fnExactOpsGetRow.holds Try.pinned (OpenSpec.ofChange fnExactOpsGetSpec)

/-- ITS FALSE NEIGHBOUR: 'it returns false'. Refute it at one input. -/
def fnExactOpsGetWrong : ChangeSpec := { name := "fnExactOpsGet", fn := fun _ => fun
  | [d] => { results := [.lit (.bool false)], args := [d] }
  | _ => none }
def FnExactOpsGetWrongFalsely : Prop := fnExactOpsGetRow.holds Try.pinned (OpenSpec.ofChange fnExactOpsGetWrong)

/-- 'laws.FnExactTraceMost': WHATEVER THE INPUT: true; the input reads as it did. -/
def fnExactTraceMostSpec : ChangeSpec := { name := "fnExactTraceMost", fn := fun _ => fun
  | [d] => { results := [.lit (.bool true)], args := [d] }
  | _ => none }
def fnExactTraceMostRow : OpenClaim := { program := "ytohkcloiokhglaa", sum := "19e3bd460489d4948896efef7e0575ff53cd00f8269b392ee3b85537ce96aef7", func := "loop.example/stowage/laws.FnExactTraceMost", spec := "fnExactTraceMost", apart := false }
def FnExactTraceMostSaid : Prop := fnExactTraceMostRow.holds Try.pinned (OpenSpec.ofChange fnExactTraceMostSpec)

/-- ITS FALSE NEIGHBOUR: 'it returns false'. Refute it at one input. -/
def fnExactTraceMostWrong : ChangeSpec := { name := "fnExactTraceMost", fn := fun _ => fun
  | [d] => { results := [.lit (.bool false)], args := [d] }
  | _ => none }
def FnExactTraceMostWrongFalsely : Prop := fnExactTraceMostRow.holds Try.pinned (OpenSpec.ofChange fnExactTraceMostWrong)

/-- 'laws.FnExactOpsPut': WHATEVER THE INPUT: true; the input reads as it did. -/
def fnExactOpsPutSpec : ChangeSpec := { name := "fnExactOpsPut", fn := fun _ => fun
  | [d] => { results := [.lit (.bool true)], args := [d] }
  | _ => none }
def fnExactOpsPutRow : OpenClaim := { program := "ytohkcloiokhglaa", sum := "19e3bd460489d4948896efef7e0575ff53cd00f8269b392ee3b85537ce96aef7", func := "loop.example/stowage/laws.FnExactOpsPut", spec := "fnExactOpsPut", apart := false }
def FnExactOpsPutSaid : Prop := fnExactOpsPutRow.holds Try.pinned (OpenSpec.ofChange fnExactOpsPutSpec)

/-- ITS FALSE NEIGHBOUR: 'it returns false'. Refute it at one input. -/
def fnExactOpsPutWrong : ChangeSpec := { name := "fnExactOpsPut", fn := fun _ => fun
  | [d] => { results := [.lit (.bool false)], args := [d] }
  | _ => none }
def FnExactOpsPutWrongFalsely : Prop := fnExactOpsPutRow.holds Try.pinned (OpenSpec.ofChange fnExactOpsPutWrong)

/-- 'laws.FnName': WHATEVER THE INPUT: true; the input reads as it did. -/
def fnNameSpec : ChangeSpec := { name := "fnName", fn := fun _ => fun
  | [d1, d2] => { results := [.lit (.bool true)], args := [d1, d2] }
  | _ => none }
def fnNameRow : OpenClaim := { program := "ytohkcloiokhglaa", sum := "19e3bd460489d4948896efef7e0575ff53cd00f8269b392ee3b85537ce96aef7", func := "loop.example/stowage/laws.FnName", spec := "fnName", inPlace := ["internal/bytealg.IndexByteString", "internal/bytealg.IndexString"], named := ["internal/bytealg.MaxLen"], apart := false }
def FnNameSaid : Prop := fnNameRow.holds Try.pinned (OpenSpec.ofChange fnNameSpec)

/-- ITS FALSE NEIGHBOUR: 'it returns false'. Refute it at one input. -/
def fnNameWrong : ChangeSpec := { name := "fnName", fn := fun _ => fun
  | [d1, d2] => { results := [.lit (.bool false)], args := [d1, d2] }
  | _ => none }
def FnNameWrongFalsely : Prop := fnNameRow.holds Try.pinned (OpenSpec.ofChange fnNameWrong)

/-- 'laws.FnExactDescOf': WHATEVER THE INPUT: true; the input reads as it did. -/
def fnExactDescOfSpec : ChangeSpec := { name := "fnExactDescOf", fn := fun _ => fun
  | [d] => { results := [.lit (.bool true)], args := [d] }
  | _ => none }
def fnExactDescOfRow : OpenClaim := { program := "ytohkcloiokhglaa", sum := "19e3bd460489d4948896efef7e0575ff53cd00f8269b392ee3b85537ce96aef7", func := "loop.example/stowage/laws.FnExactDescOf", spec := "fnExactDescOf", inPlace := ["internal/bytealg.IndexByteString", "internal/bytealg.IndexString"], named := ["internal/bytealg.MaxLen"], apart := false }
def FnExactDescOfSaid : Prop := fnExactDescOfRow.holds Try.pinned (OpenSpec.ofChange fnExactDescOfSpec)

/-- ITS FALSE NEIGHBOUR: 'it returns false'. Refute it at one input. -/
def fnExactDescOfWrong : ChangeSpec := { name := "fnExactDescOf", fn := fun _ => fun
  | [d] => { results := [.lit (.bool false)], args := [d] }
  | _ => none }
def FnExactDescOfWrongFalsely : Prop := fnExactDescOfRow.holds Try.pinned (OpenSpec.ofChange fnExactDescOfWrong)

/-- 'laws.FnDesc': WHATEVER THE INPUT: true; the input reads as it did. -/
def fnDescSpec : ChangeSpec := { name := "fnDesc", fn := fun _ => fun
  | [d] => { results := [.lit (.bool true)], args := [d] }
  | _ => none }
def fnDescRow : OpenClaim := { program := "ytohkcloiokhglaa", sum := "19e3bd460489d4948896efef7e0575ff53cd00f8269b392ee3b85537ce96aef7", func := "loop.example/stowage/laws.FnDesc", spec := "fnDesc", inPlace := ["internal/bytealg.IndexByteString", "internal/bytealg.IndexString"], named := ["internal/bytealg.MaxLen"], apart := false }
def FnDescSaid : Prop := fnDescRow.holds Try.pinned (OpenSpec.ofChange fnDescSpec)

/-- ITS FALSE NEIGHBOUR: 'it returns false'. Refute it at one input. -/
def fnDescWrong : ChangeSpec := { name := "fnDesc", fn := fun _ => fun
  | [d] => { results := [.lit (.bool false)], args := [d] }
  | _ => none }
def FnDescWrongFalsely : Prop := fnDescRow.holds Try.pinned (OpenSpec.ofChange fnDescWrong)

/-- 'laws.FnExactPathMaker': WHATEVER THE INPUT: true; the input reads as it did. -/
def fnExactPathMakerSpec : ChangeSpec := { name := "fnExactPathMaker", fn := fun _ => fun
  | [d1, d2, d3] => { results := [.lit (.bool true)], args := [d1, d2, d3] }
  | _ => none }
def fnExactPathMakerRow : OpenClaim := { program := "ytohkcloiokhglaa", sum := "19e3bd460489d4948896efef7e0575ff53cd00f8269b392ee3b85537ce96aef7", func := "loop.example/stowage/laws.FnExactPathMaker", spec := "fnExactPathMaker", unfollowed := true, recurses := true, apart := false }
def FnExactPathMakerSaid : Prop := fnExactPathMakerRow.holds Try.pinned (OpenSpec.ofChange fnExactPathMakerSpec)

/-- ITS FALSE NEIGHBOUR: 'it returns false'. Refute it at one input. -/
def fnExactPathMakerWrong : ChangeSpec := { name := "fnExactPathMaker", fn := fun _ => fun
  | [d1, d2, d3] => { results := [.lit (.bool false)], args := [d1, d2, d3] }
  | _ => none }
def FnExactPathMakerWrongFalsely : Prop := fnExactPathMakerRow.holds Try.pinned (OpenSpec.ofChange fnExactPathMakerWrong)

/-- 'laws.FnExactPathSame': WHATEVER THE INPUT: true; the input reads as it did. -/
def fnExactPathSameSpec : ChangeSpec := { name := "fnExactPathSame", fn := fun _ => fun
  | [d1, d2, d3, d4] => { results := [.lit (.bool true)], args := [d1, d2, d3, d4] }
  | _ => none }
def fnExactPathSameRow : OpenClaim := { program := "ytohkcloiokhglaa", sum := "19e3bd460489d4948896efef7e0575ff53cd00f8269b392ee3b85537ce96aef7", func := "loop.example/stowage/laws.FnExactPathSame", spec := "fnExactPathSame", unfollowed := true, recurses := true, apart := false }
def FnExactPathSameSaid : Prop := fnExactPathSameRow.holds Try.pinned (OpenSpec.ofChange fnExactPathSameSpec)

/-- ITS FALSE NEIGHBOUR: 'it returns false'. Refute it at one input. -/
def fnExactPathSameWrong : ChangeSpec := { name := "fnExactPathSame", fn := fun _ => fun
  | [d1, d2, d3, d4] => { results := [.lit (.bool false)], args := [d1, d2, d3, d4] }
  | _ => none }
def FnExactPathSameWrongFalsely : Prop := fnExactPathSameRow.holds Try.pinned (OpenSpec.ofChange fnExactPathSameWrong)

/-- 'laws.FnExactPoolCheck': WHATEVER THE INPUT: true; the input reads as it did. -/
def fnExactPoolCheckSpec : ChangeSpec := { name := "fnExactPoolCheck", fn := fun _ => fun
  | [d] => { results := [.lit (.bool true)], args := [d] }
  | _ => none }
def fnExactPoolCheckRow : OpenClaim := { program := "ytohkcloiokhglaa", sum := "19e3bd460489d4948896efef7e0575ff53cd00f8269b392ee3b85537ce96aef7", func := "loop.example/stowage/laws.FnExactPoolCheck", spec := "fnExactPoolCheck", inPlace := ["internal/bytealg.IndexByteString", "internal/bytealg.IndexString"], unfollowed := true, recurses := true, named := ["internal/bytealg.MaxLen"], apart := false }
def FnExactPoolCheckSaid : Prop := fnExactPoolCheckRow.holds Try.pinned (OpenSpec.ofChange fnExactPoolCheckSpec)

/-- ITS FALSE NEIGHBOUR: 'it returns false'. Refute it at one input. -/
def fnExactPoolCheckWrong : ChangeSpec := { name := "fnExactPoolCheck", fn := fun _ => fun
  | [d] => { results := [.lit (.bool false)], args := [d] }
  | _ => none }
def FnExactPoolCheckWrongFalsely : Prop := fnExactPoolCheckRow.holds Try.pinned (OpenSpec.ofChange fnExactPoolCheckWrong)

/- THE SECOND FORM. 'bulk': how many values and letters a reading holds, each counted each time it is reached (what is shared counts as often as it is met; a slice's spare places count too). A statement '..UptoSaid' is the law's where the arguments, and the package variables that the reading takes, are together of bulk at most 1048576: NARROWER than '..Said'. Prove '..Said' where nothing that the law and all that it calls make is longer than what came in: it says more and counts as full. Else prove '..UptoSaid'. A law counts once. -/
mutual
def uptoBulk {H : Type} : DataW H → Nat
  | .lit (.string bytes) => bytes.length + 1
  | .lit _ => 1
  | .nil => 1
  | .ptr d => uptoBulk d + 1
  | .slice elems spare => uptoBulkAll elems + uptoBulkAll spare + 1
  | .agg parts => uptoBulkAll parts + 1
  | .iface _ d => uptoBulk d + 1
  | .map entries => uptoBulkEntries entries + 1
  | .held _ => 1
def uptoBulkAll {H : Type} : List (DataW H) → Nat
  | [] => 0
  | d :: r => uptoBulk d + uptoBulkAll r
def uptoBulkEntries {H : Type} : List (Lit × DataW H) → Nat
  | [] => 0
  | x :: r => uptoBulkEntry x + uptoBulkEntries r
def uptoBulkEntry {H : Type} : Lit × DataW H → Nat
  | (.string bytes, d) => bytes.length + uptoBulk d + 1
  | (_, d) => uptoBulk d + 1
 end
def uptoSmall : (H : Type) → List (DataW H) → Bool := fun _ ds => decide (uptoBulkAll ds ≤ 1048576)
def OpenSpec.upto (s : _root_.Go.ChangeSpec) : _root_.Go.OpenSpec := { _root_.Go.OpenSpec.ofChange s with cond := some uptoSmall }

/-- 'laws.FnExactConstants', WHERE WHAT IT READS IS OF BULK AT MOST 1048576: true; the input reads as it did. -/
def fnExactConstantsUptoRow : OpenClaim := { program := "ytohkcloiokhglaa", sum := "19e3bd460489d4948896efef7e0575ff53cd00f8269b392ee3b85537ce96aef7", func := "loop.example/stowage/laws.FnExactConstants", spec := "fnExactConstants", apart := false, narrowed := true }
def FnExactConstantsUptoSaid : Prop := fnExactConstantsUptoRow.holds Try.pinned (OpenSpec.upto fnExactConstantsSpec)

/-- 'laws.FnExactNameOk', WHERE WHAT IT READS IS OF BULK AT MOST 1048576: true; the input reads as it did. -/
def fnExactNameOkUptoRow : OpenClaim := { program := "ytohkcloiokhglaa", sum := "19e3bd460489d4948896efef7e0575ff53cd00f8269b392ee3b85537ce96aef7", func := "loop.example/stowage/laws.FnExactNameOk", spec := "fnExactNameOk", apart := false, narrowed := true }
def FnExactNameOkUptoSaid : Prop := fnExactNameOkUptoRow.holds Try.pinned (OpenSpec.upto fnExactNameOkSpec)

/-- 'laws.FnExactTypeOk', WHERE WHAT IT READS IS OF BULK AT MOST 1048576: true; the input reads as it did. -/
def fnExactTypeOkUptoRow : OpenClaim := { program := "ytohkcloiokhglaa", sum := "19e3bd460489d4948896efef7e0575ff53cd00f8269b392ee3b85537ce96aef7", func := "loop.example/stowage/laws.FnExactTypeOk", spec := "fnExactTypeOk", apart := false, narrowed := true }
def FnExactTypeOkUptoSaid : Prop := fnExactTypeOkUptoRow.holds Try.pinned (OpenSpec.upto fnExactTypeOkSpec)

/-- 'laws.FnExactOpsGet', WHERE WHAT IT READS IS OF BULK AT MOST 1048576: true; the input reads as it did. -/
def fnExactOpsGetUptoRow : OpenClaim := { program := "ytohkcloiokhglaa", sum := "19e3bd460489d4948896efef7e0575ff53cd00f8269b392ee3b85537ce96aef7", func := "loop.example/stowage/laws.FnExactOpsGet", spec := "fnExactOpsGet", apart := false, narrowed := true }
def FnExactOpsGetUptoSaid : Prop := fnExactOpsGetUptoRow.holds Try.pinned (OpenSpec.upto fnExactOpsGetSpec)

/-- 'laws.FnExactTraceMost', WHERE WHAT IT READS IS OF BULK AT MOST 1048576: true; the input reads as it did. -/
def fnExactTraceMostUptoRow : OpenClaim := { program := "ytohkcloiokhglaa", sum := "19e3bd460489d4948896efef7e0575ff53cd00f8269b392ee3b85537ce96aef7", func := "loop.example/stowage/laws.FnExactTraceMost", spec := "fnExactTraceMost", apart := false, narrowed := true }
def FnExactTraceMostUptoSaid : Prop := fnExactTraceMostUptoRow.holds Try.pinned (OpenSpec.upto fnExactTraceMostSpec)

/-- 'laws.FnExactOpsPut', WHERE WHAT IT READS IS OF BULK AT MOST 1048576: true; the input reads as it did. -/
def fnExactOpsPutUptoRow : OpenClaim := { program := "ytohkcloiokhglaa", sum := "19e3bd460489d4948896efef7e0575ff53cd00f8269b392ee3b85537ce96aef7", func := "loop.example/stowage/laws.FnExactOpsPut", spec := "fnExactOpsPut", apart := false, narrowed := true }
def FnExactOpsPutUptoSaid : Prop := fnExactOpsPutUptoRow.holds Try.pinned (OpenSpec.upto fnExactOpsPutSpec)

/-- 'laws.FnName', WHERE WHAT IT READS IS OF BULK AT MOST 1048576: true; the input reads as it did. -/
def fnNameUptoRow : OpenClaim := { program := "ytohkcloiokhglaa", sum := "19e3bd460489d4948896efef7e0575ff53cd00f8269b392ee3b85537ce96aef7", func := "loop.example/stowage/laws.FnName", spec := "fnName", inPlace := ["internal/bytealg.IndexByteString", "internal/bytealg.IndexString"], named := ["internal/bytealg.MaxLen"], apart := false, narrowed := true }
def FnNameUptoSaid : Prop := fnNameUptoRow.holds Try.pinned (OpenSpec.upto fnNameSpec)

/-- 'laws.FnExactDescOf', WHERE WHAT IT READS IS OF BULK AT MOST 1048576: true; the input reads as it did. -/
def fnExactDescOfUptoRow : OpenClaim := { program := "ytohkcloiokhglaa", sum := "19e3bd460489d4948896efef7e0575ff53cd00f8269b392ee3b85537ce96aef7", func := "loop.example/stowage/laws.FnExactDescOf", spec := "fnExactDescOf", inPlace := ["internal/bytealg.IndexByteString", "internal/bytealg.IndexString"], named := ["internal/bytealg.MaxLen"], apart := false, narrowed := true }
def FnExactDescOfUptoSaid : Prop := fnExactDescOfUptoRow.holds Try.pinned (OpenSpec.upto fnExactDescOfSpec)

/-- 'laws.FnDesc', WHERE WHAT IT READS IS OF BULK AT MOST 1048576: true; the input reads as it did. -/
def fnDescUptoRow : OpenClaim := { program := "ytohkcloiokhglaa", sum := "19e3bd460489d4948896efef7e0575ff53cd00f8269b392ee3b85537ce96aef7", func := "loop.example/stowage/laws.FnDesc", spec := "fnDesc", inPlace := ["internal/bytealg.IndexByteString", "internal/bytealg.IndexString"], named := ["internal/bytealg.MaxLen"], apart := false, narrowed := true }
def FnDescUptoSaid : Prop := fnDescUptoRow.holds Try.pinned (OpenSpec.upto fnDescSpec)

/-- 'laws.FnExactPathMaker', WHERE WHAT IT READS IS OF BULK AT MOST 1048576: true; the input reads as it did. -/
def fnExactPathMakerUptoRow : OpenClaim := { program := "ytohkcloiokhglaa", sum := "19e3bd460489d4948896efef7e0575ff53cd00f8269b392ee3b85537ce96aef7", func := "loop.example/stowage/laws.FnExactPathMaker", spec := "fnExactPathMaker", unfollowed := true, recurses := true, apart := false, narrowed := true }
def FnExactPathMakerUptoSaid : Prop := fnExactPathMakerUptoRow.holds Try.pinned (OpenSpec.upto fnExactPathMakerSpec)

/-- 'laws.FnExactPathSame', WHERE WHAT IT READS IS OF BULK AT MOST 1048576: true; the input reads as it did. -/
def fnExactPathSameUptoRow : OpenClaim := { program := "ytohkcloiokhglaa", sum := "19e3bd460489d4948896efef7e0575ff53cd00f8269b392ee3b85537ce96aef7", func := "loop.example/stowage/laws.FnExactPathSame", spec := "fnExactPathSame", unfollowed := true, recurses := true, apart := false, narrowed := true }
def FnExactPathSameUptoSaid : Prop := fnExactPathSameUptoRow.holds Try.pinned (OpenSpec.upto fnExactPathSameSpec)

/-- 'laws.FnExactPoolCheck', WHERE WHAT IT READS IS OF BULK AT MOST 1048576: true; the input reads as it did. -/
def fnExactPoolCheckUptoRow : OpenClaim := { program := "ytohkcloiokhglaa", sum := "19e3bd460489d4948896efef7e0575ff53cd00f8269b392ee3b85537ce96aef7", func := "loop.example/stowage/laws.FnExactPoolCheck", spec := "fnExactPoolCheck", inPlace := ["internal/bytealg.IndexByteString", "internal/bytealg.IndexString"], unfollowed := true, recurses := true, named := ["internal/bytealg.MaxLen"], apart := false, narrowed := true }
def FnExactPoolCheckUptoSaid : Prop := fnExactPoolCheckUptoRow.holds Try.pinned (OpenSpec.upto fnExactPoolCheckSpec)

end Rows
end Go.Proofs.Ytohkcloiokhglaa
