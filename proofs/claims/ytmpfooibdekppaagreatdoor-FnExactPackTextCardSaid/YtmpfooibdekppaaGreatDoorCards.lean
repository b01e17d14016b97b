/-
  DERIVED. GIVEN WITH THE SEED: THE CARDS: each row of YtmpfooibdekppaaGreatDoorRows.lean that lists a variable, with what it lists TIED to the program's text (the seventh form; the later family's looks); each row that meets fmt, with fmt's text TOLD by the authors' own Lean function (tested against real Go, not proved from fmt's source: count such statements apart). THE CARD IS WHAT COUNTS. Prove the row's statement (the work); the ties are given (YtmpfooibdekppaaGreatDoorTie.lean); close each card by the builder's one call (the guide's Derived/Test/ToyasCard.lean, 'card_holds'). Laid BY PROGRAM, IN A SANDBOX (cutbox-door.mjs). By AI agents, Wed Nov 11 2026. No macro, syntax, notation, axiom, sorry.
-/
import Derived.Test.YtmpfooibdekppaaGreatDoorRows
import GoSem.ClaimSeven
namespace Go.Proofs.YtmpfooibdekppaaGreatDoor
namespace Rows

/-- THE TIED CARD OF 'laws.FnExactPackText'. -/
def fnExactPackTextCard : Claim7 := { stood := { row := fnExactPackTextRow, standIns := [], harness := (true, "f0ecd2475185c362c4c80e22664121f8fb0ca5ed3a87aac139bd06352bc7c115"), looks := false }, kinds := [], alts := [], laidByText := true, laidKinds := [.data, .data, .data], laidTests := true, laidLooks := .later }
def FnExactPackTextCardSaid : Prop := Claim7.holds Tryz.pinned (.plain (OpenSpec.ofChange fnExactPackTextSpec)) fnExactPackTextCard

/-- THE SECOND FORM's CARD OF 'laws.FnExactPackText'. -/
def fnExactPackTextUptoCard : Claim7 := { stood := { row := fnExactPackTextUptoRow, standIns := [], harness := (true, "f0ecd2475185c362c4c80e22664121f8fb0ca5ed3a87aac139bd06352bc7c115"), looks := false }, kinds := [], alts := [], laidByText := true, laidKinds := [.data, .data, .data], laidTests := true, laidLooks := .later }
def FnExactPackTextUptoCardSaid : Prop := Claim7.holds Tryz.pinned (.plain (OpenSpec.upto fnExactPackTextSpec)) fnExactPackTextUptoCard
end Rows
end Go.Proofs.YtmpfooibdekppaaGreatDoor
