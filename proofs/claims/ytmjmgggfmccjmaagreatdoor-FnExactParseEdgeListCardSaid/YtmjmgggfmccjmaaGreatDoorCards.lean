/-
  DERIVED. GIVEN WITH THE SEED: THE CARDS: each row of YtmjmgggfmccjmaaGreatDoorRows.lean that lists a variable, with what it lists TIED to the program's text (the seventh form; the later family's looks); each row that meets fmt, with fmt's text TOLD by the authors' own Lean function (tested against real Go, not proved from fmt's source: count such statements apart). THE CARD IS WHAT COUNTS. Prove the row's statement (the work); the ties are given (YtmjmgggfmccjmaaGreatDoorTie.lean); close each card by the builder's one call (the guide's Derived/Test/ToyasCard.lean, 'card_holds'). Laid BY PROGRAM, IN A SANDBOX (cutbox-door.mjs). By AI agents, Wed Nov 11 2026. No macro, syntax, notation, axiom, sorry.
-/
import Derived.Test.YtmjmgggfmccjmaaGreatDoorRows
import GoSem.ClaimSeven
namespace Go.Proofs.YtmjmgggfmccjmaaGreatDoor
namespace Rows

/-- THE TIED CARD OF 'laws.FnExactParseEdgeList'. -/
def fnExactParseEdgeListCard : Claim7 := { stood := { row := fnExactParseEdgeListRow, standIns := [], harness := (true, "1216483d0cae72c8fcd1623914c74117bf871a3d4167a02f846a40cada7e41e8"), looks := true }, kinds := [], alts := [], laidByText := true, laidKinds := [.data, .data, .data, .data, .sentinel, .sentinel, .pinned], laidTests := true, laidLooks := .later }
def FnExactParseEdgeListCardSaid : Prop := Claim7.holds Tryz.pinned (.plain (OpenSpec.ofChange fnExactParseEdgeListSpec)) fnExactParseEdgeListCard

/-- THE SECOND FORM's CARD OF 'laws.FnExactParseEdgeList'. -/
def fnExactParseEdgeListUptoCard : Claim7 := { stood := { row := fnExactParseEdgeListUptoRow, standIns := [], harness := (true, "1216483d0cae72c8fcd1623914c74117bf871a3d4167a02f846a40cada7e41e8"), looks := true }, kinds := [], alts := [], laidByText := true, laidKinds := [.data, .data, .data, .data, .sentinel, .sentinel, .pinned], laidTests := true, laidLooks := .later }
def FnExactParseEdgeListUptoCardSaid : Prop := Claim7.holds Tryz.pinned (.plain (OpenSpec.upto fnExactParseEdgeListSpec)) fnExactParseEdgeListUptoCard
end Rows
end Go.Proofs.YtmjmgggfmccjmaaGreatDoor
