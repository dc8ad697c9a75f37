/-
  DERIVED. GIVEN WITH THE SEED: THE CARDS: each row of YtmjmgggfmccjmaaDoorRows.lean that lists a variable, with what it lists TIED to the program's text (the seventh form; the later family's looks); each row that meets fmt, with fmt's text TOLD by the authors' own Lean function (tested against real Go, not proved from fmt's source: count such statements apart). THE CARD IS WHAT COUNTS. Prove the row's statement (the work); the ties are given (YtmjmgggfmccjmaaDoorTie.lean); close each card by the builder's one call (the guide's Derived/Test/ToyasCard.lean, 'card_holds'). Laid BY PROGRAM, IN A SANDBOX (cutbox-door.mjs). By AI agents, Wed Nov 11 2026. No macro, syntax, notation, axiom, sorry.
-/
import Derived.Test.YtmjmgggfmccjmaaDoorRows
import GoSem.ClaimSeven
namespace Go.Proofs.YtmjmgggfmccjmaaDoor
namespace Rows

/-- THE TIED CARD OF 'laws.FnExactNetworkText'. -/
def fnExactNetworkTextCard : Claim7 := { stood := { row := fnExactNetworkTextRow, standIns := [], harness := (true, "8cf94a1c19e357e438973f9c8be897ccb1ca92d6956d2b00541eef0570010911"), looks := true }, kinds := [], alts := [], laidByText := true, laidKinds := [.data, .data, .data], laidTests := true, laidLooks := .later }
def FnExactNetworkTextCardSaid : Prop := Claim7.holds Tryd.pinned (.plain (OpenSpec.ofChange fnExactNetworkTextSpec)) fnExactNetworkTextCard

/-- THE TIED CARD OF 'laws.FnExactParseLabeling'. -/
def fnExactParseLabelingCard : Claim7 := { stood := { row := fnExactParseLabelingRow, standIns := [], harness := (true, "8cf94a1c19e357e438973f9c8be897ccb1ca92d6956d2b00541eef0570010911"), looks := true }, kinds := [], alts := [], laidByText := true, laidKinds := [.data, .data, .data, .data, .sentinel, .sentinel, .pinned], laidTests := true, laidLooks := .later }
def FnExactParseLabelingCardSaid : Prop := Claim7.holds Tryd.pinned (.plain (OpenSpec.ofChange fnExactParseLabelingSpec)) fnExactParseLabelingCard

/-- THE TIED CARD OF 'laws.FnExactPortText'. -/
def fnExactPortTextCard : Claim7 := { stood := { row := fnExactPortTextRow, standIns := [], harness := (true, "8cf94a1c19e357e438973f9c8be897ccb1ca92d6956d2b00541eef0570010911"), looks := true }, kinds := [], alts := [], laidByText := true, laidKinds := [.data, .data, .data], laidTests := true, laidLooks := .later }
def FnExactPortTextCardSaid : Prop := Claim7.holds Tryd.pinned (.plain (OpenSpec.ofChange fnExactPortTextSpec)) fnExactPortTextCard

/-- THE TIED CARD OF 'laws.FnExactLabelingText'. -/
def fnExactLabelingTextCard : Claim7 := { stood := { row := fnExactLabelingTextRow, standIns := [], harness := (true, "8cf94a1c19e357e438973f9c8be897ccb1ca92d6956d2b00541eef0570010911"), looks := true }, kinds := [], alts := [], laidByText := true, laidKinds := [.data, .data, .data], laidTests := true, laidLooks := .later }
def FnExactLabelingTextCardSaid : Prop := Claim7.holds Tryd.pinned (.plain (OpenSpec.ofChange fnExactLabelingTextSpec)) fnExactLabelingTextCard

/-- THE TIED CARD OF 'laws.FnExactParsePort'. -/
def fnExactParsePortCard : Claim7 := { stood := { row := fnExactParsePortRow, standIns := [], harness := (true, "8cf94a1c19e357e438973f9c8be897ccb1ca92d6956d2b00541eef0570010911"), looks := true }, kinds := [], alts := [], laidByText := true, laidKinds := [.data, .data, .data, .sentinel, .sentinel], laidTests := true, laidLooks := .later }
def FnExactParsePortCardSaid : Prop := Claim7.holds Tryd.pinned (.plain (OpenSpec.ofChange fnExactParsePortSpec)) fnExactParsePortCard

/-- THE TIED CARD OF 'laws.FnExactEdgeListText'. -/
def fnExactEdgeListTextCard : Claim7 := { stood := { row := fnExactEdgeListTextRow, standIns := [], harness := (true, "8cf94a1c19e357e438973f9c8be897ccb1ca92d6956d2b00541eef0570010911"), looks := true }, kinds := [], alts := [], laidByText := true, laidKinds := [.data, .data, .data], laidTests := true, laidLooks := .later }
def FnExactEdgeListTextCardSaid : Prop := Claim7.holds Tryd.pinned (.plain (OpenSpec.ofChange fnExactEdgeListTextSpec)) fnExactEdgeListTextCard

/-- THE SECOND FORM's CARD OF 'laws.FnExactNetworkText'. -/
def fnExactNetworkTextUptoCard : Claim7 := { stood := { row := fnExactNetworkTextUptoRow, standIns := [], harness := (true, "8cf94a1c19e357e438973f9c8be897ccb1ca92d6956d2b00541eef0570010911"), looks := true }, kinds := [], alts := [], laidByText := true, laidKinds := [.data, .data, .data], laidTests := true, laidLooks := .later }
def FnExactNetworkTextUptoCardSaid : Prop := Claim7.holds Tryd.pinned (.plain (OpenSpec.upto fnExactNetworkTextSpec)) fnExactNetworkTextUptoCard

/-- THE SECOND FORM's CARD OF 'laws.FnExactParseLabeling'. -/
def fnExactParseLabelingUptoCard : Claim7 := { stood := { row := fnExactParseLabelingUptoRow, standIns := [], harness := (true, "8cf94a1c19e357e438973f9c8be897ccb1ca92d6956d2b00541eef0570010911"), looks := true }, kinds := [], alts := [], laidByText := true, laidKinds := [.data, .data, .data, .data, .sentinel, .sentinel, .pinned], laidTests := true, laidLooks := .later }
def FnExactParseLabelingUptoCardSaid : Prop := Claim7.holds Tryd.pinned (.plain (OpenSpec.upto fnExactParseLabelingSpec)) fnExactParseLabelingUptoCard

/-- THE SECOND FORM's CARD OF 'laws.FnExactPortText'. -/
def fnExactPortTextUptoCard : Claim7 := { stood := { row := fnExactPortTextUptoRow, standIns := [], harness := (true, "8cf94a1c19e357e438973f9c8be897ccb1ca92d6956d2b00541eef0570010911"), looks := true }, kinds := [], alts := [], laidByText := true, laidKinds := [.data, .data, .data], laidTests := true, laidLooks := .later }
def FnExactPortTextUptoCardSaid : Prop := Claim7.holds Tryd.pinned (.plain (OpenSpec.upto fnExactPortTextSpec)) fnExactPortTextUptoCard

/-- THE SECOND FORM's CARD OF 'laws.FnExactLabelingText'. -/
def fnExactLabelingTextUptoCard : Claim7 := { stood := { row := fnExactLabelingTextUptoRow, standIns := [], harness := (true, "8cf94a1c19e357e438973f9c8be897ccb1ca92d6956d2b00541eef0570010911"), looks := true }, kinds := [], alts := [], laidByText := true, laidKinds := [.data, .data, .data], laidTests := true, laidLooks := .later }
def FnExactLabelingTextUptoCardSaid : Prop := Claim7.holds Tryd.pinned (.plain (OpenSpec.upto fnExactLabelingTextSpec)) fnExactLabelingTextUptoCard

/-- THE SECOND FORM's CARD OF 'laws.FnExactParsePort'. -/
def fnExactParsePortUptoCard : Claim7 := { stood := { row := fnExactParsePortUptoRow, standIns := [], harness := (true, "8cf94a1c19e357e438973f9c8be897ccb1ca92d6956d2b00541eef0570010911"), looks := true }, kinds := [], alts := [], laidByText := true, laidKinds := [.data, .data, .data, .sentinel, .sentinel], laidTests := true, laidLooks := .later }
def FnExactParsePortUptoCardSaid : Prop := Claim7.holds Tryd.pinned (.plain (OpenSpec.upto fnExactParsePortSpec)) fnExactParsePortUptoCard

/-- THE SECOND FORM's CARD OF 'laws.FnExactEdgeListText'. -/
def fnExactEdgeListTextUptoCard : Claim7 := { stood := { row := fnExactEdgeListTextUptoRow, standIns := [], harness := (true, "8cf94a1c19e357e438973f9c8be897ccb1ca92d6956d2b00541eef0570010911"), looks := true }, kinds := [], alts := [], laidByText := true, laidKinds := [.data, .data, .data], laidTests := true, laidLooks := .later }
def FnExactEdgeListTextUptoCardSaid : Prop := Claim7.holds Tryd.pinned (.plain (OpenSpec.upto fnExactEdgeListTextSpec)) fnExactEdgeListTextUptoCard
end Rows
end Go.Proofs.YtmjmgggfmccjmaaDoor
