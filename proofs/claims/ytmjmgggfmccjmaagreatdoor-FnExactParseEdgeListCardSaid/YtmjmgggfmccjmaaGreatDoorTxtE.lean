/- An end's text: spec.txEnd. -/
import Derived.Test.YtmjmgggfmccjmaaGreatDoorTxt
import Derived.Deep.RegionHeld3
import Derived.Deep.DeepCutAuto
namespace Go.Proofs.YtmjmgggfmccjmaaGreatDoor
open Go.RowKit
set_option linter.unusedVariables false
set_option linter.unusedSimpArgs false
end Go.Proofs.YtmjmgggfmccjmaaGreatDoor
