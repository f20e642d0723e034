/- Contracts: VotesOk of the program and of the reference. -/
import Derived.Deep.QuietTactic
import Derived.BigQuiet
import Derived.Test.YtdhmhgjjppeodaaGreatDoorBdC1x9
import Derived.Test.YtdhmhgjjppeodaaGreatDoorBdI7x12
namespace Go.Proofs.YtdhmhgjjppeodaaGreatDoor
open Go.RowKit
end Go.Proofs.YtdhmhgjjppeodaaGreatDoor
