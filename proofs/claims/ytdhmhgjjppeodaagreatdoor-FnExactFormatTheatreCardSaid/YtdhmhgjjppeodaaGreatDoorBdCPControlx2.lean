/- Several texts in one: Contracts: copies of Control. Written by a program (gen_copy.py). Players, one more behind the others. -/
import Derived.Test.YtdhmhgjjppeodaaGreatDoorKC
import Derived.Test.YtdhmhgjjppeodaaGreatDoorBdM7x3
import Derived.Test.YtdhmhgjjppeodaaGreatDoorBdI7x12
namespace Go.Proofs.YtdhmhgjjppeodaaGreatDoor
open Go.RowKit
open Go.RowKit
end Go.Proofs.YtdhmhgjjppeodaaGreatDoor
