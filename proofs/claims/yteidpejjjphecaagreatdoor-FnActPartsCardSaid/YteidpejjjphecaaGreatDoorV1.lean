/- Contracts: VotesOk of the program and of the reference. -/
import Derived.Deep.QuietTactic
import Derived.BigQuiet
import Derived.Test.YteidpejjjphecaaGreatDoorBdC1x9
import Derived.Test.YteidpejjjphecaaGreatDoorBdI7x14
namespace Go.Proofs.YteidpejjjphecaaGreatDoor
open Go.RowKit
end Go.Proofs.YteidpejjjphecaaGreatDoor
