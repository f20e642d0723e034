/- Contracts: VotesOk of the program and of the reference. -/
import Derived.Deep.QuietTactic
import Derived.Test.YtkbacoadejglkaaGreatDoorBdI7x12
namespace Go.Proofs.YtkbacoadejglkaaGreatDoor
open Go.RowKit
end Go.Proofs.YtkbacoadejglkaaGreatDoor
