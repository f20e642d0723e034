/- Contracts: VotesOk of the program and of the reference. -/
import Derived.Deep.QuietTactic
import Derived.BigQuiet
import Derived.Test.YtlhdeojkpmpecaaGreatBdC1x8
import Derived.Test.YtlhdeojkpmpecaaGreatBdI7x12
namespace Go.Proofs.YtlhdeojkpmpecaaGreat
open Go.RowKit
end Go.Proofs.YtlhdeojkpmpecaaGreat
