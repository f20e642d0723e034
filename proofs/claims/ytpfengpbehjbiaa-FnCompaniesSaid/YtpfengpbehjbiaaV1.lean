/- Contracts: VotesOk of the program and of the reference. -/
import Derived.Deep.QuietTactic
import Derived.BigQuiet
import Derived.Test.YtpfengpbehjbiaaBdC1x8
import Derived.Test.YtpfengpbehjbiaaBdI7x10
namespace Go.Proofs.Ytpfengpbehjbiaa
open Go.RowKit
end Go.Proofs.Ytpfengpbehjbiaa
