/- Contracts: copyOf. -/
import Derived.Test.YtminhkfbpiknkaaDoorBdC1x3
import Derived.Test.YtminhkfbpiknkaaDoorBdM5x2
namespace Go.Proofs.YtminhkfbpiknkaaDoor
open Go.RowKit
end Go.Proofs.YtminhkfbpiknkaaDoor
