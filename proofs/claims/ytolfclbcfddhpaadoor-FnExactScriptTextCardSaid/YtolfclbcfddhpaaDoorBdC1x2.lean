/- Several texts in one: Contracts: slices of strings; LongestLine. Contracts: words: areBytes, areWords, l36Ok. -/
import Derived.BigQuiet
import Derived.Test.YtolfclbcfddhpaaDoorBdA1x6
namespace Go.Proofs.YtolfclbcfddhpaaDoor
open Go.RowKit
theorem infoString : (Tryd.prog.info? 9).map (fun i => (i.zero, i.size, i.bytes)) = some (some (.string ByteArray.empty), 1, 16) := by kernel_rfl
open Go.RowKit
end Go.Proofs.YtolfclbcfddhpaaDoor
