/- Contracts: slices of strings; LongestLine. -/
import Derived.BigQuiet
import Derived.Test.YtjbhlbcjljdjmaaBdA1x8
namespace Go.Proofs.Ytjbhlbcjljdjmaa
open Go.RowKit

def strsTot (l : List ByteArray) : Nat := l.length + (l.map ByteArray.size).sum
theorem strsTot_len {l : List ByteArray} (h : strsTot l ≤ 1048576) : l.length ≤ 1048576 := by unfold strsTot at h; omega
def longF (l : List ByteArray) : Nat := l.foldl (fun n s => max n s.size) 0
theorem infoString : (Try.prog.info? 9).map (fun i => (i.zero, i.size, i.bytes)) = some (some (.string ByteArray.empty), 1, 16) := by kernel_rfl

end Go.Proofs.Ytjbhlbcjljdjmaa
