/- What the listed variables of the library hold: the table of powers of ten. -/
import Derived.Test.YteidpejjjphecaaGreatDoorRows
import Derived.Lib.LaidTab
import Derived.Stop.LaidErr
import Derived.Test.YteidpejjjphecaaGreatDoorH5
namespace Go.Proofs.YteidpejjjphecaaGreatDoor
open Go.RowKit
theorem tab3 {a b : String × DataW Unit} {r : List (String × DataW Unit)} {W : World} (h : laidMet Tryz.prog (a :: b :: ("internal/strconv.uint64pow10", Rows.laid_internal_strconv_uint64pow10) :: r) W) : TabOk W := by
 have h2 := h.tail.tail
 have e : (Rows.laid_internal_strconv_uint64pow10 : DataW Unit) = Lib.tabData .u64 Lib.pow10Tab := by kernel_rfl
 rw [e] at h2
 exact Lib.tabIs_of_head (g := 1) (t := 141) (e := 133) (n := 20) (by kernel_rfl) (by kernel_rfl) Tryz.underlying141 Tryz.underlying133 (by kernel_rfl) (by kernel_rfl) h2
end Go.Proofs.YteidpejjjphecaaGreatDoor
