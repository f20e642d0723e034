/- Contracts of the laws' helpers for records Cord. Written by a program (gen_rec.py). -/
import Derived.Test.YtkejgogheonakaaM2
import Derived.StillTailTactics
import Derived.BigQuiet
namespace Go.Proofs.Ytkejgogheonakaa
open Go.RowKit

abbrev RCord := Int × Int × Int
def cCord (t : RCord) : List Value := [.int .i64 t.1, .int .i64 t.2.1, .int .i64 t.2.2]
theorem cCord_len (a : RCord) : (cCord a).length = 3 := rfl
def mkCord (k : Int) : List Value := [.int .i64 k, .int .i64 (k + 1), .int .i64 (k + 2)]
theorem mkCord_len (k : Int) : (mkCord k).length = 3 := rfl
theorem infoCord : (Try.prog.info? 106).map (fun i => (i.zero, i.size, i.bytes)) = some (some (.agg #[.int .i64 0, .int .i64 0, .int .i64 0]), 3, 24) := by kernel_rfl
end Go.Proofs.Ytkejgogheonakaa
