/- Contracts of the laws' helpers for records Limb. Written by a program (gen_rec.py). -/
import Derived.Test.YtkejgogheonakaaM2
import Derived.StillTailTactics
import Derived.BigQuiet
namespace Go.Proofs.Ytkejgogheonakaa
open Go.RowKit

abbrev RLimb := Int × Int × Int
def cLimb (t : RLimb) : List Value := [.int .i64 t.1, .int .i64 t.2.1, .int .i64 t.2.2]
theorem cLimb_len (a : RLimb) : (cLimb a).length = 3 := rfl
def mkLimb (k : Int) : List Value := [.int .i64 k, .int .i64 (k + 1), .int .i64 (k + 2)]
theorem mkLimb_len (k : Int) : (mkLimb k).length = 3 := rfl
theorem infoLimb : (Try.prog.info? 112).map (fun i => (i.zero, i.size, i.bytes)) = some (some (.agg #[.int .i64 0, .int .i64 0, .int .i64 0]), 3, 24) := by kernel_rfl
end Go.Proofs.Ytkejgogheonakaa
