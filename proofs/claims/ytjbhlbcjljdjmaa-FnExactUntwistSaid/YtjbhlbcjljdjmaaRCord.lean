/- Contracts of the laws' helpers for records Cord. Written by a program (gen_rec.py). -/
import Derived.Test.YtjbhlbcjljdjmaaM2
import Derived.StillTailTactics
import Derived.BigQuiet
namespace Go.Proofs.Ytjbhlbcjljdjmaa
open Go.RowKit

abbrev RCord := Int × Int × Int
def cCord (t : RCord) : List Value := [.int .i64 t.1, .int .i64 t.2.1, .int .i64 t.2.2]
theorem cCord_len (a : RCord) : (cCord a).length = 3 := rfl
def mkCord (k : Int) : List Value := [.int .i64 k, .int .i64 (k + 1), .int .i64 (k + 2)]
theorem mkCord_len (k : Int) : (mkCord k).length = 3 := rfl
end Go.Proofs.Ytjbhlbcjljdjmaa
