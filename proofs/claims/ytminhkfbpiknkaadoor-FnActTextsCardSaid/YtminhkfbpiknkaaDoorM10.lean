/- A number put into a row: what the region of 'append(append(append([]int{}, x[:at]...), k), x[at:]...)' yields. Over any program. Written by a program (gen_ins.py). -/
import Derived.Test.YtminhkfbpiknkaaDoorBdM9x2
import Derived.Test.YtminhkfbpiknkaaDoorBdM7x2
namespace Go.Proofs.YtminhkfbpiknkaaDoor
open Go.RowKit
end Go.Proofs.YtminhkfbpiknkaaDoor
