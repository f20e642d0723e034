/- The structs of the laws, opened. -/
import Derived.Test.YtlhdeojkpmpecaaGreatO1
import Derived.Test.YtlhdeojkpmpecaaGreatBdI7x14
namespace Go.Proofs.YtlhdeojkpmpecaaGreat
open Go.ChangeShapes Go.WideShapes Go.ChangeAt Go.RowKit Go.Deep
theorem tryOwn : ownKnob Tryz.prog.godebug = none := by kernel_rfl
theorem tryLaid : laidOutB Tryz.prog = true := by kernel_rfl
section
variable {H : Type} {enc : TypeId × Value → H} {W : World} {held : Bool}
end
end Go.Proofs.YtlhdeojkpmpecaaGreat
