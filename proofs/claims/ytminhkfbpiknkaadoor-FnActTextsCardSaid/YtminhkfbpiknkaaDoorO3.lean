/- The structs of the laws, opened. -/
import Derived.Test.YtminhkfbpiknkaaDoorO1
namespace Go.Proofs.YtminhkfbpiknkaaDoor
open Go.ChangeShapes Go.WideShapes Go.ChangeAt Go.RowKit Go.Deep
theorem tryOwn : ownKnob Tryd.prog.godebug = none := by kernel_rfl
theorem tryLaid : laidOutB Tryd.prog = true := by kernel_rfl
section
variable {H : Type} {enc : TypeId × Value → H} {W : World} {held : Bool}
end
end Go.Proofs.YtminhkfbpiknkaaDoor
