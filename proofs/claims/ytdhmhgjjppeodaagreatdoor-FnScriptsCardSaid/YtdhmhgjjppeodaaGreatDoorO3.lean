/- The structs of the laws, opened. -/
import Derived.Test.YtdhmhgjjppeodaaGreatDoorO1
import Derived.Test.YtdhmhgjjppeodaaGreatDoorBdI7x12
namespace Go.Proofs.YtdhmhgjjppeodaaGreatDoor
open Go.ChangeShapes Go.WideShapes Go.ChangeAt Go.RowKit Go.Deep
theorem tryOwn : ownKnob Tryz.prog.godebug = none := by kernel_rfl
theorem tryLaid : laidOutB Tryz.prog = true := by kernel_rfl
section
variable {H : Type} {enc : TypeId × Value → H} {W : World} {held : Bool}
end
end Go.Proofs.YtdhmhgjjppeodaaGreatDoor
