/- Lemmas and contracts that this claim's theorem rests on. Conditions: those that each states. -/
import Derived.ProofKit
import Derived.Deep.Slices
import Derived.Lib.SmallJoins
import Derived.Test.YtkbacoadejglkaaGreatDoorBdA1x8
namespace Go.Proofs.YtkbacoadejglkaaGreatDoor
open Go.ChangeShapes Go.WideShapes Go.ChangeAt Go.RowKit Go.Deep
section
variable {H : Type} {enc : TypeId × Value -> H} {P : Program} {W : World} {held : Bool}
end
theorem zzl : ownKnob Tryz.prog.godebug = none := by kernel_rfl
theorem zyl : laidOutB Tryz.prog = true := by kernel_rfl
section
variable {H : Type} {enc : TypeId × Value -> H} {W : World} {held : Bool}
end
end Go.Proofs.YtkbacoadejglkaaGreatDoor
