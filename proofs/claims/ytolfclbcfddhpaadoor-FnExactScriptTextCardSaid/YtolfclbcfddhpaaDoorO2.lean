/- The records of the laws, opened. -/
import Derived.Test.YtolfclbcfddhpaaDoorO1
import Derived.Test.YtolfclbcfddhpaaDoorBdRActx2
namespace Go.Proofs.YtolfclbcfddhpaaDoor
open Go.ChangeShapes Go.WideShapes Go.ChangeAt Go.RowKit Go.Deep
theorem tryOwn : ownKnob Tryd.prog.godebug = none := by kernel_rfl
theorem tryLaid : laidOutB Tryd.prog = true := by kernel_rfl
section
variable {H : Type} {enc : TypeId × Value → H} {W : World} {held : Bool}
theorem opens_lawsAct : Opens enc Tryd.prog W held 23 cAct (fun p => I64 p.1 ∧ I64 p.2.1 ∧ I64 p.2.2) :=
 opens_struct3 (f := cInt) (g := cInt) (k := cInt) (c0 := 1) (c1 := 1) (c2 := 1) Tryd.underlying23 ⟨rfl, rfl, rfl⟩ ⟨by kernel_rfl, by kernel_rfl, by kernel_rfl⟩ (by kernel_rfl) (opens_int Tryd.underlying3) (opens_int Tryd.underlying3) (opens_int Tryd.underlying3)
end
end Go.Proofs.YtolfclbcfddhpaaDoor
