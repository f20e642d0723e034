/- The records of the laws, opened. -/
import Derived.Test.YtghjjaijmlkbdaaO1
import Derived.Test.YtghjjaijmlkbdaaRThread
import Derived.Test.YtghjjaijmlkbdaaRAct
namespace Go.Proofs.Ytghjjaijmlkbdaa
open Go.ChangeShapes Go.WideShapes Go.ChangeAt Go.RowKit Go.Deep
theorem tryOwn : ownKnob Try.prog.godebug = none := by kernel_rfl
theorem tryLaid : laidOutB Try.prog = true := by kernel_rfl
section
variable {H : Type} {enc : TypeId × Value → H} {W : World} {held : Bool}
theorem opens_lawsAct : Opens enc Try.prog W held 31 cAct (fun p => I64 p.1 ∧ I64 p.2.1 ∧ I64 p.2.2) :=
  opens_struct3 (f := cInt) (g := cInt) (k := cInt) (c0 := 1) (c1 := 1) (c2 := 1) Try.underlying31 ⟨rfl, rfl, rfl⟩ ⟨by kernel_rfl, by kernel_rfl, by kernel_rfl⟩ (by kernel_rfl) (opens_int Try.underlying3) (opens_int Try.underlying3) (opens_int Try.underlying3)
theorem opens_lawsThread : Opens enc Try.prog W held 23 cThread (fun p => I64 p.1 ∧ I64 p.2) :=
  opens_struct2 (f := cInt) (g := cInt) (c0 := 1) (c1 := 1) Try.underlying23 ⟨rfl, rfl⟩ ⟨by kernel_rfl, by kernel_rfl⟩ (by kernel_rfl) (opens_int Try.underlying3) (opens_int Try.underlying3)
end
end Go.Proofs.Ytghjjaijmlkbdaa
