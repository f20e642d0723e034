/- The structs of the laws, opened. -/
import Derived.Test.YthponccjbbkhaaaO1
import Derived.Test.YthponccjbbkhaaaI8
import Derived.Test.YthponccjbbkhaaaSControl
import Derived.Test.YthponccjbbkhaaaSBody
namespace Go.Proofs.Ythponccjbbkhaaa
open Go.ChangeShapes Go.WideShapes Go.ChangeAt Go.RowKit Go.Deep
theorem tryOwn : ownKnob Try.prog.godebug = none := by kernel_rfl
theorem tryLaid : laidOutB Try.prog = true := by kernel_rfl
section
variable {H : Type} {enc : TypeId × Value → H} {W : World} {held : Bool}
theorem opens_ints : Opens enc Try.prog W held 24 (fun v : Value => [v]) (fun v => ∃ l : List Int, RdL cInt 1 W v l ∧ ∀ a ∈ l, I64 a) :=
  opens_slice (size := 1) Try.underlying24 (by kernel_rfl) (by omega) cInt_len (opens_int Try.underlying3)
theorem opens_lawsCord : Opens enc Try.prog W held 118 cCord (fun p => I64 p.1 ∧ I64 p.2.1 ∧ I64 p.2.2) :=
  opens_struct3 (f := cInt) (g := cInt) (k := cInt) (c0 := 1) (c1 := 1) (c2 := 1) Try.underlying118 ⟨rfl, rfl, rfl⟩ ⟨by kernel_rfl, by kernel_rfl, by kernel_rfl⟩ (by kernel_rfl) (opens_int Try.underlying3) (opens_int Try.underlying3) (opens_int Try.underlying3)
theorem opens_lawsControl : Opens enc Try.prog W held 52 (fun p : Int × Value × Value => cInt p.1 ++ ([p.2.1] ++ [p.2.2])) (fun p => I64 p.1 ∧ (∃ l : List Int, RdL cInt 1 W p.2.1 l ∧ ∀ a ∈ l, I64 a) ∧ (∃ l : List RCord, RdL cCord 3 W p.2.2 l ∧ ∀ p ∈ l, I64 p.1 ∧ I64 p.2.1 ∧ I64 p.2.2)) :=
  opens_struct3 (f := cInt) (g := fun v : Value => [v]) (k := fun v : Value => [v]) (c0 := 1) (c1 := 1) (c2 := 1) Try.underlying52 ⟨rfl, rfl, rfl⟩ ⟨by kernel_rfl, by kernel_rfl, by kernel_rfl⟩ (by kernel_rfl) (opens_int Try.underlying3) opens_ints
    (opens_slice (size := 3) Try.underlying50 (by kernel_rfl) (by omega) cCord_len opens_lawsCord)
theorem opens_lawsLimb : Opens enc Try.prog W held 121 cLimb (fun p => I64 p.1 ∧ I64 p.2.1 ∧ I64 p.2.2) :=
  opens_struct3 (f := cInt) (g := cInt) (k := cInt) (c0 := 1) (c1 := 1) (c2 := 1) Try.underlying121 ⟨rfl, rfl, rfl⟩ ⟨by kernel_rfl, by kernel_rfl, by kernel_rfl⟩ (by kernel_rfl) (opens_int Try.underlying3) (opens_int Try.underlying3) (opens_int Try.underlying3)
theorem opens_lawsBody : Opens enc Try.prog W held 71 (fun p : Int × Value => cInt p.1 ++ [p.2]) (fun p => I64 p.1 ∧ (∃ l : List RLimb, RdL cLimb 3 W p.2 l ∧ ∀ p ∈ l, I64 p.1 ∧ I64 p.2.1 ∧ I64 p.2.2)) :=
  opens_struct2 (f := cInt) (g := fun v : Value => [v]) (c0 := 1) (c1 := 1) Try.underlying71 ⟨rfl, rfl⟩ ⟨by kernel_rfl, by kernel_rfl⟩ (by kernel_rfl) (opens_int Try.underlying3)
    (opens_slice (size := 3) Try.underlying69 (by kernel_rfl) (by omega) cLimb_len opens_lawsLimb)
end
end Go.Proofs.Ythponccjbbkhaaa
