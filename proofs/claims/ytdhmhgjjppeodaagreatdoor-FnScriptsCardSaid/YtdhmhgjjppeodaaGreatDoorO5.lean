/- What the listed variables of the library hold: the sentinel of syntax is one. -/
import Derived.Test.YtdhmhgjjppeodaaGreatDoorBdH8x3
import Derived.Test.YtdhmhgjjppeodaaGreatDoorO4
namespace Go.Proofs.YtdhmhgjjppeodaaGreatDoor
open Go.RowKit
theorem starS : "*" ++ "errors.errorString" = "*errors.errorString" := by decide
theorem rowS (u : TypeId) (h : Tryz.prog.typeName? 3 u = some "*errors.errorString") : u = 223 :=
 typeName_ptr_named (nm := "errors.errorString") (by rw [starS]; kernel_rfl) (by kernel_rfl) (by decide) u (by rw [starS]; exact h)
theorem err6 {a b c d e : String × DataW Unit} {r : List (String × DataW Unit)} {W : World} (h : laidMet Tryz.prog (a :: b :: c :: d :: e :: ("strconv.ErrSyntax", Rows.laid_strconv_ErrSyntax) :: r) W) : ErrOk W := by
 have h2 := h.tail.tail.tail.tail.tail
 obtain ⟨a0, s0, hv, _⟩ := laid_sentinel (g := 4) (ti := 110) (tp := 223) (te := 225) (ts := 9) h2 (by kernel_rfl) (by kernel_rfl) Tryz.underlying110 rowS Tryz.underlying223 Tryz.underlying225 rfl rfl Tryz.underlying9 (by kernel_rfl) (by kernel_rfl)
 exact ⟨_, _, hv⟩
end Go.Proofs.YtdhmhgjjppeodaaGreatDoor
