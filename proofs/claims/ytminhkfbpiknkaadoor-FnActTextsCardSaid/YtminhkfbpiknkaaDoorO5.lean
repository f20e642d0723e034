/- What the listed variables of the library hold: the sentinel of syntax is one. -/
import Derived.Test.YtminhkfbpiknkaaDoorBdH8x3
import Derived.Test.YtminhkfbpiknkaaDoorO4
namespace Go.Proofs.YtminhkfbpiknkaaDoor
open Go.RowKit
theorem starS : "*" ++ "errors.errorString" = "*errors.errorString" := by decide
theorem rowS (u : TypeId) (h : Tryd.prog.typeName? 3 u = some "*errors.errorString") : u = 118 :=
 typeName_ptr_named (nm := "errors.errorString") (by rw [starS]; kernel_rfl) (by kernel_rfl) (by decide) u (by rw [starS]; exact h)
theorem err5 {a b c d : String × DataW Unit} {r : List (String × DataW Unit)} {W : World} (h : laidMet Tryd.prog (a :: b :: c :: d :: ("strconv.ErrSyntax", Rows.laid_strconv_ErrSyntax) :: r) W) : ErrOk W := by
 have h2 := h.tail.tail.tail.tail
 obtain ⟨a0, s0, hv, _⟩ := laid_sentinel (g := 0) (ti := 58) (tp := 118) (te := 120) (ts := 9) h2 (by kernel_rfl) (by kernel_rfl) Tryd.underlying58 rowS Tryd.underlying118 Tryd.underlying120 rfl rfl Tryd.underlying9 (by kernel_rfl) (by kernel_rfl)
 exact ⟨_, _, hv⟩
end Go.Proofs.YtminhkfbpiknkaaDoor
