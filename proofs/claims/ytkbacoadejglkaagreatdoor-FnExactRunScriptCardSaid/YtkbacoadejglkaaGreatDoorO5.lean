/- What the listed variables of the library hold: the sentinel of syntax is one. -/
import Derived.Test.YtkbacoadejglkaaGreatDoorBdH8x4
import Derived.Test.YtkbacoadejglkaaGreatDoorO4
namespace Go.Proofs.YtkbacoadejglkaaGreatDoor
open Go.RowKit
theorem zz8 : "*" ++ "errors.errorString" = "*errors.errorString" := by decide
theorem rowS (u : TypeId) (h : Tryz.prog.typeName? 3 u = some "*errors.errorString") : u = 169 :=
 typeName_ptr_named (nm := "errors.errorString") (by rw [zz8]; kernel_rfl) (by kernel_rfl) (by decide) u (by rw [zz8]; exact h)
theorem err6 {a b c d e : String × DataW Unit} {r : List (String × DataW Unit)} {W : World} (h : laidMet Tryz.prog (a :: b :: c :: d :: e :: ("strconv.ErrSyntax", Rows.laid_strconv_ErrSyntax) :: r) W) : zog W := by
 have h2 := h.tail.tail.tail.tail.tail; obtain ⟨a0, s0, hv, _⟩ := laid_sentinel (g := 3) (ti := 91) (tp := 169) (te := 171) (ts := 9) h2 (by kernel_rfl) (by kernel_rfl) Tryz.underlying91 rowS Tryz.underlying169 Tryz.underlying171 rfl rfl Tryz.underlying9 (by kernel_rfl) (by kernel_rfl)
 exact ⟨_, _, hv⟩
end Go.Proofs.YtkbacoadejglkaaGreatDoor
