/- Several texts in one: Contracts of the laws' helpers for records Limb. Written by a program (gen_rec.py). The struct Body: to read it, to own it, its marks; contracts of the laws' helpers. Written by a program (gen_struct.py). -/
import Derived.StillTailTactics
import Derived.BigQuiet
import Derived.Test.YtlhdeojkpmpecaaGreatBdA1x8
namespace Go.Proofs.YtlhdeojkpmpecaaGreat
open Go.RowKit
abbrev RLimb := Int × Int × Int
def cLimb (t : RLimb) : List Value := [.int .i64 t.1, .int .i64 t.2.1, .int .i64 t.2.2]
open Go.RowKit
def RdBody (w : World) (x1 : Value) (d1 : List RLimb) : Prop := RdL cLimb 3 w x1 d1
section
variable {w w' : World} {S T : List Nat} {x1 : Value} {d1 : List RLimb} {m : Int}
theorem RdBody.below (h : RdBody w x1 d1) (hb : Below w.heap.size w w') : RdBody w' x1 d1 := by
 have h1 : RdL cLimb 3 w x1 d1 := h
 exact h1.below hb
theorem RdBody.forms (h : RdBody w x1 d1) : (∃ A c, x1 = .slice A d1.length c) := by
 have h1 : RdL cLimb 3 w x1 d1 := h
 have f1 : (∃ A c, x1 = .slice A d1.length c) := by obtain ⟨A, c, e, _⟩ := h1.form; exact ⟨A, c, e⟩
 exact f1
end
end Go.Proofs.YtlhdeojkpmpecaaGreat
