/- The struct Control: to read it, to own it, its marks; contracts of the laws' helpers. Written by a program (gen_struct.py). -/
import Derived.Test.YtjbhlbcjljdjmaaI1
import Derived.Test.YtjbhlbcjljdjmaaRCord
import Derived.Test.YtjbhlbcjljdjmaaS0
namespace Go.Proofs.Ytjbhlbcjljdjmaa
open Go.RowKit

def RdControl (w : World) (x1 x2 : Value) (d1 : List Int) (d2 : List RCord) : Prop := RdL cInt 1 w x1 d1 ∧ RdL cCord 3 w x2 d2
def szControl (d1 : List Int) (d2 : List RCord) : Nat := d1.length + d2.length
def cntControl (d1 : List Int) (d2 : List RCord) : Nat := d1.length + d2.length * 3
section
variable {w w' : World} {S T : List Nat} {x1 x2 : Value} {d1 : List Int} {d2 : List RCord} {m : Int}
theorem RdControl.below (h : RdControl w x1 x2 d1 d2) (hb : Below w.heap.size w w') : RdControl w' x1 x2 d1 d2 := by
  obtain ⟨h1, h2⟩ := h
  exact ⟨h1.below hb, h2.below hb⟩
theorem RdControl.forms (h : RdControl w x1 x2 d1 d2) : (∃ A c, x1 = .slice A d1.length c) ∧ (∃ A c, x2 = .slice A d2.length c) := by
  obtain ⟨h1, h2⟩ := h
  have f1 : (∃ A c, x1 = .slice A d1.length c) := by obtain ⟨A, c, e, _⟩ := h1.form; exact ⟨A, c, e⟩
  have f2 : (∃ A c, x2 = .slice A d2.length c) := by obtain ⟨A, c, e, _⟩ := h2.form; exact ⟨A, c, e⟩
  exact ⟨f1, f2⟩
end
end Go.Proofs.Ytjbhlbcjljdjmaa
