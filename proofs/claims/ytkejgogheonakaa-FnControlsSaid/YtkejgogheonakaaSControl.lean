/- The struct Control: to read it, to own it, its marks; contracts of the laws' helpers. Written by a program (gen_struct.py). -/
import Derived.Test.YtkejgogheonakaaI1
import Derived.Test.YtkejgogheonakaaRCord
import Derived.Test.YtkejgogheonakaaS0
namespace Go.Proofs.Ytkejgogheonakaa
open Go.RowKit

def RdControl (w : World) (x1 x2 : Value) (d1 : List Int) (d2 : List RCord) : Prop := RdL cInt 1 w x1 d1 ∧ RdL cCord 3 w x2 d2
def OwControl (w : World) (S : List Nat) (x1 x2 : Value) (d1 : List Int) (d2 : List RCord) : Prop := ∃ S1 S2, S = S1 ++ S2 ∧ OwL 3 cInt 1 w (S1) x1 d1 ∧ OwL 106 cCord 3 w (S2) x2 d2
def szControl (d1 : List Int) (d2 : List RCord) : Nat := d1.length + d2.length
def cntControl (d1 : List Int) (d2 : List RCord) : Nat := d1.length + d2.length * 3
def MkControl (w : World) (S : List Nat) (x1 x2 : Value) (d1 : List Int) (d2 : List RCord) (m : Int) : Prop := ∃ S1 S2, S = S1 ++ S2 ∧ MkL 3 mkInt 1 w (S1) x1 d1.length m ∧ MkL 106 mkCord 3 w (S2) x2 d2.length (m + d1.length)
section
variable {w w' : World} {S T : List Nat} {x1 x2 : Value} {d1 : List Int} {d2 : List RCord} {m : Int}
theorem RdControl.below (h : RdControl w x1 x2 d1 d2) (hb : Below w.heap.size w w') : RdControl w' x1 x2 d1 d2 := by
  obtain ⟨h1, h2⟩ := h
  exact ⟨h1.below hb, h2.below hb⟩
theorem RdControl.forms (h : RdControl w x1 x2 d1 d2) : (∃ A c, x1 = .slice A d1.length c) ∧ (∃ A c, x2 = .slice A d2.length c) := by
  obtain ⟨h1, h2⟩ := h
  have f1 : (∃ A c, x1 = .slice A d1.length c) := by obtain ⟨A, c, e, _⟩ := h1.form; exact ⟨A, c, e⟩
  have f2 : (∃ A c, x2 = .slice A d2.length c) := by obtain ⟨A, c, e, _⟩ := h2.form; exact ⟨A, c, e⟩
  exact ⟨f1, f2⟩
theorem OwControl.rd (h : OwControl w S x1 x2 d1 d2) : RdControl w x1 x2 d1 d2 := by
  obtain ⟨S1, S2, _, h1, h2⟩ := h
  exact ⟨h1.rd, h2.rd⟩
theorem OwControl.below (h : OwControl w S x1 x2 d1 d2) (hb : Below w.heap.size w w') : OwControl w' S x1 x2 d1 d2 := by
  obtain ⟨S1, S2, e, h1, h2⟩ := h
  exact ⟨S1, S2, e, h1.below hb, h2.below hb⟩
theorem OwControl.chg (h : OwControl w S x1 x2 d1 d2) (hc : Chg T w w') (hn : ∀ b ∈ S, b ∉ T) : OwControl w' S x1 x2 d1 d2 := by
  obtain ⟨S1, S2, e, h1, h2⟩ := h
  exact ⟨S1, S2, e, h1.chg hc (fun b hb => hn b (by rw [e]; first | exact hb | simp only [List.mem_append, hb, true_or, or_true])), h2.chg hc (fun b hb => hn b (by rw [e]; first | exact hb | simp only [List.mem_append, hb, true_or, or_true]))⟩
theorem MkControl.below (h : MkControl w S x1 x2 d1 d2 m) (hb : Below w.heap.size w w') : MkControl w' S x1 x2 d1 d2 m := by
  obtain ⟨S1, S2, e, h1, h2⟩ := h
  exact ⟨S1, S2, e, h1.below hb, h2.below hb⟩
theorem MkControl.chg (h : MkControl w S x1 x2 d1 d2 m) (hc : Chg T w w') (hn : ∀ b ∈ S, b ∉ T) : MkControl w' S x1 x2 d1 d2 m := by
  obtain ⟨S1, S2, e, h1, h2⟩ := h
  exact ⟨S1, S2, e, h1.chg hc (fun b hb => hn b (by rw [e]; first | exact hb | simp only [List.mem_append, hb, true_or, or_true])), h2.chg hc (fun b hb => hn b (by rw [e]; first | exact hb | simp only [List.mem_append, hb, true_or, or_true]))⟩
end
def ToControl (a0 : Int) (d1 : List Int) (d2 : List RCord) (w : World) (e : Ending) (w' : World) : Prop :=
  ∃ x1 x2 S, e = .returned (.agg #[.int .i64 a0, x1, x2]) ∧ OwControl w' S x1 x2 d1 d2 ∧ Fresh w.heap.size w' S ∧ Below w.heap.size w w'
end Go.Proofs.Ytkejgogheonakaa
