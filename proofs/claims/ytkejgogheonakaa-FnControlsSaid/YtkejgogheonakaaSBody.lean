/- The struct Body: to read it, to own it, its marks; contracts of the laws' helpers. Written by a program (gen_struct.py). -/
import Derived.Test.YtkejgogheonakaaRLimb
import Derived.Test.YtkejgogheonakaaS0
namespace Go.Proofs.Ytkejgogheonakaa
open Go.RowKit

def RdBody (w : World) (x1 : Value) (d1 : List RLimb) : Prop := RdL cLimb 3 w x1 d1
def OwBody (w : World) (S : List Nat) (x1 : Value) (d1 : List RLimb) : Prop := ∃ S1, S = S1 ∧ OwL 112 cLimb 3 w (S1) x1 d1
def szBody (d1 : List RLimb) : Nat := d1.length
def cntBody (d1 : List RLimb) : Nat := d1.length * 3
def MkBody (w : World) (S : List Nat) (x1 : Value) (d1 : List RLimb) (m : Int) : Prop := ∃ S1, S = S1 ∧ MkL 112 mkLimb 3 w (S1) x1 d1.length m
section
variable {w w' : World} {S T : List Nat} {x1 : Value} {d1 : List RLimb} {m : Int}
theorem RdBody.below (h : RdBody w x1 d1) (hb : Below w.heap.size w w') : RdBody w' x1 d1 := by
  have h1 : RdL cLimb 3 w x1 d1 := h
  exact h1.below hb
theorem RdBody.forms (h : RdBody w x1 d1) : (∃ A c, x1 = .slice A d1.length c) := by
  have h1 : RdL cLimb 3 w x1 d1 := h
  have f1 : (∃ A c, x1 = .slice A d1.length c) := by obtain ⟨A, c, e, _⟩ := h1.form; exact ⟨A, c, e⟩
  exact f1
theorem OwBody.rd (h : OwBody w S x1 d1) : RdBody w x1 d1 := by
  obtain ⟨S1, _, h1⟩ := h
  exact h1.rd
theorem OwBody.below (h : OwBody w S x1 d1) (hb : Below w.heap.size w w') : OwBody w' S x1 d1 := by
  obtain ⟨S1, e, h1⟩ := h
  exact ⟨S1, e, h1.below hb⟩
theorem OwBody.chg (h : OwBody w S x1 d1) (hc : Chg T w w') (hn : ∀ b ∈ S, b ∉ T) : OwBody w' S x1 d1 := by
  obtain ⟨S1, e, h1⟩ := h
  exact ⟨S1, e, h1.chg hc (fun b hb => hn b (by rw [e]; first | exact hb | simp only [List.mem_append, hb, true_or, or_true]))⟩
theorem MkBody.below (h : MkBody w S x1 d1 m) (hb : Below w.heap.size w w') : MkBody w' S x1 d1 m := by
  obtain ⟨S1, e, h1⟩ := h
  exact ⟨S1, e, h1.below hb⟩
theorem MkBody.chg (h : MkBody w S x1 d1 m) (hc : Chg T w w') (hn : ∀ b ∈ S, b ∉ T) : MkBody w' S x1 d1 m := by
  obtain ⟨S1, e, h1⟩ := h
  exact ⟨S1, e, h1.chg hc (fun b hb => hn b (by rw [e]; first | exact hb | simp only [List.mem_append, hb, true_or, or_true]))⟩
end
def ToBody (a0 : Int) (d1 : List RLimb) (w : World) (e : Ending) (w' : World) : Prop :=
  ∃ x1 S, e = .returned (.agg #[.int .i64 a0, x1]) ∧ OwBody w' S x1 d1 ∧ Fresh w.heap.size w' S ∧ Below w.heap.size w w'
end Go.Proofs.Ytkejgogheonakaa
