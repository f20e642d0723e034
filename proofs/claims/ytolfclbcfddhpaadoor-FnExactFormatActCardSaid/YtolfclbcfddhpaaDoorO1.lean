/- Arguments of the laws, read as lists and records. Over any program. -/
import Derived.ProofKit
import Derived.Deep.Slices
import Derived.Lib.SmallJoins
import Derived.Test.YtolfclbcfddhpaaDoorBdA1x6
namespace Go.Proofs.YtolfclbcfddhpaaDoor
open Go.ChangeShapes Go.WideShapes Go.ChangeAt Go.RowKit Go.Deep
section
variable {H : Type} {enc : TypeId × Value → H} {P : Program} {W : World} {held : Bool}
def Opens (enc : TypeId × Value → H) (P : Program) (W : World) (held : Bool) (t : TypeId) {α : Type} (f : α → List Value) (Q : α → Prop) : Prop :=
 ∀ n cs x, DataW.trod enc P W 0 (fun _ => true) held n t cs = some x → ∃ a, cs = f a ∧ Q a
theorem i64_of_wf {n : Int} (h : (Lit.int .i64 n).wf = true) : I64 n := by
 simp [Lit.wf, IntKind.min, IntKind.max, IntKind.signed, IntKind.bits] at h
 exact ⟨by omega, by omega⟩
theorem opens_int {t : TypeId} (ht : P.underlying t = some (.int .i64)) : Opens enc P W held t cInt I64 := by
 intro n cs x h
 obtain ⟨m, rfl, _, hw⟩ := DataW.trod_int ht h
 exact ⟨m, rfl, i64_of_wf hw⟩
theorem opens_struct3 {t : TypeId} {α β γ : Type} {f : α → List Value} {g : β → List Value} {k : γ → List Value} {Q : α → Prop} {R : β → Prop} {S : γ → Prop} {F0 F1 F2 : Field} {c0 c1 c2 : Nat}
  (hs : P.underlying t = some (.struct #[F0, F1, F2])) (o : F0.offset = 0 ∧ F1.offset = c0 ∧ F2.offset = c0 + c1) (c : P.cellsOf F0.type = c0 ∧ P.cellsOf F1.type = c1 ∧ P.cellsOf F2.type = c2) (hC : P.cellsOf t = c0 + c1 + c2)
  (h0 : Opens enc P W held F0.type f Q) (h1 : Opens enc P W held F1.type g R) (h2 : Opens enc P W held F2.type k S) :
  Opens enc P W held t (fun p : α × β × γ => f p.1 ++ (g p.2.1 ++ k p.2.2)) (fun p => Q p.1 ∧ R p.2.1 ∧ S p.2.2) := by
 intro n cs x h
 obtain ⟨xs, m, _, _, hl, hx, hf⟩ := DataW.trod_struct hs h
 match xs, hx with
 | [y0, y1, y2], _ =>
  have e0 := hf 0 F0 rfl
  have e1 := hf 1 F1 rfl
  have e2 := hf 2 F2 rfl
  rw [o.1, c.1] at e0
  rw [o.2.1, c.2.1] at e1
  rw [o.2.2, c.2.2] at e2
  obtain ⟨a, ha, qa⟩ := h0 _ _ _ e0
  obtain ⟨b, hb, qb⟩ := h1 _ _ _ e1
  obtain ⟨d, hd, qd⟩ := h2 _ _ _ e2
  refine ⟨(a, b, d), ?_, qa, qb, qd⟩
  show cs = f a ++ (g b ++ k d)
  rw [← ha, ← hb, ← hd, List.drop_zero]
  rw [List.take_of_length_le (l := cs.drop (c0 + c1)) (by rw [List.length_drop]; omega)]
  rw [show cs.drop (c0 + c1) = (cs.drop c0).drop c1 by rw [List.drop_drop], List.take_append_drop, List.take_append_drop]
theorem arg_struct {t : TypeId} {fs : Array Field} {r : Reach} {b0 : Nat} {α : Type} {f : α → List Value} {Q : α → Prop} {v : Value} {d : DataW H} {p : List MemPlace} (ht : P.underlying t = some (.struct fs)) (hv : Value.okWide P W r b0 t v)
  (h : DataW.Trod enc P W 0 (fun _ => true) held t v d p) (ho : Opens enc P W held t f Q) : ∃ a, v = .agg (f a).toArray ∧ Q a := by
 obtain ⟨cs, rfl, _⟩ := okWide_struct ht hv
 obtain ⟨n, hf⟩ := h
 obtain ⟨a, h1, h2⟩ := ho _ _ _ hf
 refine ⟨a, ?_, h2⟩
 rw [← h1]
 simp [Value.cells]
end
end Go.Proofs.YtolfclbcfddhpaaDoor
