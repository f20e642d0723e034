/- The records of the laws, opened. -/
import Derived.Test.YthponccjbbkhaaaO1
import Derived.Test.YthponccjbbkhaaaI7
namespace Go.Proofs.Ythponccjbbkhaaa
open Go.ChangeShapes Go.WideShapes Go.ChangeAt Go.RowKit Go.Deep
theorem tryOwn : ownKnob Try.prog.godebug = none := by kernel_rfl
theorem tryLaid : laidOutB Try.prog = true := by kernel_rfl
theorem rows_of {W : World} {v : Value} {Q : Int → Prop} (h : ∃ l : List Value, RdL (fun v : Value => [v]) 1 W v l ∧ ∀ a ∈ l, ∃ l' : List Int, RdL cInt 1 W a l' ∧ ∀ x ∈ l', Q x) : ∃ ll, RdRows W v ll ∧ ∀ l ∈ ll, ∀ x ∈ l, Q x := by
  obtain ⟨vs, h1, h2⟩ := h
  obtain ⟨ll, hl, hr⟩ := chooseL vs.length (fun i l => ∀ v', vs[i]? = some v' → RdL cInt 1 W v' l ∧ ∀ x ∈ l, Q x) (fun i hi => by
    obtain ⟨l', hl', hq⟩ := h2 vs[i] (List.getElem_mem hi)
    exact ⟨l', fun v' hv => by rw [List.getElem?_eq_getElem hi] at hv; injection hv with hv; subst hv; exact ⟨hl', hq⟩⟩)
  refine ⟨ll, ⟨vs, h1, hl.symm, fun i v' l hv hl' => ?_⟩, fun l hm => ?_⟩
  · obtain ⟨hi, rfl⟩ := List.getElem?_eq_some_iff.1 hl'
    exact (hr i hi v' hv).1
  · obtain ⟨i, hi, rfl⟩ := List.getElem_of_mem hm
    exact (hr i hi vs[i] (List.getElem?_eq_getElem (by omega))).2
section
variable {H : Type} {enc : TypeId × Value → H} {W : World} {held : Bool}
end
end Go.Proofs.Ythponccjbbkhaaa
