/- The structs of the laws, opened. -/
import Derived.Test.YtdhmhgjjppeodaaGreatDoorO1
import Derived.Test.YtdhmhgjjppeodaaGreatDoorBdI7x12
namespace Go.Proofs.YtdhmhgjjppeodaaGreatDoor
open Go.ChangeShapes Go.WideShapes Go.ChangeAt Go.RowKit Go.Deep
theorem tryOwn : ownKnob Tryz.prog.godebug = none := by kernel_rfl
theorem tryLaid : laidOutB Tryz.prog = true := by kernel_rfl
section
variable {H : Type} {enc : TypeId × Value → H} {W : World} {held : Bool}
theorem opens_ints : Opens enc Tryz.prog W held 28 (fun v : Value => [v]) (fun v => ∃ l : List Int, RdL cInt 1 W v l ∧ ∀ a ∈ l, I64 a) :=
 opens_slice (size := 1) Tryz.underlying28 (by kernel_rfl) (by omega) cInt_len (opens_int Tryz.underlying3)
theorem pls_of {v : Value} {Q : Int → Prop} {R : Int → Prop} (h : ∃ l : List (Value × Int), RdL (fun p : Value × Int => [p.1] ++ cInt p.2) 2 W v l ∧ ∀ p ∈ l, (∃ l' : List Int, RdL cInt 1 W p.1 l' ∧ ∀ x ∈ l', Q x) ∧ R p.2) : ∃ ll : List RPl, RdPls W v ll ∧ ∀ p ∈ ll, (∀ x ∈ p.1, Q x) ∧ R p.2 := by
 obtain ⟨vs, h1, h2⟩ := h
 obtain ⟨ll, hl, hr⟩ := chooseL vs.length (fun i (l : RPl) => ∀ p, vs[i]? = some p → p.2 = l.2 ∧ RdL cInt 1 W p.1 l.1 ∧ (∀ x ∈ l.1, Q x) ∧ R l.2) (fun i hi => by
  obtain ⟨⟨l', hl', hq⟩, hr⟩ := h2 vs[i] (List.getElem_mem hi)
  exact ⟨(l', vs[i].2), fun p hp => by rw [List.getElem?_eq_getElem hi] at hp; injection hp with hp; subst hp; exact ⟨rfl, hl', hq, hr⟩⟩)
 refine ⟨ll, ⟨vs, h1, hl.symm, fun i p r hp hr' => ?_⟩, fun r hm => ?_⟩
 ·obtain ⟨hi, rfl⟩ := List.getElem?_eq_some_iff.1 hr'
  exact ⟨(hr i hi p hp).1, (hr i hi p hp).2.1⟩
 ·obtain ⟨i, hi, rfl⟩ := List.getElem_of_mem hm
  exact (hr i hi vs[i] (List.getElem?_eq_getElem (by omega))).2.2
theorem opens_lawsPlayer : Opens enc Tryz.prog W held 151 (fun p : Value × Int => [p.1] ++ cInt p.2) (fun p => (∃ l : List Int, RdL cInt 1 W p.1 l ∧ ∀ a ∈ l, I64 a) ∧ I64 p.2) :=
 opens_struct2 (f := fun v : Value => [v]) (g := cInt) (c0 := 1) (c1 := 1) Tryz.underlying151 ⟨rfl, rfl⟩ ⟨by kernel_rfl, by kernel_rfl⟩ (by kernel_rfl) opens_ints (opens_int Tryz.underlying3)
theorem opens_lawsCross : Opens enc Tryz.prog W held 153 cCross (fun p => I64 p.1 ∧ True) :=
 opens_struct2 (f := cInt) (g := cBool) (c0 := 1) (c1 := 1) Tryz.underlying153 ⟨rfl, rfl⟩ ⟨by kernel_rfl, by kernel_rfl⟩ (by kernel_rfl) (opens_int Tryz.underlying3) (opens_bool Tryz.underlying4)
theorem opens_lawsCompany : Opens enc Tryz.prog W held 45 (fun p : Int × Value × Value => cInt p.1 ++ ([p.2.1] ++ [p.2.2])) (fun p => I64 p.1 ∧ (∃ l : List RCross, RdL cCross 2 W p.2.1 l ∧ ∀ p ∈ l, I64 p.1 ∧ True) ∧ (∃ l : List (Value × Int), RdL (fun p : Value × Int => [p.1] ++ cInt p.2) 2 W p.2.2 l ∧ ∀ p ∈ l, (∃ l : List Int, RdL cInt 1 W p.1 l ∧ ∀ a ∈ l, I64 a) ∧ I64 p.2)) :=
 opens_struct3 (f := cInt) (g := fun v : Value => [v]) (k := fun v : Value => [v]) (c0 := 1) (c1 := 1) (c2 := 1) Tryz.underlying45 ⟨rfl, rfl, rfl⟩ ⟨by kernel_rfl, by kernel_rfl, by kernel_rfl⟩ (by kernel_rfl) (opens_int Tryz.underlying3)
  (opens_slice (size := 2) Tryz.underlying42 (by kernel_rfl) (by omega) cCross_len opens_lawsCross) (opens_slice (size := 2) Tryz.underlying43 (by kernel_rfl) (by omega) (fun _ => rfl) opens_lawsPlayer)
theorem opens_lawsTheatre : Opens enc Tryz.prog W held 47 (fun p : (Int × Value × Value) × Value × Int => (cInt p.1.1 ++ ([p.1.2.1] ++ [p.1.2.2])) ++ ([p.2.1] ++ cInt p.2.2)) (fun p => (I64 p.1.1 ∧ (∃ l : List RCross, RdL cCross 2 W p.1.2.1 l ∧ ∀ p ∈ l, I64 p.1 ∧ True) ∧ (∃ l : List (Value × Int), RdL (fun p : Value × Int => [p.1] ++ cInt p.2) 2 W p.1.2.2 l ∧ ∀ p ∈ l, (∃ l : List Int, RdL cInt 1 W p.1 l ∧ ∀ a ∈ l, I64 a) ∧ I64 p.2)) ∧ (∃ l : List Int, RdL cInt 1 W p.2.1 l ∧ ∀ a ∈ l, I64 a) ∧ I64 p.2.2) :=
 opens_struct3 (f := fun p : Int × Value × Value => cInt p.1 ++ ([p.2.1] ++ [p.2.2])) (g := fun v : Value => [v]) (k := cInt) (c0 := 3) (c1 := 1) (c2 := 1) Tryz.underlying47 ⟨rfl, rfl, rfl⟩ ⟨by kernel_rfl, by kernel_rfl, by kernel_rfl⟩ (by kernel_rfl) opens_lawsCompany opens_ints (opens_int Tryz.underlying3)
end
end Go.Proofs.YtdhmhgjjppeodaaGreatDoor
