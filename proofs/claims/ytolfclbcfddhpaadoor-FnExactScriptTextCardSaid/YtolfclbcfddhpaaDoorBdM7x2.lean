/- Several texts in one: append onto a new empty slice: whatever stood before is as it was. Over any program. Words for drawn regions: what is made belongs to a class of blocks. Over any program. -/
import Derived.ArgAppend
import Derived.Test.YtolfclbcfddhpaaDoorBdM5x2
import Derived.Test.YtolfclbcfddhpaaDoorBdA1x6
namespace Go.Proofs.YtolfclbcfddhpaaDoor
open Go.RowKit
section
variable {P : Program} (w : World)
end
open Go.RowKit
def OwnC (B : Nat) (e : TypeId) (size : Nat) (v : Value) (n : Nat) (xs : List Value) (c : Nat) (gh : Nat → Nat) (w : World) : Prop := w.ownsRow B e size v n xs ∧ ∀ b ∈ v.ownBlock.toList, gh b = c
theorem OwnC.keep {B : Nat} {e : TypeId} {size : Nat} {v : Value} {n : Nat} {xs : List Value} {c : Nat} {gh gh' : Nat → Nat} {w w' : World} (h : OwnC B e size v n xs c gh w) (hb : Below w.heap.size w w') (hg : ∀ b, b < w.heap.size → gh' b = gh b) : OwnC B e size v n xs c gh' w' :=
 ⟨own_below h.1 hb, fun b hm => (hg b (h.1.lt b (by simpa using hm)).2).trans (h.2 b hm)⟩
def OwG (B : Nat) (ow : World → List Nat → Prop) (c : Nat) (gh : Nat → Nat) (w : World) : Prop := ∃ S, ow w S ∧ S.Nodup ∧ ∀ b ∈ S, (B ≤ b ∧ b < w.heap.size) ∧ gh b = c
section
variable {B c : Nat} {ow : World → List Nat → Prop} {gh gh' : Nat → Nat} {w w' : World}
theorem OwG.keep (h : OwG B ow c gh w) (hk : ∀ S, ow w S → ow w' S) (hb : Below w.heap.size w w') (hg : ∀ b, b < w.heap.size → gh' b = gh b) : OwG B ow c gh' w' := by
 obtain ⟨S, h1, h2, h3⟩ := h
 exact ⟨S, hk S h1, h2, fun b hm => by
  have := h3 b hm
  have hs := hb.size
  exact ⟨⟨this.1.1, by omega⟩, (hg b this.1.2).trans this.2⟩⟩
theorem OwG.same (h : OwG B ow c gh w) (c' : Nat) : OwG B ow c (ghNew gh w.heap.size c') w := h.keep (fun _ h => h) (Below.refl _ _) (fun _ hb => if_pos hb)
theorem OwG.chg (h : OwG B ow c gh w) {T : List Nat} (hc : Chg T w w') (hT : ∀ b ∈ T, b < B) (hk : ∀ S, ow w S → (∀ b ∈ S, b ∉ T) → ow w' S) : OwG B ow c gh w' := by
 obtain ⟨S, h1, h2, h3⟩ := h
 exact ⟨S, hk S h1 (fun b hm hm' => by have := h3 b hm; have := hT b hm'; omega), h2, fun b hm => by
  have := h3 b hm
  have hs := hc.size
  exact ⟨⟨this.1.1, by omega⟩, this.2⟩⟩
theorem OwG.two {ow2 : World → List Nat → Prop} {c2 : Nat} (h : OwG B ow c gh w) (h2 : OwG B ow2 c2 gh w) (hne : c ≠ c2) : ∃ S1 S2, ow w S1 ∧ ow2 w S2 ∧ Fresh B w (S1 ++ S2) := by
 obtain ⟨S1, a1, a2, a3⟩ := h
 obtain ⟨S2, b1, b2, b3⟩ := h2
 refine ⟨S1, S2, a1, b1, List.nodup_append.2 ⟨a2, b2, fun b hb b' hb' e => ?_⟩, fun b hb => ?_⟩
 ·subst e
  exact hne ((a3 b hb).2.symm.trans (b3 b hb').2)
 ·rcases List.mem_append.1 hb with hb | hb
  ·exact (a3 b hb).1
  ·exact (b3 b hb).1
theorem OwG.one (h : OwG B ow c gh w) : ∃ S, ow w S ∧ Fresh B w S := by
 obtain ⟨S, a1, a2, a3⟩ := h
 exact ⟨S, a1, a2, fun b hb => (a3 b hb).1⟩
end
theorem Loc.set {w : World} {b i : Nat} {cs : List Value} {u v : Value} (h : Loc w b cs) (hi : cs[i]? = some v) : Loc (w.setCell ⟨b, i, none⟩ u) b (cs.set i u) := by
 intro j x hj
 obtain ⟨h1, h2⟩ := h i v hi
 by_cases hij : i = j
 ·subst hij
  rw [List.getElem?_set_self (List.getElem?_eq_some_iff.1 hi).1] at hj
  injection hj with hj
  subst hj
  exact ⟨by simp [go_sem, h1], by simp [go_sem, h2]⟩
 ·rw [List.getElem?_set_ne hij] at hj
  obtain ⟨h3, h4⟩ := h j x hj
  refine ⟨?_, by simp [go_sem, h4]⟩
  rw [World.cell?_setCell_other w ⟨b, i, none⟩ ⟨b, j, none⟩ u (fun e => hij (by injection e))]
  exact h3
theorem Loc.far {w : World} {b g i : Nat} {cs : List Value} {u : Value} (h : Loc w b cs) (hne : b ≠ g) : Loc (w.setCell ⟨g, i, none⟩ u) b cs := h.chg (S := [g]) (chg_set (Chg.refl _ _) (by simp)) (by simpa using hne)
end Go.Proofs.YtolfclbcfddhpaaDoor
