/- Words for drawn regions: what is made belongs to a class of blocks. Over any program. -/
import Derived.Test.YtjbhlbcjljdjmaaM7
import Derived.Test.YtjbhlbcjljdjmaaS0
namespace Go.Proofs.Ytjbhlbcjljdjmaa
open Go.RowKit

/-- A row of the call's own whose blocks belong to c. -/
def OwnC (B : Nat) (e : TypeId) (size : Nat) (v : Value) (n : Nat) (xs : List Value) (c : Nat) (gh : Nat → Nat) (w : World) : Prop := w.ownsRow B e size v n xs ∧ ∀ b ∈ v.ownBlock.toList, gh b = c
theorem OwnC.keep {B : Nat} {e : TypeId} {size : Nat} {v : Value} {n : Nat} {xs : List Value} {c : Nat} {gh gh' : Nat → Nat} {w w' : World} (h : OwnC B e size v n xs c gh w) (hb : Below w.heap.size w w') (hg : ∀ b, b < w.heap.size → gh' b = gh b) : OwnC B e size v n xs c gh' w' :=
  ⟨own_below h.1 hb, fun b hm => (hg b (h.1.lt b (by simpa using hm)).2).trans (h.2 b hm)⟩
/-- Something is the call's own in blocks that belong to c. -/
def OwG (B : Nat) (ow : World → List Nat → Prop) (c : Nat) (gh : Nat → Nat) (w : World) : Prop := ∃ S, ow w S ∧ S.Nodup ∧ ∀ b ∈ S, (B ≤ b ∧ b < w.heap.size) ∧ gh b = c
section
variable {B c : Nat} {ow : World → List Nat → Prop} {gh gh' : Nat → Nat} {w w' : World}
theorem OwG.keep (h : OwG B ow c gh w) (hk : ∀ S, ow w S → ow w' S) (hb : Below w.heap.size w w') (hg : ∀ b, b < w.heap.size → gh' b = gh b) : OwG B ow c gh' w' := by
  obtain ⟨S, h1, h2, h3⟩ := h
  exact ⟨S, hk S h1, h2, fun b hm => by
    have := h3 b hm
    have hs := hb.size
    exact ⟨⟨this.1.1, by omega⟩, (hg b this.1.2).trans this.2⟩⟩
theorem OwG.same (h : OwG B ow c gh w) (c' : Nat) : OwG B ow c (ghNew gh w.heap.size c') w := h.keep (fun _ h => h) (Below.refl _ _) (fun _ hb => if_pos hb)
theorem OwG.of_fresh {S : List Nat} (h : ow w' S) (hf : Fresh w.heap.size w' S) (hB : B ≤ w.heap.size) : OwG B ow c (ghNew gh w.heap.size c) w' :=
  ⟨S, h, hf.1, fun b hm => by
    have := hf.2 b hm
    exact ⟨⟨by omega, this.2⟩, if_neg (by omega)⟩⟩
theorem OwG.of_append {α : Type} {f : α → List Value} {e : TypeId} {size g : Nat} {v : Value} {l : List α} (hown : w'.ownsRow B e size v l.length (l.flatMap f)) (hb : Below w.heap.size w w') (hat : InOrNew v g w.heap.size w')
    (og : OwnC B e size (.slice (some ⟨g, 0, none⟩) 0 0) 0 [] c gh w) : OwG B (fun w S => OwL e f size w S v l) c (ghNew gh w.heap.size c) w' :=
  ⟨_, OwL.mk_ hown, (fresh_of hown).1, fun b hm => by
    have h1 := hown.lt b (by simpa using hm)
    refine ⟨h1, ?_⟩
    rcases hat b hm with rfl | h3
    · exact (if_pos (og.1.lt _ rfl).2).trans (og.2 _ (by simp [Value.ownBlock]))
    · exact if_neg (by omega)⟩
theorem OwG.chg (h : OwG B ow c gh w) {T : List Nat} (hc : Chg T w w') (hT : ∀ b ∈ T, b < B) (hk : ∀ S, ow w S → (∀ b ∈ S, b ∉ T) → ow w' S) : OwG B ow c gh w' := by
  obtain ⟨S, h1, h2, h3⟩ := h
  exact ⟨S, hk S h1 (fun b hm hm' => by have := h3 b hm; have := hT b hm'; omega), h2, fun b hm => by
    have := h3 b hm
    have hs := hc.size
    exact ⟨⟨this.1.1, by omega⟩, this.2⟩⟩
theorem OwG.two {ow2 : World → List Nat → Prop} {c2 : Nat} (h : OwG B ow c gh w) (h2 : OwG B ow2 c2 gh w) (hne : c ≠ c2) : ∃ S1 S2, ow w S1 ∧ ow2 w S2 ∧ Fresh B w (S1 ++ S2) := by
  obtain ⟨S1, a1, a2, a3⟩ := h
  obtain ⟨S2, b1, b2, b3⟩ := h2
  refine ⟨S1, S2, a1, b1, List.nodup_append.2 ⟨a2, b2, fun b hb b' hb' e => ?_⟩, fun b hb => ?_⟩
  · subst e
    exact hne ((a3 b hb).2.symm.trans (b3 b hb').2)
  · rcases List.mem_append.1 hb with hb | hb
    · exact (a3 b hb).1
    · exact (b3 b hb).1
theorem OwG.one (h : OwG B ow c gh w) : ∃ S, ow w S ∧ Fresh B w S := by
  obtain ⟨S, a1, a2, a3⟩ := h
  exact ⟨S, a1, a2, fun b hb => (a3 b hb).1⟩
end
/-- A box after a store into one of its cells. -/
theorem Loc.set {w : World} {b i : Nat} {cs : List Value} {u v : Value} (h : Loc w b cs) (hi : cs[i]? = some v) : Loc (w.setCell ⟨b, i, none⟩ u) b (cs.set i u) := by
  intro j x hj
  obtain ⟨h1, h2⟩ := h i v hi
  by_cases hij : i = j
  · subst hij
    rw [List.getElem?_set_self (List.getElem?_eq_some_iff.1 hi).1] at hj
    injection hj with hj
    subst hj
    exact ⟨by simp [go_sem, h1], by simp [go_sem, h2]⟩
  · rw [List.getElem?_set_ne hij] at hj
    obtain ⟨h3, h4⟩ := h j x hj
    refine ⟨?_, by simp [go_sem, h4]⟩
    rw [World.cell?_setCell_other w ⟨b, i, none⟩ ⟨b, j, none⟩ u (fun e => hij (by injection e))]
    exact h3
theorem Loc.far {w : World} {b g i : Nat} {cs : List Value} {u : Value} (h : Loc w b cs) (hne : b ≠ g) : Loc (w.setCell ⟨g, i, none⟩ u) b cs := h.chg (S := [g]) (chg_set (Chg.refl _ _) (by simp)) (by simpa using hne)
theorem own_up {w : World} {B : Nat} {e : TypeId} {size n : Nat} {v : Value} {xs : List Value} (h : w.ownsRow 0 e size v n xs) (hb : ∀ b ∈ v.ownBlock.toList, B ≤ b ∧ b < w.heap.size) : w.ownsRow B e size v n xs := by
  refine ⟨h.1, ?_⟩
  rcases h.2 with h | ⟨g, cap, cur, rfl, _, h3⟩
  · exact .inl h
  · exact .inr ⟨g, cap, cur, rfl, (hb g (by simp [Value.ownBlock])).1, h3⟩
theorem fresh_left {B : Nat} {w : World} {S T : List Nat} (h : Fresh B w (S ++ T)) : Fresh B w S := ⟨(nodup2 h.1).1, fun b hb => h.2 b (List.mem_append_left _ hb)⟩
theorem fresh_right {B : Nat} {w : World} {S T : List Nat} (h : Fresh B w (S ++ T)) : Fresh B w T := ⟨(nodup2 h.1).2.1, fun b hb => h.2 b (List.mem_append_right _ hb)⟩
theorem fresh_join {B : Nat} {w : World} {S T : List Nat} (h1 : Fresh B w S) (h2 : Fresh B w T) (hd : ∀ b ∈ S, b ∉ T) : Fresh B w (S ++ T) :=
  ⟨List.nodup_append.2 ⟨h1.1, h2.1, fun b hb b' hb' e => hd b hb (e ▸ hb')⟩, fun b hb => by
    rcases List.mem_append.1 hb with hb | hb
    · exact h1.2 b hb
    · exact h2.2 b hb⟩
/-- What an own row is after an append: its blocks are the old ones or new. -/
theorem fresh_app {B : Nat} {w w' : World} {e : TypeId} {size n : Nat} {v v' : Value} {xs : List Value} (hown : w'.ownsRow B e size v' n xs) (hat : v'.ownBlock = v.ownBlock ∨ v'.ownBlock = some w.heap.size) {T : List Nat} (hT : ∀ b ∈ T, b < w.heap.size ∧ b ∉ v.ownBlock.toList) :
    Fresh B w' v'.ownBlock.toList ∧ ∀ b ∈ v'.ownBlock.toList, b ∉ T := by
  refine ⟨fresh_of hown, fun b hb hT' => ?_⟩
  have := hT b hT'
  rcases hat with h | h
  · rw [h] at hb; exact this.2 hb
  · rw [h] at hb; simp at hb; omega
end Go.Proofs.Ytjbhlbcjljdjmaa
