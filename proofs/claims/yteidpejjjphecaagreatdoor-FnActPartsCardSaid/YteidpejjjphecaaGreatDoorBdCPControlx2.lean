/- Several texts in one: Contracts: copies of Control. Written by a program (gen_copy.py). Players, one more behind the others. -/
import Derived.Test.YteidpejjjphecaaGreatDoorKC
import Derived.Test.YteidpejjjphecaaGreatDoorBdM7x3
import Derived.Test.YteidpejjjphecaaGreatDoorBdI7x14
namespace Go.Proofs.YteidpejjjphecaaGreatDoor
open Go.RowKit
open Go.RowKit
theorem pls_snoc {w w' : World} {B : Nat} {vs : List (Value × Int)} {ll : List RPl} {q q' u : Value} {r : List Int} {n : Int} {Sk : List Nat} (hl : vs.length = ll.length) (hrows : PlsOwn w vs ll)
  (hf : Fresh B w (q.ownBlock.toList ++ plBlocks vs)) (hk : OwL 3 cInt 1 w Sk u r) (hfk : Fresh B w Sk) (hd : ∀ b ∈ q.ownBlock.toList ++ plBlocks vs, b ∉ Sk)
  (hown' : w'.ownsRow B 55 2 q' (vs.length + 1) (vs.flatMap cPl ++ [u, .int .i64 n])) (hg : w.grownBy w' q.ownBlock) (hat : q'.ownBlock = q.ownBlock ∨ q'.ownBlock = some w.heap.size) :
  OwPls w' (q'.ownBlock.toList ++ plBlocks (vs ++ [(u, n)])) q' (ll ++ [(r, n)]) ∧ Fresh B w' (q'.ownBlock.toList ++ plBlocks (vs ++ [(u, n)])) := by
 have hch := Chg.of_grown hg
 obtain ⟨n1, n2, dj, dj'⟩ := nodup2 hf.1
 have hs := hg.size
 have hSk := hk.2
 subst hSk
 refine ⟨⟨vs ++ [(u, n)], by simp [hl], ?_, ?_, rfl⟩, ?_⟩
 ·rw [List.length_append, List.flatMap_append]
  exact own_mono (by simpa [cPl] using hown') (Nat.zero_le _)
 ·intro i p r' hp hr'
  by_cases hi : i < vs.length
  ·rw [List.getElem?_append_left hi] at hp
   rw [List.getElem?_append_left (by omega)] at hr'
   exact ⟨(hrows i p r' hp hr').1, own_chg (hrows i p r' hp hr').2 hch (fun b hb hb' => dj' b (mem_plBlocks hp b hb) hb')⟩
  ·rw [List.getElem?_append_right (by omega)] at hp
   rw [List.getElem?_append_right (by omega)] at hr'
   have e1 : i - vs.length = 0 := by
    have := (List.getElem?_eq_some_iff.1 hp).1
    simp at this; omega
   rw [e1] at hp
   rw [show i - ll.length = 0 by omega] at hr'
   simp at hp hr'
   subst hp hr'
   exact ⟨rfl, own_chg hk.1 hch (fun b hb hb' => hd b (by simp [hb']) hb)⟩
 ·rw [plBlocks_snoc]
  have hq : ∀ b ∈ q'.ownBlock.toList, b ∈ q.ownBlock.toList ∨ b = w.heap.size := by
   intro b hb
   rcases hat with e | e
   ·rw [e] at hb; exact .inl hb
   ·rw [e] at hb; simp at hb; exact .inr hb
  have hrow := fun b hb => hf.2 b hb
  refine ⟨List.nodup_append.2 ⟨by cases q'.ownBlock <;> simp, List.nodup_append.2 ⟨n2, hfk.1, fun b hb b' hb' e => ?_⟩, fun b hb b' hb' e => ?_⟩, fun b hb => ?_⟩
  ·subst e
   exact hd b (List.mem_append_right _ hb) hb'
  ·subst e
   rcases hq b hb with h | h
   ·rcases List.mem_append.1 hb' with h' | h'
    ·exact dj b h h'
    ·exact hd b (List.mem_append_left _ h) h'
   ·rcases List.mem_append.1 hb' with h' | h'
    ·have := (hf.2 b (List.mem_append_right _ h')).2; omega
    ·have := (hfk.2 b h').2; omega
  ·rcases List.mem_append.1 hb with h | h
   ·have h1 := hown'.lt b (by simpa using h)
    exact h1
   ·rcases List.mem_append.1 h with h' | h'
    ·have := hf.2 b (List.mem_append_right _ h'); omega
    ·have := hfk.2 b h'; omega
theorem pls_start (w : World) (B : Nat) (hB : B ≤ w.heap.size) : OwPls (w.alloc (.cells #[] 55)) [w.heap.size] (.slice (some ⟨w.heap.size, 0, none⟩) 0 0) [] ∧ Fresh B (w.alloc (.cells #[] 55)) [w.heap.size] :=
 ⟨⟨[], rfl, World.ownsRow_made (size := 2) (e := 55) w #[] 0 (Nat.zero_le _) (by simp [maxLen]) rfl, fun i p r hp => by simp at hp, rfl⟩, by simp, fun b hb => by simp at hb; simp; omega⟩
end Go.Proofs.YteidpejjjphecaaGreatDoor
