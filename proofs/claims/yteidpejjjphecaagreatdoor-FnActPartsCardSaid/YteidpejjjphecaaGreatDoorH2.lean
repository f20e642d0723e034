/- Fields of a line, texts joined by a byte, in plain words. No program in sight. -/
import Derived.Lib.Join
import Derived.Test.YteidpejjjphecaaGreatDoorH1
import Derived.Test.YteidpejjjphecaaGreatDoorBdC1x9
namespace Go.Proofs.YteidpejjjphecaaGreatDoor
open Go.RowKit
/- texts joined by a byte -/
def jnStep (c : UInt8) (s x : List UInt8) : List UInt8 := s ++ (c :: x)
def jn (c : UInt8) : List (List UInt8) → List UInt8
 | [] => []
 | w :: l => l.foldl (jnStep c) w
theorem jn_pre (c : UInt8) (l : List (List UInt8)) : ∀ p s : List UInt8, l.foldl (jnStep c) (p ++ s) = p ++ l.foldl (jnStep c) s := by
 induction l with
 | nil => intro p s; rfl
 | cons x l ih =>
  intro p s
  simp only [List.foldl_cons, jnStep]
  rw [List.append_assoc]
  exact ih _ _
theorem jn_cons (c : UInt8) (w x : List UInt8) (l : List (List UInt8)) : jn c (w :: x :: l) = w ++ c :: jn c (x :: l) := by
 show l.foldl (jnStep c) (jnStep c w x) = _
 unfold jnStep
 rw [show w ++ c :: x = (w ++ [c]) ++ x by simp]
 have h := jn_pre c l (w ++ [c]) x
 unfold jnStep at h
 rw [h]
 show _ = w ++ c :: l.foldl (jnStep c) x
 unfold jnStep
 simp
theorem join_jn (c : UInt8) (l : List (List UInt8)) : Lib.join l [c] = jn c l := by
 match l with
 | [] => rfl
 | [w] => simp [Lib.join, List.intercalate, jn]
 | w :: x :: r =>
  have ih := join_jn c (x :: r)
  rw [jn_cons, ← ih]
  simp [Lib.join, List.intercalate, List.intersperse]
/- fields -/
def tokStep (st : List (List UInt8) × List UInt8) (c : UInt8) : List (List UInt8) × List UInt8 :=
 if c = 32 then (if st.2 = [] then st.1 else st.1 ++ [st.2], []) else (st.1, st.2 ++ [c])
def tokEnd (st : List (List UInt8) × List UInt8) : List (List UInt8) := if st.2 = [] then st.1 else st.1 ++ [st.2]
theorem tokStep_sp (st : List (List UInt8) × List UInt8) : tokStep st 32 = (tokEnd st, []) := by unfold tokStep tokEnd; rw [if_pos rfl]
def Flds (l : List (List UInt8)) : Prop := ∀ f ∈ l, f ≠ [] ∧ (32 : UInt8) ∉ f
structure TokOk (st : List (List UInt8) × List UInt8) : Prop where
 out : Flds st.1
 cur : (32 : UInt8) ∉ st.2
theorem TokOk.end_ {st : List (List UInt8) × List UInt8} (h : TokOk st) : Flds (tokEnd st) := by
 unfold tokEnd
 split
 ·exact h.out
 ·rename_i h2
  intro f hf
  rcases List.mem_append.1 hf with hf | hf
  ·exact h.out f hf
  ·rw [List.mem_singleton] at hf; subst hf; exact ⟨h2, h.cur⟩
theorem TokOk.step {st : List (List UInt8) × List UInt8} (h : TokOk st) (c : UInt8) : TokOk (tokStep st c) := by
 by_cases hc : c = 32
 ·subst hc
  rw [tokStep_sp]
  exact ⟨h.end_, by simp⟩
 ·unfold tokStep
  rw [if_neg hc]
  refine ⟨h.out, fun hm => ?_⟩
  rcases List.mem_append.1 hm with hm | hm
  ·exact h.cur hm
  ·rw [List.mem_singleton] at hm; exact hc hm.symm
end Go.Proofs.YteidpejjjphecaaGreatDoor
