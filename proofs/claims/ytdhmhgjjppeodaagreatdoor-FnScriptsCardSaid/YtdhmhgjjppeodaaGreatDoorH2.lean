/- Fields of a line, texts joined by a byte, in plain words. No program in sight. -/
import Derived.Lib.Join
import Derived.Test.YtdhmhgjjppeodaaGreatDoorH1
import Derived.Test.YtdhmhgjjppeodaaGreatDoorBdC1x9
namespace Go.Proofs.YtdhmhgjjppeodaaGreatDoor
open Go.RowKit
/- texts joined by a byte -/
def jnStep (c : UInt8) (s x : List UInt8) : List UInt8 := s ++ (c :: x)
def jn (c : UInt8) : List (List UInt8) → List UInt8
 | [] => []
 | w :: l => l.foldl (jnStep c) w
theorem jn_pre (c : UInt8) (l : List (List UInt8)) : ∀ p s : List UInt8, l.foldl (jnStep c) (p ++ s) = p ++ l.foldl (jnStep c) s := by
 induction l with
 | nil => intro p s; rfl
 | cons x l ih =>
  intro p s
  simp only [List.foldl_cons, jnStep]
  rw [List.append_assoc]
  exact ih _ _
theorem jn_cons (c : UInt8) (w x : List UInt8) (l : List (List UInt8)) : jn c (w :: x :: l) = w ++ c :: jn c (x :: l) := by
 show l.foldl (jnStep c) (jnStep c w x) = _
 unfold jnStep
 rw [show w ++ c :: x = (w ++ [c]) ++ x by simp]
 have h := jn_pre c l (w ++ [c]) x
 unfold jnStep at h
 rw [h]
 show _ = w ++ c :: l.foldl (jnStep c) x
 unfold jnStep
 simp
theorem jn_snoc (c : UInt8) (w x : List UInt8) (l : List (List UInt8)) : jn c (w :: (l ++ [x])) = jn c (w :: l) ++ c :: x := by
 show (l ++ [x]).foldl (jnStep c) w = l.foldl (jnStep c) w ++ c :: x
 rw [List.foldl_append]; rfl
theorem join_jn (c : UInt8) (l : List (List UInt8)) : Lib.join l [c] = jn c l := by
 match l with
 | [] => rfl
 | [w] => simp [Lib.join, List.intercalate, jn]
 | w :: x :: r =>
  have ih := join_jn c (x :: r)
  rw [jn_cons, ← ih]
  simp [Lib.join, List.intercalate, List.intersperse]
/- fields -/
def tokStep (st : List (List UInt8) × List UInt8) (c : UInt8) : List (List UInt8) × List UInt8 :=
 if c = 32 then (if st.2 = [] then st.1 else st.1 ++ [st.2], []) else (st.1, st.2 ++ [c])
def tokTo (l : List UInt8) : List (List UInt8) × List UInt8 := l.foldl tokStep ([], [])
def tokEnd (st : List (List UInt8) × List UInt8) : List (List UInt8) := if st.2 = [] then st.1 else st.1 ++ [st.2]
def tok (l : List UInt8) : List (List UInt8) := tokEnd (tokTo l)
theorem tokTo_snoc (l : List UInt8) (c : UInt8) : tokTo (l ++ [c]) = tokStep (tokTo l) c := by unfold tokTo; rw [List.foldl_append]; rfl
theorem tokStep_sp (st : List (List UInt8) × List UInt8) : tokStep st 32 = (tokEnd st, []) := by unfold tokStep tokEnd; rw [if_pos rfl]
theorem tok_word (o : List (List UInt8)) (w : List UInt8) (h : (32 : UInt8) ∉ w) : ∀ cur : List UInt8, w.foldl tokStep (o, cur) = (o, cur ++ w) := by
 induction w with
 | nil => intro cur; simp
 | cons c w ih =>
  intro cur
  rw [List.mem_cons, not_or] at h
  rw [List.foldl_cons]
  unfold tokStep
  rw [if_neg (fun e => h.1 e.symm)]
  have := ih h.2 (cur ++ [c])
  unfold tokStep at this
  rw [this]; simp
def Flds (l : List (List UInt8)) : Prop := ∀ f ∈ l, f ≠ [] ∧ (32 : UInt8) ∉ f
theorem tok_jn (fs : List (List UInt8)) : Flds fs → ∀ o : List (List UInt8), tokEnd ((jn 32 fs).foldl tokStep (o, [])) = o ++ fs := by
 induction fs with
 | nil => intro _ o; show o = _; simp
 | cons w l ih =>
  intro h o
  obtain ⟨h1, h2⟩ := h w List.mem_cons_self
  match l, ih with
  | [], _ =>
   show tokEnd (w.foldl tokStep (o, [])) = _
   rw [tok_word o w h2]
   unfold tokEnd
   simp [h1]
  | x :: r, ih =>
   rw [jn_cons, List.foldl_append, tok_word o w h2, List.foldl_cons, tokStep_sp]
   have := ih (fun f hf => h f (List.mem_cons_of_mem _ hf)) (o ++ [w])
   have e : tokEnd (o, [] ++ w) = o ++ [w] := by unfold tokEnd; simp [h1]
   rw [e, this]; simp
theorem tok_of_jn {fs : List (List UInt8)} (h : Flds fs) : tok (jn 32 fs) = fs := by
 have := tok_jn fs h []
 unfold tok tokTo
 rw [this]; simp
theorem jn_inj {a b : List (List UInt8)} (ha : Flds a) (hb : Flds b) (h : jn 32 a = jn 32 b) : a = b := by rw [← tok_of_jn ha, h, tok_of_jn hb]
structure TokOk (st : List (List UInt8) × List UInt8) : Prop where
 out : Flds st.1
 cur : (32 : UInt8) ∉ st.2
theorem TokOk.end_ {st : List (List UInt8) × List UInt8} (h : TokOk st) : Flds (tokEnd st) := by
 unfold tokEnd
 split
 ·exact h.out
 ·rename_i h2
  intro f hf
  rcases List.mem_append.1 hf with hf | hf
  ·exact h.out f hf
  ·rw [List.mem_singleton] at hf; subst hf; exact ⟨h2, h.cur⟩
theorem TokOk.step {st : List (List UInt8) × List UInt8} (h : TokOk st) (c : UInt8) : TokOk (tokStep st c) := by
 by_cases hc : c = 32
 ·subst hc
  rw [tokStep_sp]
  exact ⟨h.end_, by simp⟩
 ·unfold tokStep
  rw [if_neg hc]
  refine ⟨h.out, fun hm => ?_⟩
  rcases List.mem_append.1 hm with hm | hm
  ·exact h.cur hm
  ·rw [List.mem_singleton] at hm; exact hc hm.symm
theorem tokTo_ok (l : List UInt8) : TokOk (tokTo l) := by
 have : ∀ (l : List UInt8) (st : List (List UInt8) × List UInt8), TokOk st → TokOk (l.foldl tokStep st) := by
  intro l
  induction l with
  | nil => intro st h; exact h
  | cons c l ih => intro st h; exact ih _ (h.step c)
 exact this l _ ⟨fun f hf => by simp at hf, by simp⟩
theorem tok_flds (l : List UInt8) : Flds (tok l) := (tokTo_ok l).end_
def tokSz (st : List (List UInt8) × List UInt8) : Nat := (st.1.map List.length).sum + st.2.length
theorem tokStep_sz (st : List (List UInt8) × List UInt8) (c : UInt8) : tokSz (tokStep st c) ≤ tokSz st + 1 := by
 unfold tokStep tokSz
 split
 ·split
  ·rename_i h; simp [h]
  ·simp
 ·simp; omega
theorem tokTo_sz (l : List UInt8) : tokSz (tokTo l) ≤ l.length := by
 have : ∀ (l : List UInt8) (st : List (List UInt8) × List UInt8), tokSz (l.foldl tokStep st) ≤ tokSz st + l.length := by
  intro l
  induction l with
  | nil => intro st; simp
  | cons c l ih =>
   intro st
   have h1 := ih (tokStep st c)
   have h2 := tokStep_sz st c
   rw [List.foldl_cons, List.length_cons]
   omega
 have := this l ([], [])
 simpa [tokSz, tokTo] using this
theorem tok_sz (l : List UInt8) : ((tok l).map List.length).sum ≤ l.length := by
 have h := tokTo_sz l
 unfold tok tokEnd
 unfold tokSz at h
 split
 ·omega
 ·simp; omega
def lineB (s : ByteArray) : Bool := decide (s.size ≤ 600) && bytesB s 32 126
def baL (l : List UInt8) : ByteArray := ⟨l.toArray⟩
theorem baL_list (l : List UInt8) : (baL l).data.toList = l := by simp [baL]
theorem baL_of (s : ByteArray) : baL s.data.toList = s := ba_ext (baL_list _)
def fldB (s : ByteArray) : Bool := lineB s && decide ((tok s.data.toList).length ≤ 24)
def fldF (s : ByteArray) : List ByteArray := if fldB s = true then (tok s.data.toList).map baL else []
end Go.Proofs.YtdhmhgjjppeodaaGreatDoor
