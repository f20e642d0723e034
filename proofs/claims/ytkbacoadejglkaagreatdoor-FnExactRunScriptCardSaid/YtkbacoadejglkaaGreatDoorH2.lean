/- Fields of a line, texts joined by a byte, in plain words. No program in sight. -/
import Derived.Lib.Join
import Derived.Test.YtkbacoadejglkaaGreatDoorH1
import Derived.Test.YtkbacoadejglkaaGreatDoorBdC1x9
namespace Go.Proofs.YtkbacoadejglkaaGreatDoor
open Go.RowKit
/- texts joined by a byte -/
def zdw (c : UInt8) (s x : List UInt8) : List UInt8 := s ++ (c :: x)
def jn (c : UInt8) : List (List UInt8) -> List UInt8
 | [] => []
 | w :: l => l.foldl (zdw c) w
theorem zz7 (c : UInt8) (l : List (List UInt8)) : ∀ p s : List UInt8, l.foldl (zdw c) (p ++ s) = p ++ l.foldl (zdw c) s := by
 induction l with
 | nil => intro p s; rfl
 | cons x l ih =>
  intro p s
  simp only [List.foldl_cons, zdw]
  rw [List.append_assoc]; exact ih _ _
theorem zt1 (c : UInt8) (w x : List UInt8) (l : List (List UInt8)) : jn c (w :: x :: l) = w ++ c :: jn c (x :: l) := by
 show l.foldl (zdw c) (zdw c w x) = _
 unfold zdw; rw [show w ++ c :: x = (w ++ [c]) ++ x by simp]
 have h := zz7 c l (w ++ [c]) x; unfold zdw at h; rw [h]
 show _ = w ++ c :: l.foldl (zdw c) x
 unfold zdw
 simp
theorem zyv (c : UInt8) (w x : List UInt8) (l : List (List UInt8)) : jn c (w :: (l ++ [x])) = jn c (w :: l) ++ c :: x := by
 show (l ++ [x]).foldl (zdw c) w = l.foldl (zdw c) w ++ c :: x
 rw [List.foldl_append]; rfl
theorem zmm (c : UInt8) (l : List (List UInt8)) : Lib.join l [c] = jn c l := by
 match l with
 | [] => rfl
 | [w] => simp [Lib.join, List.intercalate, jn]
 | w :: x :: r =>
  have ih := zmm c (x :: r); rw [zt1, <- ih]
  simp [Lib.join, List.intercalate, List.intersperse]
/- fields -/
def zcx (st : List (List UInt8) × List UInt8) (c : UInt8) : List (List UInt8) × List UInt8 :=
 if c = 32 then (if st.2 = [] then st.1 else st.1 ++ [st.2], []) else (st.1, st.2 ++ [c])
def zln (l : List UInt8) : List (List UInt8) × List UInt8 := l.foldl zcx ([], [])
def ze2 (st : List (List UInt8) × List UInt8) : List (List UInt8) := if st.2 = [] then st.1 else st.1 ++ [st.2]
def tok (l : List UInt8) : List (List UInt8) := ze2 (zln l)
theorem zmd (l : List UInt8) (c : UInt8) : zln (l ++ [c]) = zcx (zln l) c := by unfold zln; rw [List.foldl_append]; rfl
theorem zjc (st : List (List UInt8) × List UInt8) : zcx st 32 = (ze2 st, []) := by unfold zcx ze2; rw [if_pos rfl]
theorem zrj (o : List (List UInt8)) (w : List UInt8) (h : (32 : UInt8) ∉ w) : ∀ cur : List UInt8, w.foldl zcx (o, cur) = (o, cur ++ w) := by
 induction w with
 | nil => intro cur; simp
 | cons c w ih =>
  intro cur; rw [List.mem_cons, not_or] at h; rw [List.foldl_cons]; unfold zcx; rw [if_neg (fun e => h.1 e.symm)]
  have := ih h.2 (cur ++ [c]); unfold zcx at this; rw [this]; simp
def Flds (l : List (List UInt8)) : Prop := ∀ f ∈ l, f ≠ [] /\ (32 : UInt8) ∉ f
theorem zz0 (fs : List (List UInt8)) : Flds fs -> ∀ o : List (List UInt8), ze2 ((jn 32 fs).foldl zcx (o, [])) = o ++ fs := by
 induction fs with
 | nil => intro _ o; show o = _; simp
 | cons w l ih =>
  intro h o; obtain ⟨h1, h2⟩ := h w List.mem_cons_self
  match l, ih with
  | [], _ =>
   show ze2 (w.foldl zcx (o, [])) = _
   rw [zrj o w h2]; unfold ze2
   simp [h1]
  | x :: r, ih =>
   rw [zt1, List.foldl_append, zrj o w h2, List.foldl_cons, zjc]; have := ih (fun f hf => h f (List.mem_cons_of_mem _ hf)) (o ++ [w])
   have e : ze2 (o, [] ++ w) = o ++ [w] := by unfold ze2; simp [h1]
   rw [e, this]; simp
theorem zpa {fs : List (List UInt8)} (h : Flds fs) : tok (jn 32 fs) = fs := by
 have := zz0 fs h []; unfold tok zln; rw [this]; simp
theorem zz6 {a b : List (List UInt8)} (ha : Flds a) (hb : Flds b) (h : jn 32 a = jn 32 b) : a = b := by rw [<- zpa ha, h, zpa hb]
structure znl (st : List (List UInt8) × List UInt8) : Prop where
 out : Flds st.1
 cur : (32 : UInt8) ∉ st.2
theorem znl.end_ {st : List (List UInt8) × List UInt8} (h : znl st) : Flds (ze2 st) := by
 unfold ze2
 split
 ·exact h.out
 ·rename_i h2
  intro f hf
  rcases List.mem_append.1 hf with hf | hf
  ·exact h.out f hf
  ·rw [List.mem_singleton] at hf; subst hf; exact ⟨h2, h.cur⟩
theorem znl.step {st : List (List UInt8) × List UInt8} (h : znl st) (c : UInt8) : znl (zcx st c) := by
 by_cases hc : c = 32
 ·subst hc
  rw [zjc]; exact ⟨h.end_, by simp⟩
 ·unfold zcx
  rw [if_neg hc]; refine ⟨h.out, fun hm => ?_⟩
  rcases List.mem_append.1 hm with hm | hm
  ·exact h.cur hm
  ·rw [List.mem_singleton] at hm; exact hc hm.symm
theorem zvs (l : List UInt8) : znl (zln l) := by
 have : ∀ (l : List UInt8) (st : List (List UInt8) × List UInt8), znl st -> znl (l.foldl zcx st) := by
  intro l
  induction l with
  | nil => intro st h; exact h
  | cons c l ih => intro st h; exact ih _ (h.step c)
 exact this l _ ⟨fun f hf => by simp at hf, by simp⟩
theorem zvt (l : List UInt8) : Flds (tok l) := (zvs l).end_
def zoo (st : List (List UInt8) × List UInt8) : Nat := (st.1.map List.length).sum + st.2.length
theorem zsn (st : List (List UInt8) × List UInt8) (c : UInt8) : zoo (zcx st c) <= zoo st + 1 := by
 unfold zcx zoo
 split
 ·split
  ·rename_i h; simp [h]
  ·simp
 ·simp; omega
theorem zvm (l : List UInt8) : zoo (zln l) <= l.length := by
 have : ∀ (l : List UInt8) (st : List (List UInt8) × List UInt8), zoo (l.foldl zcx st) <= zoo st + l.length := by
  intro l
  induction l with
  | nil => intro st; simp
  | cons c l ih =>
   intro st; have h1 := ih (zcx st c); have h2 := zsn st c; rw [List.foldl_cons, List.length_cons]
   omega
 have := this l ([], [])
 simpa [zoo, zln] using this
theorem zz9 (l : List UInt8) : ((tok l).map List.length).sum <= l.length := by
 have h := zvm l; unfold tok ze2; unfold zoo at h
 split
 ·omega
 ·simp; omega
def zs6 (s : ByteArray) : Bool := decide (s.size <= 600) && zha s 32 126
def baL (l : List UInt8) : ByteArray := ⟨l.toArray⟩
theorem zd7 (l : List UInt8) : (baL l).data.toList = l := by simp [baL]
theorem ztm (s : ByteArray) : baL s.data.toList = s := zfx (zd7 _)
def fldB (s : ByteArray) : Bool := zs6 s && decide ((tok s.data.toList).length <= 24)
def fldF (s : ByteArray) : List ByteArray := if fldB s = true then (tok s.data.toList).map baL else []
end Go.Proofs.YtkbacoadejglkaaGreatDoor
