/- Lines of a text, in plain words: cut at newlines; acts written line by line are read back. No program in sight. -/
import Derived.Lib.SplitLaws
import Derived.Lib.IndexLaws
import Derived.Lib.IndexBytes
import Derived.Test.YtkbacoadejglkaaGreatDoorBdH3x3
namespace Go.Proofs.YtkbacoadejglkaaGreatDoor
open Go.RowKit
/- cut at newlines, as the reference goes through the text: the lines before, the line that is being read -/
def zbu (st : List (List UInt8) × List UInt8) (c : UInt8) : List (List UInt8) × List UInt8 := if c = 10 then (st.1 ++ [st.2], []) else (st.1, st.2 ++ [c])
def zdz (l : List UInt8) : List (List UInt8) × List UInt8 := l.foldl zbu ([], [])
def lins (l : List UInt8) : List (List UInt8) := (zdz l).1 ++ [(zdz l).2]
theorem zgt (l : List UInt8) (c : UInt8) : zdz (l ++ [c]) = zbu (zdz l) c := by unfold zdz; rw [List.foldl_append]; rfl
theorem zq9 (o : List (List UInt8)) (w : List UInt8) (h : (10 : UInt8) ∉ w) : ∀ cur : List UInt8, w.foldl zbu (o, cur) = (o, cur ++ w) := by
 induction w with
 | nil => intro cur; simp
 | cons c w ih =>
  intro cur; rw [List.mem_cons, not_or] at h; rw [List.foldl_cons]; unfold zbu; rw [if_neg (fun e => h.1 e.symm)]
  have := ih h.2 (cur ++ [c]); unfold zbu at this; rw [this]; simp
theorem zuy (l : List UInt8) : ∀ (o : List (List UInt8)) (cur : List UInt8), l.foldl zbu (o, cur) = (o ++ (l.foldl zbu ([], cur)).1, (l.foldl zbu ([], cur)).2) := by
 induction l with
 | nil => intro o cur; simp
 | cons c l ih =>
  intro o cur; rw [List.foldl_cons, List.foldl_cons]; unfold zbu
  by_cases hc : c = 10
  ·rw [if_pos hc, if_pos hc]
   have h1 := ih (o ++ [cur]) []; have h2 := ih [cur] []; unfold zbu at h1 h2
   simp only [List.nil_append]
   rw [h1, h2]; simp
  ·rw [if_neg hc, if_neg hc]
   exact ih o (cur ++ [c])
theorem zvd {w : List UInt8} (h : (10 : UInt8) ∉ w) (l : List UInt8) : lins (w ++ 10 :: l) = w :: lins l := by
 unfold lins zdz; rw [List.foldl_append, zq9 [] w h, List.foldl_cons]; have e : zbu ([], [] ++ w) 10 = ([w], []) := by unfold zbu; simp
 rw [e, zuy l [w] []]
 simp
theorem zuv {w : List UInt8} (h : (10 : UInt8) ∉ w) : lins w = [w] := by
 unfold lins zdz; rw [zq9 [] w h]; simp
/- the library's cutting -/
theorem zpy : ∀ (n : Nat) (l : List UInt8), l.length <= n -> Lib.splitK [10] 0 (Lib.count l [10]) l = lins l := by
 intro n
 induction n with
 | zero =>
  intro l h; have : l = [] := List.length_eq_zero_iff.1 (by omega)
  subst this; rw [Lib.count_miss (by simp [Lib.index])]
  rfl
 | succ n ih =>
  intro l h
  by_cases hm : Lib.index l [10] = -1
  ·have hnot : (10 : UInt8) ∉ l := fun hq => by
    obtain ⟨k, hk⟩ := List.getElem?_of_mem hq; exact Lib.indexByte_none (by rw [<- Lib.index_one]; exact hm) k hk
   rw [Lib.count_miss hm, zuv hnot]
   rfl
  ·have hge := Lib.index_ge l [10]
   obtain ⟨i, hi⟩ : ∃ i : Nat, Lib.index l [10] = i := ⟨(Lib.index l [10]).toNat, by omega⟩
   have hs := Lib.indexByte_some (show Lib.indexByte l 10 = i by rw [<- Lib.index_one]; exact hi)
   obtain ⟨hlt, hc⟩ := List.getElem?_eq_some_iff.1 hs.1
   have e : l = l.take i ++ 10 :: l.drop (i + 1) := by
    rw [<- hc, List.getElem_cons_drop, List.take_append_drop]
   have hno : (10 : UInt8) ∉ l.take i := fun hq => by
    obtain ⟨k, hk⟩ := List.getElem?_of_mem hq; rw [List.getElem?_take] at hk
    split at hk
    ·rename_i hki; exact hs.2 k hki hk
    ·cases hk
   rw [Lib.count_hit (by simp) hi, Nat.add_comm, Lib.splitK, if_neg (fun q => hm (beq_iff_eq.1 q)), hi]
   have h2 := ih (l.drop (i + 1)) (by rw [List.length_drop]; omega)
   have h3 : lins l = l.take i :: lins (l.drop (i + 1)) := by
    have := zvd hno (l.drop (i + 1))
    rwa [<- e] at this
   rw [h3, <- h2]
   rfl
theorem zje (s : ByteArray) : (Lib.splitB ⟨#[10]⟩ 0 (Lib.countB s ⟨#[10]⟩) s).map (fun x => x.data.toList) = lins s.data.toList := by
 rw [Lib.splitB_data]; exact zpy _ _ (Nat.le_refl _)
end Go.Proofs.YtkbacoadejglkaaGreatDoor
