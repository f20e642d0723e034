/- Plain: what RunScript computes of a text. No program in sight. -/
import Derived.Test.YtdhmhgjjppeodaaGreatDoorH4
import Derived.Test.YtdhmhgjjppeodaaGreatDoorBdH3x3
import Derived.Test.YtdhmhgjjppeodaaGreatDoorH15
import Derived.Test.YtdhmhgjjppeodaaGreatDoorBdZ5x9
import Derived.Test.YtdhmhgjjppeodaaGreatDoorBdK3x9
namespace Go.Proofs.YtdhmhgjjppeodaaGreatDoor
open Go.RowKit
def splB (s : ByteArray) : List ByteArray := Lib.splitB ⟨#[10]⟩ 0 (Lib.countB s ⟨#[10]⟩) s
theorem splB_len (s : ByteArray) : (splB s).length = Lib.countB s ⟨#[10]⟩ + 1 := Lib.splitB_all _ (by decide) 0 _ s rfl
theorem splB_le (s : ByteArray) : Lib.countB s ⟨#[10]⟩ ≤ s.size := Lib.countB_le _ (by decide) _ s (Nat.le_refl _)
theorem lin_len (l : List UInt8) : ∀ (o : List (List UInt8)) (cur : List UInt8) (n : Nat), (∀ x ∈ o, x.length ≤ n) → cur.length ≤ n → (∀ x ∈ (l.foldl linStep (o, cur)).1, x.length ≤ n + l.length) ∧ (l.foldl linStep (o, cur)).2.length ≤ n + l.length := by
 induction l with
 | nil => intro o cur n h1 h2; exact ⟨fun x hx => by have := h1 x hx; simpa using this, by simpa using h2⟩
 | cons c l ih =>
  intro o cur n h1 h2
  rw [List.foldl_cons, List.length_cons]
  unfold linStep
  by_cases hc : c = 10
  ·rw [if_pos hc]
   have := ih (o ++ [cur]) [] n (fun x hx => by
    rcases List.mem_append.1 hx with hx | hx
    ·exact h1 x hx
    ·simp at hx; subst hx; exact h2) (Nat.zero_le _)
   unfold linStep at this
   exact ⟨fun x hx => Nat.le_trans (this.1 x hx) (by omega), Nat.le_trans this.2 (by omega)⟩
  ·rw [if_neg hc]
   have := ih o (cur ++ [c]) (n + 1) (fun x hx => by have := h1 x hx; omega) (by simp; omega)
   unfold linStep at this
   exact ⟨fun x hx => Nat.le_trans (this.1 x hx) (by omega), Nat.le_trans this.2 (by omega)⟩
theorem lins_sz {L x : List UInt8} (h : x ∈ lins L) : x.length ≤ L.length := by
 have := lin_len L [] [] 0 (fun x hx => by simp at hx) (Nat.le_refl _)
 unfold lins linTo at h
 rcases List.mem_append.1 h with h | h
 ·have := this.1 x h; omega
 ·simp at h; subst h; have := this.2; omega
theorem splB_sz {s x : ByteArray} (h : x ∈ splB s) : x.size ≤ s.size := by
 have h1 : x.data.toList ∈ (splB s).map (fun x => x.data.toList) := List.mem_map.2 ⟨x, h, rfl⟩
 rw [show (splB s).map (fun x => x.data.toList) = lins s.data.toList from split_lins s] at h1
 have h2 := lins_sz h1
 have e1 : x.data.toList.length = x.size := by simp
 have e2 : s.data.toList.length = s.size := by simp
 omega
def rsStep (st : Option (List RA)) (line : ByteArray) : Option (List RA) :=
 match st with
 | none => none
 | some l => if fldB line = true ∧ fldF line = [] then some l else if (prsA line).2 = true then some (l ++ [(prsA line).1]) else none
def rsAll (ls : List ByteArray) : Option (List RA) := ls.foldl rsStep (some [])
theorem rs_succ (ls : List ByteArray) {k : Nat} (h : k < ls.length) : rsAll (ls.take (k + 1)) = rsStep (rsAll (ls.take k)) ls[k] := foldl_take_succ _ _ ls h
theorem rs_none (ls : List ByteArray) : ls.foldl rsStep none = none := by
 induction ls with
 | nil => rfl
 | cons x ls ih => exact ih
theorem rs_bad {ls : List ByteArray} {k : Nat} (h : rsAll (ls.take k) = none) : rsAll ls = none := by
 have e : ls = ls.take k ++ ls.drop k := (List.take_append_drop k ls).symm
 unfold rsAll at h ⊢
 rw [e, List.foldl_append, h]
 exact rs_none _
theorem rs_skip {ls : List ByteArray} {l : List RA} {k : Nat} (hk : k < ls.length) (h : rsAll (ls.take k) = some l) (h1 : fldB ls[k] = true) (h2 : fldF ls[k] = []) : rsAll (ls.take (k + 1)) = some l := by
 rw [rs_succ ls hk, h]
 exact if_pos ⟨h1, h2⟩
theorem rs_act {ls : List ByteArray} {l : List RA} {k : Nat} (hk : k < ls.length) (h : rsAll (ls.take k) = some l) (h1 : ¬ (fldB ls[k] = true ∧ fldF ls[k] = [])) (h2 : (prsA ls[k]).2 = true) : rsAll (ls.take (k + 1)) = some (l ++ [(prsA ls[k]).1]) := by
 rw [rs_succ ls hk, h]
 show (if _ then _ else if _ then _ else _) = _
 rw [if_neg h1, if_pos h2]
theorem rs_no {ls : List ByteArray} {l : List RA} {k : Nat} (hk : k < ls.length) (h : rsAll (ls.take k) = some l) (h1 : ¬ (fldB ls[k] = true ∧ fldF ls[k] = [])) (h2 : (prsA ls[k]).2 = false) : rsAll ls = none := by
 refine rs_bad (k := k + 1) ?_
 rw [rs_succ ls hk, h]
 show (if _ then _ else if _ then _ else _) = _
 rw [if_neg h1, if_neg (by rw [h2]; simp)]
def smpT : Th := ⟨3, 60, [], onePl, []⟩
def rsOut (l : List RA) : List ByteArray := (actsF smpT l).2.map numS ++ fmtT (actsF smpT l).1.n (actsF smpT l).1.m (actsF smpT l).1.cs (actsF smpT l).1.pl (actsF smpT l).1.ds
def rsL (s : ByteArray) : Option (List RA) := if s.size ≤ 20000 then rsAll (splB s) else none
def rsF (s : ByteArray) : List ByteArray × Bool :=
 match rsL s with
 | none => ([], false)
 | some l => if l.length ≤ 40 then (rsOut l, true) else ([], false)
theorem rsF_none {s : ByteArray} (h : rsL s = none) : rsF s = ([], false) := by unfold rsF; rw [h]
theorem rsF_long {s : ByteArray} {l : List RA} (h : rsL s = some l) (h2 : ¬ l.length ≤ 40) : rsF s = ([], false) := by unfold rsF; rw [h]; exact if_neg h2
theorem rsF_t {s : ByteArray} {l : List RA} (h : rsL s = some l) (h2 : l.length ≤ 40) : rsF s = (rsOut l, true) := by unfold rsF; rw [h]; exact if_pos h2
theorem why_bd (n : Int) (cs : List RCross) (pl : List RPl) : -1 ≤ whyF n cs pl ∧ whyF n cs pl ≤ 3 := by
 unfold whyF
 (repeat' split) <;> omega
theorem numB_bd (b : Bool) : -1 ≤ numB b ∧ numB b ≤ 3 := by cases b <;> decide
theorem do_bd (t : Th) (a : RAct) : -1 ≤ (doF t a).2 ∧ (doF t a).2 ≤ 3 := by
 unfold doF
 split
 ·unfold stepF
  (repeat' split) <;> first | exact numB_bd _ | exact why_bd _ _ _
 ·show (-1 : Int) ≤ -1 ∧ (-1 : Int) ≤ 3
  omega
theorem from_bd (acts : List RAct) : ∀ (t : Th) (ns : List Int), (∀ x ∈ ns, -1 ≤ x ∧ x ≤ 3) → ∀ x ∈ (acts.foldl runStep (t, ns)).2, -1 ≤ x ∧ x ≤ 3 := by
 induction acts with
 | nil => intro t ns h x hx; exact h x hx
 | cons a acts ih =>
  intro t ns h
  refine ih (doF t a).1 (ns ++ [(doF t a).2]) (fun x hx => ?_)
  rcases List.mem_append.1 hx with hx | hx
  ·exact h x hx
  ·simp at hx; subst hx; exact do_bd t a
theorem acts_bd (t : Th) (acts : List RAct) : ∀ x ∈ (actsF t acts).2, -1 ≤ x ∧ x ≤ 3 := by
 unfold actsF
 split
 ·exact from_bd acts t [] (fun x hx => by simp at hx)
 ·intro x hx; simp at hx
end Go.Proofs.YtdhmhgjjppeodaaGreatDoor
