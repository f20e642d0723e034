/- A number put into a row: what the region of 'append(append(append([]int{}, x[:at]...), k), x[at:]...)' yields. Over any program. Written by a program (gen_ins.py). -/
import Derived.Test.YtkejgogheonakaaM9
import Derived.Test.YtkejgogheonakaaM8
namespace Go.Proofs.Ytkejgogheonakaa
open Go.RowKit
def insBefore (k : Nat) : List Nat := if k = 3 then [1, 2] else if k = 4 then [0, 3, 1, 2] else if k = 6 then [5] else if k = 7 then [4, 6, 0, 3] else if k = 10 then [8, 9] else if k = 11 then [7, 10, 4, 6] else []
def insNeed (k : Nat) : List Nat := if k = 3 then [1, 2] else if k = 4 then [0, 3] else if k = 6 then [5] else if k = 7 then [4, 6] else if k = 10 then [8, 9] else if k = 11 then [7, 10] else []
def insR (k : Nat) (_ : Nat → Nat) (w w' : World) : Prop := k = 7 ∨ k = 11 ∨ Below w.heap.size w w'
theorem flatI_take (l : List Int) (p : Nat) : (l.take p).flatMap cInt = (l.flatMap cInt).take p := by
  induction l generalizing p with
  | nil => simp
  | cons a l ih =>
    cases p with
    | zero => rfl
    | succ p => rw [List.take_succ_cons, List.flatMap_cons, List.flatMap_cons, ih]; rfl
theorem flatI_drop (l : List Int) (p : Nat) : (l.drop p).flatMap cInt = (l.flatMap cInt).drop p := by
  induction l generalizing p with
  | nil => simp
  | cons a l ih =>
    cases p with
    | zero => rfl
    | succ p => rw [List.drop_succ_cons, List.flatMap_cons, ih]; rfl
theorem rdS_take {w : World} {A : Option Addr} {n c p : Nat} {xs : List Value} (h : RdS w 1 (.slice A n c) n xs) (hp : p ≤ n) : RdS w 1 (.slice A p c) p (xs.take p) := by
  obtain ⟨h1, A', c', e, h2, h3, h4⟩ := h
  injection e with e1 e2 e3
  subst e1 e3
  refine ⟨by rw [List.length_take]; omega, A, c, rfl, by omega, h3, fun hpos => ?_⟩
  obtain ⟨g, off, e, hc⟩ := h4 (by omega)
  exact ⟨g, off, e, fun j u hu => hc j u (by
    rw [List.getElem?_take] at hu
    split at hu
    · exact hu
    · cases hu)⟩
theorem rdS_drop {w : World} {g off : Nat} {n c p : Nat} {xs : List Value} (h : RdS w 1 (.slice (some ⟨g, off, none⟩) n c) n xs) (hp : p ≤ n) : RdS w 1 (.slice (some ⟨g, off + p, none⟩) (n - p) (c - p)) (n - p) (xs.drop p) := by
  obtain ⟨h1, A', c', e, h2, h3, h4⟩ := h
  injection e with e1 e2 e3
  subst e1 e3
  refine ⟨by rw [List.length_drop]; omega, _, _, rfl, by omega, by omega, fun hpos => ?_⟩
  obtain ⟨g', off', e, hc⟩ := h4 (by omega)
  injection e with e
  injection e with e1 e2
  subst e1 e2
  exact ⟨g, off + p, rfl, fun j u hu => by rw [Nat.add_assoc]; exact hc (p + j) u (by rwa [List.getElem?_drop] at hu)⟩
/-- x[p:] of a slice at the head of a block: at its full capacity the address stays. -/
def sDrop (g n c p : Nat) : Value := if p = c then .slice (some ⟨g, 0, none⟩) (n - p) 0 else .slice (some ⟨g, p, none⟩) (n - p) (c - p)
theorem rdS_sDrop {w : World} {g n c p : Nat} {xs : List Value} (h : RdS w 1 (.slice (some ⟨g, 0, none⟩) n c) n xs) (hp : p ≤ n) : RdS w 1 (sDrop g n c p) (n - p) (xs.drop p) := by
  have h2 := rdS_drop h hp
  rw [Nat.zero_add] at h2
  unfold sDrop
  split
  · rename_i e
    obtain ⟨h1, A, c', he, h3, h4, h5⟩ := h
    injection he with _ _ e3
    subst e3 e
    have : n = p := by omega
    subst this
    exact ⟨by rw [List.length_drop, h1]; omega, _, _, rfl, by omega, by omega, fun hpos => by omega⟩
  · exact h2
end Go.Proofs.Ytkejgogheonakaa
