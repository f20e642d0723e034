/- More words for memory: records that are marked, one after the other; stores into a row. No program in sight. -/
import Derived.Test.YtjbhlbcjljdjmaaM1
namespace Go.Proofs.Ytjbhlbcjljdjmaa
open Go.RowKit

theorem size_set2 {xs A : List Value} {k : Nat} (a b : Value) (h : xs.take (k * 2) = A) (hk : k * 2 + 1 < xs.length) : ((xs.set (k * 2) a).set (k * 2 + 1) b).take ((k + 1) * 2) = A ++ [a, b] := by
  have h1 := size_set1 a h (by omega)
  have h2 := size_set1 (xs := xs.set (k * 2) a) (k := k * 2 + 1) b h1 (by simpa using hk)
  rw [show (k + 1) * 2 = k * 2 + 1 + 1 by omega, h2]
  simp
theorem size_set3 {xs A : List Value} {k : Nat} (a b c : Value) (h : xs.take (k * 3) = A) (hk : k * 3 + 2 < xs.length) : (((xs.set (k * 3) a).set (k * 3 + 1) b).set (k * 3 + 2) c).take ((k + 1) * 3) = A ++ [a, b, c] := by
  have h1 := size_set1 a h (by omega)
  have h2 := size_set1 (xs := xs.set (k * 3) a) (k := k * 3 + 1) b h1 (by simp; omega)
  have h3 := size_set1 (xs := (xs.set (k * 3) a).set (k * 3 + 1) b) (k := k * 3 + 2) c h2 (by simpa using hk)
  rw [show (k + 1) * 3 = k * 3 + 2 + 1 by omega, h3]
  simp
def markC (mk : Int → List Value) (st : Int) (n : Nat) (m : Int) : List Value := (List.range n).flatMap (fun i : Nat => mk (m + (i : Int) * st))
theorem markC_succ (mk : Int → List Value) (st : Int) (k : Nat) (m : Int) : markC mk st (k + 1) m = markC mk st k m ++ mk (m + (k : Int) * st) := by
  unfold markC; rw [List.range_succ, List.flatMap_append]; simp
theorem markC_get {mk : Int → List Value} {size : Nat} {st : Int} (hl : ∀ k, (mk k).length = size) (k n : Nat) (m : Int) (h : k < n) (j : Nat) (hj : j < size) (u : Value) (hu : (mk (m + (k : Int) * st))[j]? = some u) :
    (markC mk st n m)[k * size + j]? = some u := by
  unfold markC
  rw [get_flat (f := fun i : Nat => mk (m + (i : Int) * st)) (fun a => hl _) (List.range n) k (by simpa using h) j hj]
  simpa using hu
theorem markC_len {mk : Int → List Value} {size : Nat} {st : Int} (hl : ∀ k, (mk k).length = size) (n : Nat) (m : Int) : (markC mk st n m).length = n * size := by
  unfold markC
  rw [len_flat (f := fun i : Nat => mk (m + (i : Int) * st)) (fun a => hl _)]; simp
theorem own_form {w : World} {B : Nat} {e : TypeId} {size n : Nat} {v : Value} {xs : List Value} (h : w.ownsRow B e size v n xs) (hn : 0 < n) : ∃ g cap, v = .slice (some ⟨g, 0, none⟩) n cap := by
  rcases h.2 with ⟨_, h0⟩ | ⟨g, cap, cur, h1, _⟩
  · omega
  · exact ⟨g, cap, h1⟩
theorem flat_set {α : Type} {f : α → List Value} {size : Nat} (hf : ∀ a, (f a).length = size) (L : List α) (k : Nat) (hk : k < L.length) (j : Nat) (hj : j < size) (u : Value) (r : α) (hr : f r = (f L[k]).set j u) :
    (L.flatMap f).set (k * size + j) u = (L.set k r).flatMap f := by
  induction L generalizing k with
  | nil => simp at hk
  | cons a L ih =>
    cases k with
    | zero =>
      rw [List.flatMap_cons, Nat.zero_mul, Nat.zero_add, List.set_append_left _ _ (by rw [hf]; exact hj), List.set_cons_zero, List.flatMap_cons, hr]
      rfl
    | succ k =>
      rw [List.flatMap_cons, List.set_append_right _ _ (by rw [hf, Nat.add_mul]; omega), hf, show (k + 1) * size + j - size = k * size + j by rw [Nat.add_mul]; omega, List.set_cons_succ, List.flatMap_cons,
        ih k (by simpa using hk) (by simpa using hr)]
theorem flat_set1 {α : Type} {f : α → List Value} (hf : ∀ a, (f a).length = 1) (L : List α) (k : Nat) (hk : k < L.length) (u : Value) (r : α) (hr : f r = [u]) :
    (L.flatMap f).set k u = (L.set k r).flatMap f := by
  have h := flat_set hf L k hk 0 (by omega) u r (by
    rw [hr]
    match hx : f L[k], hf L[k] with
    | [x], _ => rfl)
  simpa using h
theorem grown_setCell {w w' : World} {row : Option Nat} {p : Addr} (h : w.grownBy w' row) (hr : row = some p.block) (u : Value) : w.grownBy (w'.setCell p u) row :=
  ⟨h.os, h.tape, h.output, by simpa [World.setCell] using h.size, fun k hk hne => (Below.heap_setCell w' p u k (fun e => hne (by rw [hr, e]))).trans (h.block k hk hne)⟩
theorem grown_below {w w' : World} (h : Below w.heap.size w w') (row : Option Nat) : w.grownBy w' row := ⟨h.os, h.tape, h.output, h.size, fun k hk _ => h.block k hk⟩
theorem grown_trans {a b c : World} {row : Option Nat} (h : a.grownBy b row) (k : b.grownBy c row) : a.grownBy c row :=
  ⟨k.os.trans h.os, k.tape.trans h.tape, k.output.trans h.output, Nat.le_trans h.size k.size, fun i hi hne => (k.block i (Nat.lt_of_lt_of_le hi h.size) hne).trans (h.block i hi hne)⟩
end Go.Proofs.Ytjbhlbcjljdjmaa
