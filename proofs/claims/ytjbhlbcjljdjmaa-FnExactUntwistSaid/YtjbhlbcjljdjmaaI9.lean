/- Rows of numbers: read, written, made. -/
import Derived.Test.YtjbhlbcjljdjmaaI1
namespace Go.Proofs.Ytjbhlbcjljdjmaa
open Go.RowKit
theorem row_flat (l : List Int) : l.flatMap cInt = l.map (fun n => Value.int .i64 n) := by
  induction l with
  | nil => rfl
  | cons a l ih => rw [List.flatMap_cons, ih]; rfl
theorem row_get (l : List Int) (k : Nat) (h : k < l.length) : (l.flatMap cInt)[k]? = some (.int .i64 l[k]) := by
  rw [row_flat, List.getElem?_map, List.getElem?_eq_getElem h]; rfl
theorem row_set (l : List Int) (k : Nat) (x : Int) : (l.flatMap cInt).set k (.int .i64 x) = (l.set k x).flatMap cInt := by
  rw [row_flat, row_flat, List.map_set]
theorem row_made (n : Nat) : (madeCells (Value.int .i64 0).cells n).toList = (List.replicate n (0 : Int)).flatMap cInt := by
  rw [row_flat]
  apply List.ext_getElem
  · simp [madeCells]
  · intro i h1 h2
    simp [madeCells, Value.cells, Nat.mod_one]
/-- a row of numbers after a store -/
theorem row_stored {w : World} {B g c n : Nat} {l : List Int} (h : w.ownsRow B 3 1 (.slice (some ⟨g, 0, none⟩) n c) n (l.flatMap cInt)) (k : Nat) (x : Int) :
    (w.setCell ⟨g, k, none⟩ (.int .i64 x)).ownsRow B 3 1 (.slice (some ⟨g, 0, none⟩) n c) n ((l.set k x).flatMap cInt) := by
  have := (h.stored k (.int .i64 x)).1
  rwa [row_set] at this
theorem row_len {w : World} {B n : Nat} {e : TypeId} {v : Value} {l : List Int} (h : w.ownsRow B e 1 v n (l.flatMap cInt)) : l.length = n := by
  have := h.1
  rw [row_flat, List.length_map] at this
  omega
theorem row_cell {w : World} {B g c n : Nat} {l : List Int} (h : w.ownsRow B 3 1 (.slice (some ⟨g, 0, none⟩) n c) n (l.flatMap cInt)) {k : Nat} (hk : k < l.length) : w.cell? ⟨g, k, none⟩ = some (.int .i64 l[k]) :=
  (h.cellAt k (by have := h.1; have := row_len h; omega)).trans (row_get l k hk)
end Go.Proofs.Ytjbhlbcjljdjmaa
