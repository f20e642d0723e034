/- Several texts in one: Plain lists of numbers: ascending, inserted, sorted. No program in sight. Votes, in plain words: the place of a number in a list, points, who is before whom. No program in sight. -/
import Derived.Test.YtminhkfbpiknkaaDoorBdA1x6
namespace Go.Proofs.YtminhkfbpiknkaaDoor
def allB (a b : Int) (l : List Int) : Bool := l.all (fun n => inB n a b)
def ascAt (l : List Int) (i : Nat) : Bool := i == 0 || decide (l.getD (i - 1) 0 < l.getD i 0)
def ascB (l : List Int) : Bool := (List.range l.length).all (ascAt l)
def strictB (l : List Int) (a b : Int) : Bool := ascB l && allB a b l
def putF (n : Int) : List Int → List Int
 | [] => [n]
 | x :: xs => if n ≤ x then n :: x :: xs else x :: putF n xs
def sortF (l : List Int) : List Int := l.foldl (fun acc x => putF x acc) []
def orderB (l : List Int) : Bool := inB l.length 1 7 && strictB (sortF l) 0 (l.length - 1)
theorem putF_perm (n : Int) (l : List Int) : (putF n l).Perm (n :: l) := by
 induction l with
 | nil => exact .refl _
 | cons x xs ih =>
  unfold putF; split
  ·exact .refl _
  ·exact (List.Perm.cons x ih).trans (List.Perm.swap n x xs)
theorem foldPut_perm (l : List Int) : ∀ acc : List Int, (l.foldl (fun acc x => putF x acc) acc).Perm (acc ++ l) := by
 induction l with
 | nil => intro acc; simp
 | cons x xs ih =>
  intro acc
  refine (ih _).trans ?_
  refine (List.Perm.append_right xs (putF_perm x acc)).trans ?_
  exact (List.perm_middle (a := x) (l₁ := acc) (l₂ := xs)).symm
theorem sortF_perm (l : List Int) : (sortF l).Perm l := by have := foldPut_perm l []; simpa [sortF] using this
theorem putF_sorted (n : Int) (l : List Int) (h : l.Pairwise (· ≤ ·)) : (putF n l).Pairwise (· ≤ ·) := by
 induction l with
 | nil => simp [putF]
 | cons x xs ih =>
  rw [List.pairwise_cons] at h
  unfold putF; split
  ·rename_i hle
   rw [List.pairwise_cons, List.pairwise_cons]
   refine ⟨fun y hy => ?_, h⟩
   rcases List.mem_cons.1 hy with rfl | hy
   ·exact hle
   ·exact Int.le_trans hle (h.1 y hy)
  ·rename_i hle
   rw [List.pairwise_cons]
   refine ⟨fun y hy => ?_, ih h.2⟩
   rcases List.mem_cons.1 ((putF_perm n xs).mem_iff.1 hy) with rfl | hy
   ·omega
   ·exact h.1 y hy
theorem foldPut_sorted (l : List Int) : ∀ acc : List Int, acc.Pairwise (· ≤ ·) → (l.foldl (fun acc x => putF x acc) acc).Pairwise (· ≤ ·) := by
 induction l with
 | nil => intro acc h; exact h
 | cons x xs ih => intro acc h; exact ih _ (putF_sorted x acc h)
theorem sortF_sorted (l : List Int) : (sortF l).Pairwise (· ≤ ·) := foldPut_sorted l [] List.Pairwise.nil
theorem ascB_iff (l : List Int) : ascB l = true ↔ ∀ i, i + 1 < l.length → l.getD i 0 < l.getD (i + 1) 0 := by
 unfold ascB
 rw [List.all_eq_true]
 constructor
 ·intro h i hi
  have := h (i + 1) (by simpa using hi)
  simpa [ascAt] using this
 ·intro h i hi
  have hi' : i < l.length := by simpa using hi
  cases i with
  | zero => rfl
  | succ i => simp only [ascAt]; have := h i hi'; simp at this ⊢; exact this
theorem asc_of_pairwise (l : List Int) (h : l.Pairwise (· < ·)) : ascB l = true := by
 rw [ascB_iff]
 intro i hi
 have := List.pairwise_iff_getElem.1 h i (i + 1) (by omega) hi (by omega)
 simpa [List.getD_eq_getElem?_getD, List.getElem?_eq_getElem (show i < l.length by omega), List.getElem?_eq_getElem hi] using this
theorem pairwise_of_asc (l : List Int) (h : ascB l = true) : l.Pairwise (· < ·) := by
 rw [ascB_iff] at h
 rw [List.pairwise_iff_getElem]
 have key : ∀ d i, i + d + 1 < l.length → l.getD i 0 < l.getD (i + d + 1) 0 := by
  intro d
  induction d with
  | zero => intro i hi; exact h i hi
  | succ d ih => intro i hi; exact Int.lt_trans (ih i (by omega)) (h (i + d + 1) (by omega))
 intro i j hi hj hij
 have := key (j - i - 1) i (by omega)
 rw [show i + (j - i - 1) + 1 = j by omega] at this
 simpa [List.getD_eq_getElem?_getD, List.getElem?_eq_getElem hi, List.getElem?_eq_getElem hj] using this
theorem sorted_nodup_iff (l : List Int) (h : l.Pairwise (· ≤ ·)) : l.Pairwise (· < ·) ↔ l.Nodup := by
 constructor
 ·intro h'; exact h'.imp (fun hab => by omega)
 ·intro hn
  have := List.Pairwise.and h hn
  exact this.imp (fun ⟨h1, h2⟩ => by omega)
theorem orderB_iff (l : List Int) : orderB l = true ↔ (1 ≤ l.length ∧ l.length ≤ 7) ∧ l.Nodup ∧ ∀ n ∈ l, 0 ≤ n ∧ n ≤ (l.length : Int) - 1 := by
 unfold orderB strictB allB
 rw [Bool.and_eq_true, Bool.and_eq_true, inB_iff, List.all_eq_true]
 have h1 : ascB (sortF l) = true ↔ l.Nodup := by
  rw [← (sortF_perm l).nodup_iff, ← sorted_nodup_iff _ (sortF_sorted l)]
  exact ⟨pairwise_of_asc _, asc_of_pairwise _⟩
 rw [h1]
 constructor
 ·rintro ⟨a, b, c⟩
  exact ⟨by omega, b, fun n hn => inB_iff.1 (c n ((sortF_perm l).mem_iff.2 hn))⟩
 ·rintro ⟨a, b, c⟩
  exact ⟨by omega, b, fun n hn => inB_iff.2 (c n ((sortF_perm l).mem_iff.1 hn))⟩
open Go.RowKit
structure Vote (n : Nat) (v : List Int) : Prop where
 len : v.length = n
 nodup : v.Nodup
 bd : ∀ x ∈ v, 0 ≤ x ∧ x < n
theorem Vote.all {n : Nat} {v : List Int} (h : Vote n v) {p : Nat} (hp : p < n) : (p : Int) ∈ v := by
 have hm : (v.map Int.toNat).Nodup := by
  rw [List.nodup_iff_pairwise_ne, List.pairwise_map]
  refine List.Pairwise.imp_of_mem ?_ h.nodup
  intro a b ha hb hab e
  have := h.bd a ha
  have := h.bd b hb
  omega
 have hsub : v.map Int.toNat ⊆ List.range n := by
  intro x hx
  obtain ⟨a, ha, rfl⟩ := List.mem_map.1 hx
  have := h.bd a ha
  simp; omega
 have hlen : (v.map Int.toNat).length = n := by simp [h.len]
 have hmem : p ∈ v.map Int.toNat := Classical.byContradiction fun hc => by
  have := List.Nodup.length_le_of_subset (List.nodup_cons.2 ⟨hc, hm⟩) (fun x hx => by
   rcases List.mem_cons.1 hx with rfl | hx
   ·simpa using hp
   ·exact hsub hx : p :: v.map Int.toNat ⊆ List.range n)
  simp at this
  have := h.len
  omega
 obtain ⟨a, ha, e⟩ := List.mem_map.1 hmem
 have := h.bd a ha
 rw [show (p : Int) = a by omega]
 exact ha
end Go.Proofs.YtminhkfbpiknkaaDoor
