/- Words for memory: slices that can be read, slices that the call owns; lists of flat records in them. No program in sight. -/
import Derived.Test.YtjbhlbcjljdjmaaA1
namespace Go.Proofs.Ytjbhlbcjljdjmaa
open Go.RowKit

section
variable {α : Type} {f : α → List Value} {size : Nat}
theorem len_flat (hf : ∀ a, (f a).length = size) (l : List α) : (l.flatMap f).length = l.length * size := by
  induction l with
  | nil => simp
  | cons a l ih => rw [List.flatMap_cons, List.length_append, hf, ih, List.length_cons, Nat.add_mul]; omega
theorem get_flat (hf : ∀ a, (f a).length = size) (l : List α) (k : Nat) (hk : k < l.length) (j : Nat) (hj : j < size) :
    (l.flatMap f)[k * size + j]? = (f l[k])[j]? := by
  induction l generalizing k with
  | nil => simp at hk
  | cons a l ih =>
    rw [List.flatMap_cons]
    cases k with
    | zero => rw [Nat.zero_mul, Nat.zero_add, List.getElem?_append_left (by rw [hf]; exact hj)]; rfl
    | succ k =>
      rw [List.getElem?_append_right (by rw [hf, Nat.add_mul]; omega), hf, show (k + 1) * size + j - size = k * size + j by rw [Nat.add_mul]; omega, ih k (by simpa using hk)]
      rfl
end

/-- The slice value v reads as n elements of 'size' cells, the cells xs. -/
def RdS (w : World) (size : Nat) (v : Value) (n : Nat) (xs : List Value) : Prop :=
  xs.length = n * size ∧ ∃ A c, v = .slice A n c ∧ n ≤ c ∧ c ≤ maxLen ∧ (0 < n → ∃ g off, A = some ⟨g, off, none⟩ ∧ ∀ j u, xs[j]? = some u → w.cell? ⟨g, off + j, none⟩ = some u)
/-- The slice value v reads as the records l. -/
def RdL {α : Type} (f : α → List Value) (size : Nat) (w : World) (v : Value) (l : List α) : Prop := RdS w size v l.length (l.flatMap f)

section
variable {w w' : World} {size n : Nat} {v : Value} {xs : List Value}
theorem RdS.keep (h : RdS w size v n xs) (hb : ∀ p : Addr, ∀ u, w.cell? p = some u → w'.cell? p = some u) : RdS w' size v n xs := by
  obtain ⟨h1, A, c, h2, h3, h4, h5⟩ := h
  refine ⟨h1, A, c, h2, h3, h4, fun hn => ?_⟩
  obtain ⟨g, off, hA, hc⟩ := h5 hn
  exact ⟨g, off, hA, fun j u hu => hb _ _ (hc j u hu)⟩
theorem cell_below {B : Nat} (hb : Below B w w') (hB : w.heap.size ≤ B) (p : Addr) (u : Value) (h : w.cell? p = some u) : w'.cell? p = some u :=
  (hb.cell (p := p) (Nat.lt_of_lt_of_le (World.block_lt_of_cell? w p h) hB)).trans h
theorem RdS.below (h : RdS w size v n xs) (hb : Below w.heap.size w w') : RdS w' size v n xs := h.keep (cell_below hb (Nat.le_refl _))
theorem RdS.form (h : RdS w size v n xs) : ∃ A c, v = .slice A n c ∧ n ≤ c ∧ c ≤ maxLen := by
  obtain ⟨_, A, c, h2, h3, h4, _⟩ := h
  exact ⟨A, c, h2, h3, h4⟩
theorem RdS.at_ {A : Option Addr} {c : Nat} (h : RdS w size (.slice A n c) n xs) (hs : 0 < size) (hn : 0 < n) : ∃ g off, A = some ⟨g, off, none⟩ ∧ g < w.heap.size ∧ ∀ j u, xs[j]? = some u → w.cell? ⟨g, off + j, none⟩ = some u := by
  obtain ⟨h1, A', c', h2, h3, h4, h5⟩ := h
  injection h2 with e1 e2 e3
  subst e1
  obtain ⟨g, off, hA, hc⟩ := h5 hn
  have hl : 0 < xs.length := by rw [h1]; exact Nat.mul_pos hn hs
  exact ⟨g, off, hA, World.block_lt_of_cell? w _ (hc 0 xs[0] (List.getElem?_eq_getElem hl)), hc⟩
theorem RdS.of_own {B : Nat} {e : TypeId} (h : w.ownsRow B e size v n xs) : RdS w size v n xs := by
  refine ⟨h.1, ?_⟩
  rcases h.2 with ⟨rfl, rfl⟩ | ⟨g, cap, cur, rfl, _, hh, h1, h2, h3, h4⟩
  · exact ⟨none, 0, rfl, Nat.le_refl _, by simp [maxLen], fun h => absurd h (by omega)⟩
  · refine ⟨some ⟨g, 0, none⟩, cap, rfl, h1, h2, fun _ => ⟨g, 0, rfl, fun j u hu => ?_⟩⟩
    have := h.cells (g := g) rfl j u hu
    have hadd : (⟨g, 0, none⟩ : Addr).add j = ⟨g, 0 + j, none⟩ := by unfold Addr.add; split <;> simp_all
    rwa [hadd] at this
end

section
variable {α : Type} {f : α → List Value} {w w' : World} {size : Nat} {v : Value} {l : List α}
theorem RdL.below (h : RdL f size w v l) (hb : Below w.heap.size w w') : RdL f size w' v l := RdS.below h hb
theorem RdL.form (h : RdL f size w v l) : ∃ A c, v = .slice A l.length c ∧ l.length ≤ c ∧ c ≤ 9223372036854775807 := by
  obtain ⟨A, c, h1, h2, h3⟩ := RdS.form h
  exact ⟨A, c, h1, h2, by simpa [maxLen] using h3⟩
theorem RdL.cell {A : Option Addr} {c : Nat} (h : RdL f size w (.slice A l.length c) l) (hf : ∀ a, (f a).length = size) (hs : 0 < size) {k : Nat} (hk : k < l.length) :
    ∃ g off, A = some ⟨g, off, none⟩ ∧ g < w.heap.size ∧ ∀ j u, (f l[k])[j]? = some u → w.cell? ⟨g, off + k * size + j, none⟩ = some u := by
  obtain ⟨g, off, hA, hg, hc⟩ := RdS.at_ h hs (by omega)
  refine ⟨g, off, hA, hg, fun j u hu => ?_⟩
  have hj : j < size := by
    have := (List.getElem?_eq_some_iff.1 hu).1
    rwa [hf] at this
  rw [Nat.add_assoc]
  exact hc _ u (by rw [get_flat hf l k hk j hj]; exact hu)
end

theorem own_below {w w' : World} {B : Nat} {e : TypeId} {size n : Nat} {v : Value} {xs : List Value} (h : w.ownsRow B e size v n xs) (hb : Below w.heap.size w w') : w'.ownsRow B e size v n xs := by
  refine h.kept (row := none) ⟨hb.os, hb.tape, hb.output, hb.size, fun k hk _ => hb.block k hk⟩ ?_
  cases v.ownBlock <;> simp
theorem own_mono {w : World} {B B' : Nat} {e : TypeId} {size n : Nat} {v : Value} {xs : List Value} (h : w.ownsRow B e size v n xs) (hB : B' ≤ B) : w.ownsRow B' e size v n xs := by
  refine ⟨h.1, ?_⟩
  rcases h.2 with h | ⟨g, cap, cur, h1, h2, h3⟩
  · exact .inl h
  · exact .inr ⟨g, cap, cur, h1, by omega, h3⟩
theorem flat_snoc {α : Type} (f : α → List Value) (l : List α) {k : Nat} (h : k < l.length) : (l.take (k + 1)).flatMap f = (l.take k).flatMap f ++ f l[k] := by
  rw [List.take_succ_eq_append_getElem h, List.flatMap_append]; simp
/- lists, one element after the other -/
theorem take_snoc_l {α : Type} (l : List α) {k : Nat} (h : k < l.length) : l.take (k + 1) = l.take k ++ [l[k]] := by
  rw [List.take_succ_eq_append_getElem h]
theorem all_take_succ {α : Type} {p : α → Bool} {l : List α} {k : Nat} (h : k < l.length) (h1 : (l.take k).all p = true) (h2 : p l[k] = true) : (l.take (k + 1)).all p = true := by
  rw [take_snoc_l l h, List.all_append, h1]; simp [h2]
theorem all_take_end {α : Type} {p : α → Bool} {l : List α} {k : Nat} (h : ¬ k < l.length) (h1 : (l.take k).all p = true) : l.all p = true := by
  rwa [List.take_of_length_le (by omega)] at h1
theorem all_false_at {α : Type} {p : α → Bool} {l : List α} {k : Nat} (h : k < l.length) (h2 : p l[k] = false) : l.all p = false := by
  rw [List.all_eq_false]; exact ⟨l[k], List.getElem_mem h, by simp [h2]⟩
theorem any_take_succ {α : Type} {p : α → Bool} {l : List α} {k : Nat} (h : k < l.length) (h1 : (l.take k).any p = false) (h2 : p l[k] = false) : (l.take (k + 1)).any p = false := by
  rw [take_snoc_l l h, List.any_append, h1]; simp [h2]
theorem any_take_end {α : Type} {p : α → Bool} {l : List α} {k : Nat} (h : ¬ k < l.length) (h1 : (l.take k).any p = false) : l.any p = false := by
  rwa [List.take_of_length_le (by omega)] at h1
theorem any_true_at {α : Type} {p : α → Bool} {l : List α} {k : Nat} (h : k < l.length) (h2 : p l[k] = true) : l.any p = true := by
  rw [List.any_eq_true]; exact ⟨l[k], List.getElem_mem h, h2⟩

/-- what is left of a size -/
def szLen (m : Int) (n : Nat) : Int := if m < n then -1 else m - n
theorem szLen_le {m : Int} {n : Nat} (hm : m ≤ 1048576) (h : ¬ szLen m n < 0) : n ≤ 1048576 ∧ 0 ≤ szLen m n ∧ szLen m n ≤ 1048576 ∧ szLen m n = m - n := by
  unfold szLen at *
  by_cases h' : m < n
  · rw [if_pos h'] at h; exact absurd (by decide) h
  · rw [if_neg h']; omega

/-- A size is taken off: what is left is m - tot, or a number below 0. -/
def SzPost (m : Int) (tot : Nat) (w : World) (e : Ending) (w' : World) : Prop := ∃ r : Int, e = .returned (.int .i64 r) ∧ w = w' ∧ r ≤ m ∧ (0 ≤ r → (tot : Int) = m - r)
theorem sum_take_succ {α : Type} (g : α → Nat) (l : List α) {k : Nat} (h : k < l.length) : ((l.take (k + 1)).map g).sum = ((l.take k).map g).sum + g l[k] := by
  rw [List.take_succ_eq_append_getElem h, List.map_append, List.sum_append_nat]; simp
theorem foldl_take_succ {α β : Type} (g : β → α → β) (b : β) (l : List α) {k : Nat} (h : k < l.length) : (l.take (k + 1)).foldl g b = g ((l.take k).foldl g b) l[k] := by
  rw [List.take_succ_eq_append_getElem h, List.foldl_append]; rfl
def cStr (s : ByteArray) : List Value := [.string s]
theorem cStr_len (a : ByteArray) : (cStr a).length = 1 := rfl

theorem ite_max (a b : Nat) : (if a < b then (b : Int) else (a : Int)) = ((max a b : Nat) : Int) := by split <;> omega
theorem int_eq {a b : Int} (h : a = b) : Value.int .i64 a = .int .i64 b := by rw [h]
theorem size_set1 {xs A : List Value} {k : Nat} (a : Value) (h : xs.take k = A) (hk : k < xs.length) : (xs.set k a).take (k + 1) = A ++ [a] := by
  subst h
  rw [List.take_succ_eq_append_getElem (by simpa using hk), List.take_set_of_le (Nat.le_refl _)]
  simp

/-- flat records -/
def cInt (n : Int) : List Value := [.int .i64 n]
def cPair (t : Int × Int) : List Value := [.int .i64 t.1, .int .i64 t.2]
def cTri (t : Int × Int × Int) : List Value := [.int .i64 t.1, .int .i64 t.2.1, .int .i64 t.2.2]
theorem cTri_len (a : Int × Int × Int) : (cTri a).length = 3 := rfl
theorem cInt_len (a : Int) : (cInt a).length = 1 := rfl
theorem cPair_len (a : Int × Int) : (cPair a).length = 2 := rfl
end Go.Proofs.Ytjbhlbcjljdjmaa
