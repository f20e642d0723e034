/- Plain law of posters: what the lines hold, and that a wider poster has no more lines. No program in sight. -/
import Derived.Test.YthponccjbbkhaaaD3
import Derived.Test.YthponccjbbkhaaaE1
namespace Go.Proofs.Ythponccjbbkhaaa
open Go.RowKit

def addLine (t s : ByteArray) : ByteArray := (t ++ spc) ++ s
def joinS (l : List ByteArray) : ByteArray := l.foldl addLine ByteArray.empty
theorem joinS_snoc (l : List ByteArray) (s : ByteArray) : joinS (l ++ [s]) = addLine (joinS l) s := by simp [joinS, List.foldl_append]
theorem set_last {out : List ByteArray} (h : 0 < out.length) (y : ByteArray) : out.set (out.length - 1) y = out.dropLast ++ [y] := by
  apply List.ext_getElem
  · simp; omega
  · intro i h1 h2
    rw [List.length_set] at h1
    by_cases hi : i = out.length - 1
    · subst hi; simp
    · rw [List.getElem_set_ne (fun e => hi e.symm), List.getElem_append_left (by simp; omega), List.getElem_dropLast]
theorem last_split {out : List ByteArray} (h : 0 < out.length) : out = out.dropLast ++ [lastOf out] := by
  rw [← set_last h, lastOf_get h, List.set_getElem_self]
theorem lastOf_snoc (l : List ByteArray) (s : ByteArray) : lastOf (l ++ [s]) = s := by
  unfold lastOf; simp [List.getD_eq_getElem?_getD]
theorem step_join (m : Int) (out : List ByteArray) (w : ByteArray) : joinS (postStep m out w) = addLine (joinS out) w := by
  unfold postStep
  split
  · rename_i hf
    have h := (fitsB_iff.1 hf).1
    rw [set_last h, joinS_snoc]
    conv => rhs; rw [last_split h, joinS_snoc]
    simp [addLine, ByteArray.append_assoc]
  · exact joinS_snoc _ _
theorem post_join (m : Int) (l : List ByteArray) (k : Nat) (hk : k ≤ l.length) : joinS (postF m (l.take k)) = joinS (l.take k) := by
  induction k with
  | zero => rfl
  | succ k ih => rw [postF_succ m l (by omega), step_join, ih (by omega), take_snoc_l l (by omega), joinS_snoc]
theorem post_join_all (m : Int) (l : List ByteArray) : joinS (postF m l) = joinS l := by
  have := post_join m l l.length (Nat.le_refl _)
  rwa [List.take_length] at this
def lineTot (l : List ByteArray) : Nat := (l.map (fun s => s.size + 1)).sum
theorem fold_size (l : List ByteArray) : ∀ t : ByteArray, (l.foldl addLine t).size = t.size + lineTot l := by
  induction l with
  | nil => intro t; rfl
  | cons s l ih =>
    intro t
    rw [List.foldl_cons, ih]
    unfold addLine lineTot
    rw [ByteArray.size_append, ByteArray.size_append, List.map_cons, List.sum_cons]
    have : spc.size = 1 := rfl
    omega
theorem join_size (l : List ByteArray) : (joinS l).size = lineTot l := by
  rw [joinS, fold_size]
  have : ByteArray.empty.size = 0 := rfl
  omega
theorem lineTot_le (l : List ByteArray) (m : Nat) (h : ∀ s ∈ l, s.size ≤ m) : lineTot l ≤ l.length * (m + 1) := by
  induction l with
  | nil => simp [lineTot]
  | cons s l ih =>
    have h1 := ih (fun x hx => h x (List.mem_cons_of_mem _ hx))
    have h2 := h s List.mem_cons_self
    unfold lineTot at *
    rw [List.map_cons, List.sum_cons, List.length_cons, Nat.add_mul]
    omega
/-- a has no more lines than b, and where it has as many, its last is no longer. -/
def gRel (a b : List ByteArray) : Prop := a.length < b.length ∨ (a.length = b.length ∧ (0 < a.length → (lastOf a).size ≤ (lastOf b).size))
theorem step_t {m : Int} {out : List ByteArray} {w : ByteArray} (h : fitsB m out w = true) : (postStep m out w).length = out.length ∧ lastOf (postStep m out w) = lastOf out ++ (spc ++ w) := by
  have hl := (fitsB_iff.1 h).1
  rw [postStep, if_pos h]
  refine ⟨by simp, ?_⟩
  rw [set_last hl, lastOf_snoc]
theorem step_f {m : Int} {out : List ByteArray} {w : ByteArray} (h : ¬ fitsB m out w = true) : (postStep m out w).length = out.length + 1 ∧ lastOf (postStep m out w) = w := by
  rw [postStep, if_neg h]
  exact ⟨by simp, lastOf_snoc _ _⟩
theorem size_fit (a b : ByteArray) : (a ++ (spc ++ b)).size = a.size + 1 + b.size := by
  rw [ByteArray.size_append, ByteArray.size_append]
  have : spc.size = 1 := rfl
  omega
theorem g_step {m m' : Int} (hm : m ≤ m') {a b : List ByteArray} (h : gRel a b) (w : ByteArray) : gRel (postStep m' a w) (postStep m b w) := by
  unfold gRel at *
  by_cases ha : fitsB m' a w = true <;> by_cases hb : fitsB m b w = true
  · obtain ⟨a1, a2⟩ := step_t ha
    obtain ⟨b1, b2⟩ := step_t hb
    rw [a1, a2, b1, b2, size_fit, size_fit]
    rcases h with h | ⟨h, h'⟩
    · exact .inl h
    · exact .inr ⟨h, fun h0 => by have := h' h0; omega⟩
  · obtain ⟨a1, a2⟩ := step_t ha
    obtain ⟨b1, b2⟩ := step_f hb
    rw [a1, b1]
    left; omega
  · obtain ⟨a1, a2⟩ := step_f ha
    obtain ⟨b1, b2⟩ := step_t hb
    rw [a1, a2, b1, b2, size_fit]
    rcases h with h | ⟨h, h'⟩
    · by_cases he : a.length + 1 = b.length
      · exact .inr ⟨he, fun _ => by omega⟩
      · left; omega
    · exfalso
      obtain ⟨q1, q2⟩ := fitsB_iff.1 hb
      have := h' (by omega)
      exact ha (fitsB_iff.2 ⟨by omega, by omega⟩)
  · obtain ⟨a1, a2⟩ := step_f ha
    obtain ⟨b1, b2⟩ := step_f hb
    rw [a1, a2, b1, b2]
    rcases h with h | ⟨h, _⟩
    · left; omega
    · exact .inr ⟨by omega, fun _ => Nat.le_refl _⟩
theorem g_fold {m m' : Int} (hm : m ≤ m') (l : List ByteArray) : ∀ a b : List ByteArray, gRel a b → gRel (l.foldl (postStep m') a) (l.foldl (postStep m) b) := by
  induction l with
  | nil => intro a b h; exact h
  | cons s l ih => intro a b h; exact ih _ _ (g_step hm h s)
theorem post_mono {m m' : Int} (hm : m ≤ m') (l : List ByteArray) : (postF m' l).length ≤ (postF m l).length := by
  have := g_fold hm l [] [] (.inr ⟨rfl, fun h => absurd h (by simp)⟩)
  unfold postF
  rcases this with h | ⟨h, _⟩ <;> omega
theorem step_pos (m : Int) (out : List ByteArray) (w : ByteArray) : 0 < (postStep m out w).length := by
  by_cases h : fitsB m out w = true
  · rw [(step_t h).1]; exact (fitsB_iff.1 h).1
  · rw [(step_f h).1]; omega
theorem post_pos (m : Int) (l : List ByteArray) : 0 < (postF m l).length ↔ 0 < l.length := by
  rcases Nat.eq_zero_or_pos l.length with h | h
  · obtain rfl : l = [] := List.eq_nil_of_length_eq_zero h
    simp [postF]
  · have := postF_succ m l (k := l.length - 1) (by omega)
    rw [show l.length - 1 + 1 = l.length by omega, List.take_length] at this
    rw [this]
    exact ⟨fun _ => h, fun _ => step_pos _ _ _⟩
theorem bytesB_append (a b : ByteArray) (x y : Int) : bytesB (a ++ b) x y = (bytesB a x y && bytesB b x y) := by
  unfold bytesB
  rw [ByteArray.data_append, Array.toList_append, List.all_append]
theorem bytesB_mono {s : ByteArray} {a b a' : Int} (h : bytesB s a b = true) (ha : a' ≤ a) : bytesB s a' b = true := by
  unfold bytesB at *
  rw [List.all_eq_true] at *
  intro c hc
  have := h c hc
  simp [byteB] at *
  omega
theorem step_bytes {m : Int} {out : List ByteArray} {w : ByteArray} (h : ∀ s ∈ out, bytesB s 32 126 = true) (hw : bytesB w 32 126 = true) : ∀ s ∈ postStep m out w, bytesB s 32 126 = true := by
  intro s hs
  by_cases hf : fitsB m out w = true
  · have hl := (fitsB_iff.1 hf).1
    rw [postStep, if_pos hf, set_last hl] at hs
    rcases List.mem_append.1 hs with h1 | h1
    · exact h s ((List.dropLast_sublist out).subset h1)
    · simp at h1
      subst h1
      rw [bytesB_append, bytesB_append, hw, h (lastOf out) (by rw [lastOf_get hl]; exact List.getElem_mem _)]
      decide
  · rw [postStep, if_neg hf] at hs
    rcases List.mem_append.1 hs with h1 | h1
    · exact h s h1
    · simp at h1; subst h1; exact hw
theorem post_bytes {m : Int} {l : List ByteArray} (h : ∀ s ∈ l, bytesB s 32 126 = true) (k : Nat) (hk : k ≤ l.length) : ∀ s ∈ postF m (l.take k), bytesB s 32 126 = true := by
  induction k with
  | zero => simp [postF]
  | succ k ih => rw [postF_succ m l (by omega)]; exact step_bytes (ih (by omega)) (h _ (List.getElem_mem _))
theorem lw_good (l : List ByteArray) (lines : Int) : ∀ (n : Nat) (k : Int), lwFrom l lines n k < 0 ∨ goodB l lines (lwFrom l lines n k) = true := by
  intro n
  induction n with
  | zero => intro k; left; show (-1 : Int) < 0; omega
  | succ n ih =>
    intro k
    unfold lwFrom
    split
    · rename_i h; exact .inr h
    · exact ih _
theorem least_good (l : List ByteArray) : leastF l 3 < 0 ∨ (0 ≤ fewF (leastF l 3) l ∧ fewF (leastF l 3) l ≤ 3) := by
  rw [leastF, if_pos (inB_iff.2 ⟨by omega, by omega⟩)]
  rcases lw_good l 3 60 1 with h | h
  · exact .inl h
  · right
    unfold goodB at h
    simpa using h
end Go.Proofs.Ythponccjbbkhaaa
