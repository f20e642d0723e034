/- FnPosters in plain words: all the facts that the law asks for, of drawn words. No program in sight but the names. -/
import Derived.Test.YthponccjbbkhaaaQ1
import Derived.Test.YthponccjbbkhaaaW4
namespace Go.Proofs.Ythponccjbbkhaaa
open Go.RowKit

theorem wordsL_ok : ∀ s ∈ wordsL, 1 ≤ s.size ∧ s.size ≤ 8 ∧ bytesB s 33 126 = true := by
  intro s hs
  simp only [wordsL, List.mem_cons, List.not_mem_nil, or_false] at hs
  rcases hs with rfl | rfl | rfl | rfl | rfl | rfl | rfl | rfl <;> decide
theorem drawn_words {l : List ByteArray} (h : ∀ s ∈ l, s ∈ wordsL) (hl : l.length ≤ 8) {m : Int} (hm : 8 ≤ m ∧ m ≤ 60) : wordsB m l = true :=
  wordsB_t (inB_iff.2 ⟨by omega, hm.2⟩) (by omega) (List.all_eq_true.2 (fun s hs => by
    obtain ⟨h1, h2, h3⟩ := wordsL_ok s (h s hs)
    exact wordB_t h1 (by omega) h3))
theorem joinS_take (l : List ByteArray) {k : Nat} (h : k < l.length) : joinS (l.take (k + 1)) = (joinS (l.take k) ++ ⟨#[32]⟩) ++ l[k] := by
  rw [take_snoc_l l h, joinS_snoc]; rfl
theorem lineTot_take (l : List ByteArray) {k : Nat} (h : k < l.length) : lineTot (l.take (k + 1)) = lineTot (l.take k) + (l[k].size + 1) := sum_take_succ _ l h
theorem longF_le (l : List ByteArray) (m : Nat) (h : ∀ s ∈ l, s.size ≤ m) : longF l ≤ m := by
  have : ∀ (l : List ByteArray) (b : Nat), b ≤ m → (∀ s ∈ l, s.size ≤ m) → l.foldl (fun n s => max n s.size) b ≤ m := by
    intro l
    induction l with
    | nil => intro b hb _; exact hb
    | cons a l ih => intro b hb h; exact ih _ (Nat.max_le.2 ⟨hb, h a List.mem_cons_self⟩) (fun s hs => h s (List.mem_cons_of_mem _ hs))
  exact this l 0 (Nat.zero_le _) h
/-- What the law asks for, of the lines of drawn words. -/
structure Lines (l ls : List ByteArray) (m : Nat) : Prop where
  eq : postL m l = ls
  few : fewF m l = (ls.length : Int)
  len : ls.length ≤ 8
  sizes : ∀ s ∈ ls, s.size ≤ m ∧ bytesB s 32 126 = true
  join : joinS ls = joinS l
  tot : (lineTot l : Int) ≤ (ls.length : Int) * ((m : Int) + 1)
  wide : fewF ((m : Int) + 1) l ≤ ls.length
  long : longF ls ≤ m
  least : leastF l 3 < 0 ∨ (0 ≤ fewF (leastF l 3) l ∧ fewF (leastF l 3) l ≤ 3)
  nil : ls.length = 0 ↔ l.length = 0
theorem lines_of {l : List ByteArray} (h : ∀ s ∈ l, s ∈ wordsL) (hl : l.length ≤ 8) {m : Nat} (hm : 8 ≤ m ∧ m ≤ 57) : ∃ ls, Lines l ls m := by
  have hw := drawn_words h hl (m := m) (by omega)
  have hw1 := drawn_words h hl (m := (m : Int) + 1) (by omega)
  have hlen : (postF m l).length ≤ l.length := by
    have := postF_len m l l.length (Nat.le_refl _)
    rwa [List.take_length] at this
  have hsz : ∀ s ∈ postF m l, (s.size : Int) ≤ m := by
    have := postF_size (m := m) (l := l) (fun s hs => by have := (wordsL_ok s (h s hs)).2.1; omega) l.length (Nat.le_refl _)
    rwa [List.take_length] at this
  have hby : ∀ s ∈ postF m l, bytesB s 32 126 = true := by
    have := post_bytes (m := m) (l := l) (fun s hs => bytesB_mono (wordsL_ok s (h s hs)).2.2 (by omega)) l.length (Nat.le_refl _)
    rwa [List.take_length] at this
  have hsz' : ∀ s ∈ postF m l, s.size ≤ m := fun s hs => by have := hsz s hs; omega
  have hj := post_join_all m l
  refine ⟨postF m l, ?_, ?_, by omega, fun s hs => ⟨hsz' s hs, hby s hs⟩, hj, ?_, ?_, longF_le _ _ hsz', least_good l, ?_⟩
  · rw [postL, if_pos hw]
  · rw [fewF, if_pos hw]
  · have h1 := lineTot_le (postF m l) m hsz'
    have h2 := join_size (postF m l)
    have h3 := join_size l
    rw [hj] at h2
    have h4 : lineTot l ≤ (postF m l).length * (m + 1) := by omega
    have h5 : ((lineTot l : Nat) : Int) ≤ (((postF m l).length * (m + 1) : Nat) : Int) := by exact_mod_cast h4
    rwa [Int.natCast_mul, Int.natCast_add] at h5
  · rw [fewF, if_pos hw1]
    have := post_mono (m := m) (m' := (m : Int) + 1) (by omega) l
    exact_mod_cast this
  · have := post_pos m l
    omega
theorem cent_size {s : ByteArray} {m : Nat} (hm : 1 ≤ m ∧ m ≤ 60) (h1 : s.size ≤ m) (h2 : bytesB s 32 126 = true) : ((centF s m).size : Int) = s.size + (m - s.size) / 2 := by
  have hc : centB s m = true := by
    rw [centB, inB_iff.2 ⟨by omega, by omega⟩, h2, decide_eq_true (show (s.size : Int) ≤ m by omega)]; rfl
  rw [centF, if_pos hc, ByteArray.size_append, spcs_size]
  have : 0 ≤ ((m : Int) - s.size) / 2 := Int.ediv_nonneg (by omega) (by omega)
  omega
end Go.Proofs.Ythponccjbbkhaaa
