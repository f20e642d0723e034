/- Plain laws: a number put into a list, as the reference puts it; days added; puppets taught. No program in sight. -/
import Derived.Test.YtkejgogheonakaaI4
import Derived.Test.YtkejgogheonakaaK10
import Derived.Test.YtkejgogheonakaaM10
namespace Go.Proofs.Ytkejgogheonakaa
open Go.RowKit
/-- how many stand ahead of n -/
def atF (n : Int) : List Int → Nat
  | [] => 0
  | x :: l => if x < n then atF n l + 1 else 0
theorem atF_le (n : Int) (l : List Int) : atF n l ≤ l.length := by
  induction l with
  | nil => exact Nat.le_refl _
  | cons x l ih => unfold atF; split <;> simp; omega
theorem atF_of {n : Int} : ∀ (l : List Int) (k : Nat), k ≤ l.length → (∀ j (h : j < l.length), j < k → l[j] < n) → (∀ h : k < l.length, ¬ l[k] < n) → atF n l = k := by
  intro l
  induction l with
  | nil => intro k hk _ _; simp at hk; subst hk; rfl
  | cons x l ih =>
    intro k hk h1 h2
    cases k with
    | zero => have := h2 (by simp); simp only [List.getElem_cons_zero] at this; unfold atF; rw [if_neg this]
    | succ k =>
      have h0 := h1 0 (by simp) (by omega)
      simp only [List.getElem_cons_zero] at h0
      unfold atF
      rw [if_pos h0, ih k (by simpa using hk) (fun j hj hjk => by have := h1 (j + 1) (by simpa using hj) (by omega); simpa using this) (fun hk' => by have := h2 (by simpa using hk'); simpa using this)]
theorem putF_at (n : Int) (l : List Int) : putF n l = l.take (atF n l) ++ [n] ++ l.drop (atF n l) := by
  induction l with
  | nil => rfl
  | cons x l ih =>
    unfold putF atF
    by_cases h : x < n
    · rw [if_pos h, if_neg (show ¬ n ≤ x by omega), ih]; simp
    · rw [if_neg h, if_pos (show n ≤ x by omega)]; rfl
theorem putF_flat (n : Int) (l : List Int) : ((l.take (atF n l)).flatMap cInt ++ [.int .i64 n]) ++ (l.drop (atF n l)).flatMap cInt = (putF n l).flatMap cInt := by
  rw [putF_at, List.flatMap_append, List.flatMap_append]; rfl
/- days -/
def addF (l : List Int) (d : Int) : List Int × Bool := if seasonB l = true ∧ seasonB (putF d l) = true then (putF d l, true) else (l, false)
theorem addF_t {l : List Int} {d : Int} (h1 : seasonB l = true) (h2 : seasonB (putF d l) = true) : addF l d = (putF d l, true) := if_pos ⟨h1, h2⟩
theorem addF_f1 {l : List Int} {d : Int} (h : seasonB l = false) : addF l d = (l, false) := if_neg (by rw [h]; simp)
theorem addF_f2 {l : List Int} {d : Int} (h : seasonB (putF d l) = false) : addF l d = (l, false) := if_neg (by rw [h]; simp)
theorem addF_len (l : List Int) (d : Int) : (addF l d).1.length ≤ l.length ∨ (addF l d).1.length ≤ 60 := by
  unfold addF
  split
  · rename_i h; exact .inr (season_bd h.2).1
  · exact .inl (Nat.le_refl _)
/- players -/
def knowsB (p : RPl) (x : Int) : Bool := p.1.any (fun y => decide (y = x))
def teachB (pl : List RPl) (k p : Int) : Bool := ((playersB pl && inB k 0 (pl.length - 1)) && inB p 0 6) && !knowsB (pl.getD k.toNat ([], 0)) p
def teachF (pl : List RPl) (k p : Int) : List RPl × Bool := if teachB pl k p = true then (pl.set k.toNat (putF p (pl.getD k.toNat ([], 0)).1, (pl.getD k.toNat ([], 0)).2), true) else (pl, false)
theorem teachF_t {pl : List RPl} {k : Nat} {p : Int} (hk : k < pl.length) (h : teachB pl k p = true) : teachF pl k p = (pl.set k (putF p pl[k].1, pl[k].2), true) := by
  rw [teachF, if_pos h, show ((k : Int)).toNat = k from rfl, List.getD_eq_getElem?_getD, List.getElem?_eq_getElem hk]; rfl
theorem teachF_f {pl : List RPl} {k p : Int} (h : teachB pl k p = false) : teachF pl k p = (pl, false) := if_neg (by rw [h]; simp)
theorem teach_f1 {pl : List RPl} {k p : Int} (h : playersB pl = false) : teachB pl k p = false := by rw [teachB, h]; rfl
theorem teach_f2 {pl : List RPl} {k p : Int} (h : inB k 0 (pl.length - 1) = false) : teachB pl k p = false := by rw [teachB, h, Bool.and_false]; rfl
theorem teach_f3 {pl : List RPl} {k p : Int} (h : inB p 0 6 = false) : teachB pl k p = false := by rw [teachB, h, Bool.and_false]; rfl
theorem teach_v {pl : List RPl} {k : Nat} {p : Int} (hk : k < pl.length) (h1 : playersB pl = true) (h2 : inB k 0 (pl.length - 1) = true) (h3 : inB p 0 6 = true) : teachB pl k p = !knowsB pl[k] p := by
  rw [teachB, h1, h2, h3, show ((k : Int)).toNat = k from rfl, List.getD_eq_getElem?_getD, List.getElem?_eq_getElem hk]; rfl
def teachT (t : Th) (k p : Int) : Th × Bool := becF t ⟨t.n, wrap64 (t.m - 4), t.cs, (teachF t.pl k p).1, t.ds⟩ (teachF t.pl k p).2
end Go.Proofs.Ytkejgogheonakaa
