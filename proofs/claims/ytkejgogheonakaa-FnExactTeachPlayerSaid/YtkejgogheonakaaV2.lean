/- Votes, in plain words: the place of a number in a list, points, who is before whom. No program in sight. -/
import Derived.Test.YtkejgogheonakaaM1
namespace Go.Proofs.Ytkejgogheonakaa
open Go.RowKit

def neB (n : Int) (x : Int) : Bool := !(x == n)
def idxN (l : List Int) (n : Int) : Nat := l.findIdx (· == n)
def idxF (l : List Int) (n : Int) : Int := if idxN l n < l.length then (idxN l n : Int) else -1
theorem neB_t {n x : Int} (h : x ≠ n) : neB n x = true := by simp [neB, h]
theorem neB_f {n x : Int} (h : x = n) : neB n x = false := by simp [neB, h]
theorem idxN_at {l : List Int} {n : Int} {k : Nat} (hk : k < l.length) (h1 : (l.take k).all (neB n) = true) (h2 : l[k] = n) : idxN l n = k := by
  unfold idxN
  rw [List.findIdx_eq hk]
  refine ⟨by simp [h2], fun j hj => ?_⟩
  have := List.all_eq_true.1 h1 (l[j]) (List.mem_take_iff_getElem.2 ⟨j, by omega, rfl⟩)
  simpa [neB] using this
theorem idxF_at {l : List Int} {n : Int} {k : Nat} (hk : k < l.length) (h1 : (l.take k).all (neB n) = true) (h2 : l[k] = n) : idxF l n = k := by
  rw [idxF, idxN_at hk h1 h2, if_pos hk]
theorem idxF_none {l : List Int} {n : Int} (h1 : l.all (neB n) = true) : idxF l n = -1 := by
  rw [idxF, if_neg]
  intro h
  have hg : (fun x : Int => x == n) (l[l.findIdx (· == n)]'h) = true := List.findIdx_getElem (w := h)
  have := List.all_eq_true.1 h1 _ (List.getElem_mem h)
  simp [neB] at this hg
  exact this hg
theorem idxN_mem {l : List Int} {n : Int} (h : n ∈ l) : idxN l n < l.length := by
  unfold idxN
  rw [List.findIdx_lt_length]
  exact ⟨n, h, by simp⟩
theorem idxN_get {l : List Int} {n : Int} (h : n ∈ l) : l[idxN l n]'(idxN_mem h) = n := by
  have hg : (fun x : Int => x == n) (l[l.findIdx (· == n)]'(idxN_mem h)) = true := List.findIdx_getElem (w := idxN_mem h)
  exact beq_iff_eq.1 hg
theorem idxF_mem {l : List Int} {n : Int} (h : n ∈ l) : idxF l n = idxN l n := by rw [idxF, if_pos (idxN_mem h)]
theorem idxF_le {l : List Int} {n : Int} : -1 ≤ idxF l n ∧ idxF l n < l.length := by
  unfold idxF
  split <;> omega
theorem idxN_nodup {l : List Int} (hn : l.Nodup) {k : Nat} (hk : k < l.length) : idxN l l[k] = k := by
  have h1 := idxN_get (List.getElem_mem hk)
  have hp := List.pairwise_iff_getElem.1 (List.nodup_iff_pairwise_ne.1 hn)
  rcases Nat.lt_trichotomy (idxN l l[k]) k with h | h | h
  · exact absurd h1 (hp _ _ (idxN_mem (List.getElem_mem hk)) hk h)
  · exact h
  · exact absurd h1.symm (hp _ _ hk (idxN_mem (List.getElem_mem hk)) h)

/-- before: how many rows have i before k -/
def befP (i k : Int) (v : List Int) : Bool := decide (idxF v i < idxF v k)
def befN (vv : List (List Int)) (i k : Int) : Nat := vv.countP (befP i k)
theorem befN_succ_t {vv : List (List Int)} {i k : Int} {m : Nat} (hm : m < vv.length) (h : idxF vv[m] i < idxF vv[m] k) : befN (vv.take (m + 1)) i k = befN (vv.take m) i k + 1 := by
  rw [befN, List.take_succ_eq_append_getElem hm, List.countP_append]
  simp [befP, h, befN]
theorem befN_succ_f {vv : List (List Int)} {i k : Int} {m : Nat} (hm : m < vv.length) (h : ¬ idxF vv[m] i < idxF vv[m] k) : befN (vv.take (m + 1)) i k = befN (vv.take m) i k := by
  rw [befN, List.take_succ_eq_append_getElem hm, List.countP_append]
  simp [befP, h, befN]
theorem befN_le (vv : List (List Int)) (i k : Int) : befN vv i k ≤ vv.length := List.countP_le_length

/-- points -/
def ptsTo (n : Nat) (vv : List (List Int)) (p : Nat) : Int := (vv.map (fun v => (n : Int) - 1 - idxN v p)).sum
def ptsPart (n : Nat) (v : List Int) (j p : Nat) : Int := if idxN v p < j then (n : Int) - 1 - idxN v p else 0
def ptsAt (n : Nat) (vv : List (List Int)) (m : Nat) (v : List Int) (j : Nat) : List Int := (List.range n).map (fun p => ptsTo n (vv.take m) p + ptsPart n v j p)
def ptsL (n : Nat) (vv : List (List Int)) : List Int := (List.range n).map (ptsTo n vv)
theorem ptsAt_len (n : Nat) (vv : List (List Int)) (m : Nat) (v : List Int) (j : Nat) : (ptsAt n vv m v j).length = n := by simp [ptsAt]
theorem ptsL_len (n : Nat) (vv : List (List Int)) : (ptsL n vv).length = n := by simp [ptsL]
theorem ptsAt_zero (n : Nat) (vv : List (List Int)) (v : List Int) : ptsAt n vv 0 v 0 = List.replicate n 0 := by
  apply List.ext_getElem
  · simp [ptsAt]
  · intro i h1 h2
    simp [ptsAt, ptsTo, ptsPart]
/-- a row is a vote of n: without doubles, from 0 to n - 1 -/
structure Vote (n : Nat) (v : List Int) : Prop where
  len : v.length = n
  nodup : v.Nodup
  bd : ∀ x ∈ v, 0 ≤ x ∧ x < n
theorem Vote.all {n : Nat} {v : List Int} (h : Vote n v) {p : Nat} (hp : p < n) : (p : Int) ∈ v := by
  have hm : (v.map Int.toNat).Nodup := by
    rw [List.nodup_iff_pairwise_ne, List.pairwise_map]
    refine List.Pairwise.imp_of_mem ?_ h.nodup
    intro a b ha hb hab e
    have := h.bd a ha
    have := h.bd b hb
    omega
  have hsub : v.map Int.toNat ⊆ List.range n := by
    intro x hx
    obtain ⟨a, ha, rfl⟩ := List.mem_map.1 hx
    have := h.bd a ha
    simp; omega
  have hlen : (v.map Int.toNat).length = n := by simp [h.len]
  have hmem : p ∈ v.map Int.toNat := Classical.byContradiction fun hc => by
    have := List.Nodup.length_le_of_subset (List.nodup_cons.2 ⟨hc, hm⟩) (fun x hx => by
      rcases List.mem_cons.1 hx with rfl | hx
      · simpa using hp
      · exact hsub hx : p :: v.map Int.toNat ⊆ List.range n)
    simp at this
    have := h.len
    omega
  obtain ⟨a, ha, e⟩ := List.mem_map.1 hmem
  have := h.bd a ha
  rw [show (p : Int) = a by omega]
  exact ha
theorem Vote.idx_lt {n : Nat} {v : List Int} (h : Vote n v) {p : Nat} (hp : p < n) : idxN v p < n := by
  have := idxN_mem (h.all hp)
  rwa [h.len] at this
theorem ptsAt_row (n : Nat) (vv : List (List Int)) (m : Nat) (hm : m < vv.length) (hv : Vote n vv[m]) (v' : List Int) : ptsAt n vv m vv[m] n = ptsAt n vv (m + 1) v' 0 := by
  apply List.ext_getElem
  · simp [ptsAt]
  · intro i h1 h2
    have hi : i < n := by simpa [ptsAt] using h1
    have := hv.idx_lt hi
    simp only [ptsAt, List.getElem_map, List.getElem_range]
    rw [ptsPart, if_pos this, ptsPart, if_neg (by omega), ptsTo, ptsTo, List.take_succ_eq_append_getElem hm, List.map_append, List.sum_append_int]
    simp
theorem ptsAt_get (n : Nat) (vv : List (List Int)) (m : Nat) (v : List Int) (hv : Vote n v) (j : Nat) (hj : j < v.length) (q : Nat) (hq : v[j] = q) (hqn : q < n) : (ptsAt n vv m v j)[q]'(by simpa [ptsAt] using hqn) = ptsTo n (vv.take m) q := by
  simp only [ptsAt, List.getElem_map, List.getElem_range]
  have := idxN_nodup hv.nodup hj
  rw [hq] at this
  rw [ptsPart, if_neg (by omega)]
  omega
theorem ptsAt_succ (n : Nat) (vv : List (List Int)) (m : Nat) (v : List Int) (hv : Vote n v) (j : Nat) (hj : j < v.length) (q : Nat) (hq : v[j] = q) (hqn : q < n) :
    (ptsAt n vv m v j).set q (ptsTo n (vv.take m) q + ((n : Int) - 1 - j)) = ptsAt n vv m v (j + 1) := by
  have hqj := idxN_nodup hv.nodup hj
  rw [hq] at hqj
  apply List.ext_getElem
  · simp [ptsAt]
  · intro i h1 h2
    have hi : i < n := by simpa [ptsAt] using h2
    by_cases hiq : i = q
    · subst hiq
      rw [List.getElem_set_self]
      simp only [ptsAt, List.getElem_map, List.getElem_range]
      rw [ptsPart, if_pos (by omega), hqj]
    · rw [List.getElem_set_ne (fun e => hiq e.symm)]
      simp only [ptsAt, List.getElem_map, List.getElem_range]
      have hne : idxN v i ≠ j := by
        intro e
        have hg := idxN_get (hv.all hi)
        have : v[j] = (i : Int) := by
          have e2 : v[idxN v i]'(idxN_mem (hv.all hi)) = v[j] := by congr 1
          rw [← e2]; exact hg
        rw [hq] at this
        exact hiq (by omega)
      unfold ptsPart
      by_cases hlt : idxN v i < j
      · rw [if_pos hlt, if_pos (by omega)]
      · rw [if_neg hlt, if_neg (by omega)]
theorem ptsTo_bd (n : Nat) (hn : n ≤ 7) (vv : List (List Int)) (hv : ∀ v ∈ vv, Vote n v) (q : Nat) (hq : q < n) : 0 ≤ ptsTo n vv q ∧ ptsTo n vv q ≤ 6 * vv.length := by
  unfold ptsTo
  induction vv with
  | nil => simp
  | cons v vv ih =>
    have h1 := ih (fun x hx => hv x (by simp [hx]))
    have h2 := (hv v (by simp)).idx_lt hq
    simp only [List.map_cons, List.sum_cons, List.length_cons]
    omega
theorem ptsAt_end (n : Nat) (vv : List (List Int)) (v : List Int) : ptsAt n vv vv.length v 0 = ptsL n vv := by
  apply List.ext_getElem
  · simp [ptsAt, ptsL]
  · intro i h1 h2
    simp [ptsAt, ptsL, ptsPart]

/-- the first of the greatest -/
def bestTo (l : List Int) : Nat → Nat
  | 0 => 0
  | k + 1 => if l.getD (bestTo l k) 0 < l.getD k 0 then k else bestTo l k
theorem bestTo_t {l : List Int} {k : Nat} (h : l.getD (bestTo l k) 0 < l.getD k 0) : bestTo l (k + 1) = k := by rw [bestTo, if_pos h]
theorem bestTo_f {l : List Int} {k : Nat} (h : ¬ l.getD (bestTo l k) 0 < l.getD k 0) : bestTo l (k + 1) = bestTo l k := by rw [bestTo, if_neg h]
theorem bestTo_lt (l : List Int) (k : Nat) (h : 0 < l.length) (hk : k ≤ l.length) : bestTo l k < l.length := by
  induction k with
  | zero => exact h
  | succ k ih =>
    unfold bestTo
    split
    · omega
    · exact ih (by omega)
theorem bestTo_max (l : List Int) (k i : Nat) (h : i < k) : l.getD i 0 ≤ l.getD (bestTo l k) 0 := by
  induction k with
  | zero => omega
  | succ k ih =>
    by_cases hd : l.getD (bestTo l k) 0 < l.getD k 0
    · rw [bestTo_t hd]
      rcases Nat.lt_succ_iff_lt_or_eq.1 h with h | rfl
      · have := ih h; omega
      · omega
    · rw [bestTo_f hd]
      rcases Nat.lt_succ_iff_lt_or_eq.1 h with h | rfl
      · exact ih h
      · omega

/-- more than half of the rows have i before k -/
def beatB (vv : List (List Int)) (i k : Nat) : Bool := decide ((vv.length : Int) < 2 * (befN vv i k : Int))
def fbpB (vv : List (List Int)) (n i : Nat) : Bool := (List.range n).all (fun k => decide (i = k) || beatB vv i k)
def fbpN (vv : List (List Int)) (n : Nat) : Nat := (List.range n).findIdx (fbpB vv n)
def circP (vv : List (List Int)) (a b c : Nat) : Bool := decide (a ≠ b ∧ b ≠ c ∧ a ≠ c) && (beatB vv a b && (beatB vv b c && beatB vv c a))
def circB (vv : List (List Int)) (n : Nat) : Bool := (List.range n).any (fun a => (List.range n).any (fun b => (List.range n).any (fun c => circP vv a b c)))
theorem range_any_succ {p : Nat → Bool} {k : Nat} (h1 : (List.range k).any p = false) (h2 : p k = false) : (List.range (k + 1)).any p = false := by
  rw [List.range_succ, List.any_append, h1]; simp [h2]
theorem range_any_at {p : Nat → Bool} {k n : Nat} (hk : k < n) (h : p k = true) : (List.range n).any p = true := by
  rw [List.any_eq_true]; exact ⟨k, by simpa using hk, h⟩
end Go.Proofs.Ytkejgogheonakaa
