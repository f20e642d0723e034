/- Orders in plain words: neighbours exchanged, inversions, the exchanges that sort. No program in sight. -/
import Derived.Test.YtkejgogheonakaaK4
namespace Go.Proofs.Ytkejgogheonakaa
open Go.RowKit
def swapL (l : List Int) (k : Nat) : List Int := (l.set k (l.getD (k + 1) 0)).set (k + 1) (l.getD k 0)
theorem swapL_len (l : List Int) (k : Nat) : (swapL l k).length = l.length := by simp [swapL]
theorem swapL_zero (a b : Int) (l : List Int) : swapL (a :: b :: l) 0 = b :: a :: l := by simp [swapL]
theorem swapL_succ (a : Int) (l : List Int) (k : Nat) : swapL (a :: l) (k + 1) = a :: swapL l k := by simp [swapL]
theorem swapL_perm : ∀ (l : List Int) (k : Nat), k + 1 < l.length → (swapL l k).Perm l := by
  intro l
  induction l with
  | nil => intro k h; simp at h
  | cons a l ih =>
    intro k h
    cases k with
    | zero =>
      match l, h with
      | b :: l, _ => rw [swapL_zero]; exact List.Perm.swap _ _ _
    | succ k => rw [swapL_succ]; exact List.Perm.cons a (ih k (by simpa using h))
theorem swapL_eq {l : List Int} {k : Nat} (h : k + 1 < l.length) : swapL l k = (l.set k l[k + 1]).set (k + 1) l[k] := by
  unfold swapL
  rw [getD_get2 l (k + 1) h, getD_get2 l k (by omega)]
 where getD_get2 (l : List Int) (k : Nat) (hk : k < l.length) : l.getD k 0 = l[k] := by rw [List.getD_eq_getElem?_getD, List.getElem?_eq_getElem hk]; rfl
def orderF (n : Nat) (cs : List RCross) : List Int := cs.foldl (fun o c => swapL o c.1.toNat) (upN n)
theorem orderF_snoc (n : Nat) {cs : List RCross} {k : Nat} (h : k < cs.length) : orderF n (cs.take (k + 1)) = swapL (orderF n (cs.take k)) cs[k].1.toNat := foldl_take_succ _ _ cs h
theorem orderF_len (n : Nat) (cs : List RCross) : (orderF n cs).length = n := by
  have : ∀ (cs : List RCross) (o : List Int), (cs.foldl (fun o c => swapL o c.1.toNat) o).length = o.length := by
    intro cs
    induction cs with
    | nil => intro o; rfl
    | cons c cs ih => intro o; rw [List.foldl_cons, ih, swapL_len]
  unfold orderF
  rw [this, upN_len]
theorem orderF_perm {n : Nat} {cs : List RCross} (h : ∀ c ∈ cs, 0 ≤ c.1 ∧ c.1 ≤ (n : Int) - 2) : (orderF n cs).Perm (upN n) := by
  have : ∀ (cs : List RCross) (o : List Int), o.length = n → (∀ c ∈ cs, 0 ≤ c.1 ∧ c.1 ≤ (n : Int) - 2) → (cs.foldl (fun o c => swapL o c.1.toNat) o).Perm o := by
    intro cs
    induction cs with
    | nil => intro o _ _; exact .refl _
    | cons c cs ih =>
      intro o ho hc
      have := hc c List.mem_cons_self
      rw [List.foldl_cons]
      exact (ih _ (by rw [swapL_len]; exact ho) (fun x hx => hc x (List.mem_cons_of_mem _ hx))).trans (swapL_perm o _ (by omega))
  exact this cs _ (upN_len n) h
theorem upN_nodup (n : Nat) : (upN n).Nodup := by
  unfold upN
  rw [List.nodup_iff_pairwise_ne, List.pairwise_map]
  exact List.Pairwise.imp (fun hab e => hab (by omega)) (List.nodup_iff_pairwise_ne.1 List.nodup_range)
theorem upN_mem {n : Nat} {x : Int} : x ∈ upN n ↔ 0 ≤ x ∧ x < n := by
  unfold upN
  rw [List.mem_map]
  constructor
  · rintro ⟨j, hj, rfl⟩
    have := List.mem_range.1 hj
    omega
  · intro h; exact ⟨x.toNat, List.mem_range.2 (by omega), by omega⟩
theorem upN_sorted (n : Nat) : (upN n).Pairwise (· < ·) := by
  unfold upN
  rw [List.pairwise_map]
  exact List.Pairwise.imp (fun h => by omega) List.pairwise_lt_range
/-- An order of n. -/
structure IsOrd (n : Nat) (l : List Int) : Prop where
  perm : l.Perm (upN n)
theorem IsOrd.len {n : Nat} {l : List Int} (h : IsOrd n l) : l.length = n := by have := h.perm.length_eq; rwa [upN_len] at this
theorem IsOrd.nodup {n : Nat} {l : List Int} (h : IsOrd n l) : l.Nodup := (List.Perm.nodup_iff h.perm).2 (upN_nodup n)
theorem IsOrd.bd {n : Nat} {l : List Int} (h : IsOrd n l) : ∀ x ∈ l, 0 ≤ x ∧ x < n := fun x hx => upN_mem.1 ((List.Perm.mem_iff h.perm).1 hx)
theorem IsOrd.swap {n : Nat} {l : List Int} (h : IsOrd n l) {k : Nat} (hk : k + 1 < n) : IsOrd n (swapL l k) := ⟨(swapL_perm l k (by rw [h.len]; exact hk)).trans h.perm⟩
theorem IsOrd.order {n : Nat} {cs : List RCross} (h : ∀ c ∈ cs, 0 ≤ c.1 ∧ c.1 ≤ (n : Int) - 2) : IsOrd n (orderF n cs) := ⟨orderF_perm h⟩
theorem IsOrd.okB {n : Nat} {l : List Int} (h : IsOrd n l) (hn : 1 ≤ n ∧ n ≤ 7) : orderB l = true :=
  (orderB_iff l).2 ⟨by rw [h.len]; omega, h.nodup, fun x hx => by have := h.bd x hx; rw [h.len]; omega⟩
theorem IsOrd.ne {n : Nat} {l : List Int} (h : IsOrd n l) {i j : Nat} (hi : i < l.length) (hj : j < l.length) (hij : i ≠ j) : l[i] ≠ l[j] := by
  have hp := List.pairwise_iff_getElem.1 (List.nodup_iff_pairwise_ne.1 h.nodup)
  rcases Nat.lt_or_ge i j with h1 | h1
  · exact hp i j hi hj h1
  · exact fun e => hp j i hj hi (by omega) e.symm
/- inversions -/
def inv : List Int → Nat
  | [] => 0
  | a :: l => l.countP (fun x => decide (x < a)) + inv l
theorem inv_snoc (l : List Int) (x : Int) : inv (l ++ [x]) = inv l + l.countP (fun y => decide (x < y)) := by
  induction l with
  | nil => rfl
  | cons a l ih =>
    rw [List.cons_append, inv, inv, ih, List.countP_append, List.countP_cons, List.countP_cons, List.countP_nil]
    simp only [decide_eq_true_eq]
    omega
theorem inv_take {l : List Int} {k : Nat} (h : k < l.length) : inv (l.take (k + 1)) = inv (l.take k) + (l.take k).countP (fun y => decide (l[k] < y)) := by rw [take_snoc_l l h, inv_snoc]
theorem inv_swap : ∀ (l : List Int) (k : Nat) (h : k + 1 < l.length), l[k + 1] < l[k] → inv l = inv (swapL l k) + 1 := by
  intro l
  induction l with
  | nil => intro k h; simp at h
  | cons a l ih =>
    intro k h hd
    cases k with
    | zero =>
      match l, h, hd with
      | b :: l, _, hd =>
        simp only [Nat.zero_add, List.getElem_cons_succ, List.getElem_cons_zero] at hd
        rw [swapL_zero, inv, inv, inv, inv, List.countP_cons, List.countP_cons]
        simp only [decide_eq_true_eq]
        rw [if_pos hd, if_neg (show ¬ a < b by omega)]
        omega
    | succ k =>
      have hl : k + 1 < l.length := by simpa using h
      have h1 := ih k hl (by simpa using hd)
      rw [swapL_succ, inv, inv, h1, List.Perm.countP_eq _ (swapL_perm l k hl)]
      omega
theorem inv_le (l : List Int) : inv l ≤ l.length * l.length := by
  induction l with
  | nil => simp [inv]
  | cons a l ih =>
    rw [inv, List.length_cons]
    have h1 : l.countP (fun x => decide (x < a)) ≤ l.length := List.countP_le_length
    have h2 : (l.length + 1) * (l.length + 1) = l.length * l.length + l.length + l.length + 1 := by rw [Nat.add_mul, Nat.mul_add]; omega
    omega
theorem inv_zero_sorted : ∀ l : List Int, inv l = 0 → l.Pairwise (· ≤ ·) := by
  intro l
  induction l with
  | nil => intro _; exact List.Pairwise.nil
  | cons a l ih =>
    intro h
    rw [inv] at h
    rw [List.pairwise_cons]
    refine ⟨fun x hx => ?_, ih (by omega)⟩
    have h0 : l.countP (fun x => decide (x < a)) = 0 := by omega
    rw [List.countP_eq_zero] at h0
    have := h0 x hx
    simp at this
    exact this
theorem sorted_inv_zero : ∀ l : List Int, l.Pairwise (· ≤ ·) → inv l = 0 := by
  intro l
  induction l with
  | nil => intro _; rfl
  | cons a l ih =>
    intro h
    rw [List.pairwise_cons] at h
    rw [inv, ih h.2, Nat.add_zero, List.countP_eq_zero]
    intro x hx
    have := h.1 x hx
    simp; omega
theorem IsOrd.inv_zero {n : Nat} {l : List Int} (h : IsOrd n l) : inv l = 0 ↔ l = upN n := by
  constructor
  · intro h0
    exact List.Perm.eq_of_pairwise (le := (· ≤ ·)) (fun a b _ _ h1 h2 => Int.le_antisymm h1 h2) (inv_zero_sorted l h0) ((upN_sorted n).imp (fun h => Int.le_of_lt h)) h.perm
  · intro e
    rw [e]
    exact sorted_inv_zero _ ((upN_sorted n).imp (fun h => Int.le_of_lt h))
/-- the first place where a smaller number comes behind -/
structure FirstDesc (l : List Int) (k : Nat) : Prop where
  lt : k + 1 < l.length
  up : ∀ j (h : j < k), l[j] < l[j + 1]
  down : l[k + 1] < l[k]
def desc : List Int → Nat
  | [] => 0
  | a :: l => if a < l.headD 0 ∧ l ≠ [] then desc l + 1 else 0
theorem desc_of : ∀ (l : List Int) (k : Nat), FirstDesc l k → desc l = k := by
  intro l
  induction l with
  | nil => intro k h; have := h.lt; simp at this
  | cons a l ih =>
    intro k h
    have hlt := h.lt
    match l, hlt with
    | b :: l, hlt =>
      cases k with
      | zero =>
        have hd := h.down
        simp only [Nat.zero_add, List.getElem_cons_succ, List.getElem_cons_zero] at hd
        rw [desc, if_neg (fun e => by have h1 : a < b := e.1; omega)]
      | succ k =>
        have h0 := h.up 0 (by omega)
        simp only [Nat.zero_add, List.getElem_cons_succ, List.getElem_cons_zero] at h0
        rw [desc, if_pos ⟨h0, by simp⟩, ih k ⟨by simpa using hlt, fun j hj => by have := h.up (j + 1) (by omega); simpa using this, by have := h.down; simpa using this⟩]
theorem no_desc : ∀ (l : List Int), (∀ j (h : j + 1 < l.length), l[j] < l[j + 1]) → inv l = 0 := by
  intro l h
  refine sorted_inv_zero l ?_
  have : l.Pairwise (· < ·) := by
    rw [List.pairwise_iff_getElem]
    have key : ∀ d i (hi : i + d + 1 < l.length), l[i] < l[i + d + 1] := by
      intro d
      induction d with
      | zero => intro i hi; exact h i hi
      | succ d ih => intro i hi; exact Int.lt_trans (ih i (by omega)) (h (i + d + 1) hi)
    intro i j hi hj hij
    have := key (j - i - 1) i (by omega)
    have e : i + (j - i - 1) + 1 = j := by omega
    simp only [e] at this
    exact this
  exact this.imp (fun h => Int.le_of_lt h)
def sortSw : Nat → List Int → List Int
  | 0, _ => []
  | f + 1, l => (desc l : Int) :: sortSw f (swapL l (desc l))
def swapsF (l : List Int) : List Int := sortSw (inv l) l
theorem sortSw_len : ∀ (f : Nat) (l : List Int), (sortSw f l).length = f := by
  intro f
  induction f with
  | zero => intro l; rfl
  | succ f ih => intro l; rw [sortSw, List.length_cons, ih]
theorem swapsF_len (l : List Int) : (swapsF l).length = inv l := sortSw_len _ _
theorem swapsF_step {l : List Int} {k : Nat} (h : FirstDesc l k) : swapsF l = (k : Int) :: swapsF (swapL l k) := by
  have hi := inv_swap l k h.lt h.down
  unfold swapsF
  rw [hi, sortSw, desc_of l k h]
theorem swapsF_zero {l : List Int} (h : inv l = 0) : swapsF l = [] := by unfold swapsF; rw [h]; rfl
/-- the exchanges lead to the first order -/
theorem swaps_home : ∀ (m n : Nat) (l : List Int), IsOrd n l → inv l = m → (∀ k ∈ swapsF l, 0 ≤ k ∧ k ≤ (n : Int) - 2) ∧ (swapsF l).foldl (fun o k => swapL o k.toNat) l = upN n := by
  intro m
  induction m with
  | zero =>
    intro n l h h0
    rw [swapsF_zero h0]
    exact ⟨by simp, h.inv_zero.1 h0⟩
  | succ m ih =>
    intro n l h h0
    obtain ⟨k, hk⟩ : ∃ k, FirstDesc l k := by
      apply Classical.byContradiction
      intro hno
      have hno : ∀ k, ¬ FirstDesc l k := fun k hk => hno ⟨k, hk⟩
      have : inv l = 0 := by
        refine no_desc l (fun j hj => ?_)
        induction j using Nat.strongRecOn with
        | ind j ihj =>
          have h1 := h.ne (show j < l.length by omega) hj (by omega)
          apply Classical.byContradiction
          intro hge
          exact hno j ⟨hj, fun i hi => ihj i hi (by omega), by omega⟩
      omega
    have hi := inv_swap l k hk.lt hk.down
    have hkn : k + 1 < n := by have := hk.lt; rwa [h.len] at this
    obtain ⟨h1, h2⟩ := ih n (swapL l k) (h.swap hkn) (by omega)
    rw [swapsF_step hk]
    refine ⟨fun x hx => ?_, ?_⟩
    · rcases List.mem_cons.1 hx with rfl | hx
      · omega
      · exact h1 x hx
    · rw [List.foldl_cons]; exact h2
def homeL (n : Int) (cs : List RCross) : List RCross := if crossesB n cs = true then (swapsF (orderF n.toNat cs)).map (fun k => (k, true)) else []
theorem homeL_t {n : Nat} {cs : List RCross} (h : crossesB n cs = true) : homeL n cs = (swapsF (orderF n cs)).map (fun k => (k, true)) := by unfold homeL; rw [if_pos h]; rfl
theorem homeL_f {n : Int} {cs : List RCross} (h : crossesB n cs = false) : homeL n cs = [] := by unfold homeL; rw [if_neg (by rw [h]; simp)]
theorem homeL_len (n : Int) (cs : List RCross) : (homeL n cs).length ≤ 49 := by
  unfold homeL
  split
  · rename_i h
    have hn := (crosses_len h).1
    rw [List.length_map, swapsF_len]
    have h1 := inv_le (orderF n.toNat cs)
    rw [orderF_len] at h1
    have h2 : n.toNat * n.toNat ≤ 7 * 7 := Nat.mul_le_mul (by omega) (by omega)
    omega
  · simp
end Go.Proofs.Ytkejgogheonakaa
