/- Twists in plain words: the table, the pairs that are wound, full turns. No program in sight. -/
import Derived.Test.YtjbhlbcjljdjmaaY1
namespace Go.Proofs.Ytjbhlbcjljdjmaa
open Go.RowKit
def cellT (ll : List (List Int)) (a b : Nat) : Int := (ll.getD a []).getD b 0
def addT (ll : List (List Int)) (a b : Nat) (s : Int) : List (List Int) := ll.set a ((ll.getD a []).set b (cellT ll a b + s))
structure Sq (n : Nat) (ll : List (List Int)) : Prop where
  len : ll.length = n
  row : ∀ r ∈ ll, r.length = n
theorem Sq.at_ {n : Nat} {ll : List (List Int)} (h : Sq n ll) {a : Nat} (ha : a < n) : ∃ h1 : a < ll.length, ll[a].length = n ∧ ll.getD a [] = ll[a] := by
  have h1 : a < ll.length := by rw [h.len]; exact ha
  exact ⟨h1, h.row _ (List.getElem_mem h1), by rw [List.getD_eq_getElem?_getD, List.getElem?_eq_getElem h1]; rfl⟩
theorem cellT_at {ll : List (List Int)} {a b : Nat} (h1 : a < ll.length) (h2 : b < ll[a].length) : cellT ll a b = ll[a][b] := by
  unfold cellT
  simp only [List.getD_eq_getElem?_getD]
  rw [List.getElem?_eq_getElem h1, Option.getD_some, List.getElem?_eq_getElem h2]; rfl
theorem addT_sq {n : Nat} {ll : List (List Int)} (h : Sq n ll) {a : Nat} (ha : a < n) (b : Nat) (s : Int) : Sq n (addT ll a b s) := by
  obtain ⟨h1, h2, h3⟩ := h.at_ ha
  refine ⟨by simp [addT, h.len], fun r hr => ?_⟩
  unfold addT at hr
  rcases List.mem_or_eq_of_mem_set hr with hr | rfl
  · exact h.row r hr
  · rw [List.length_set, h3]; exact h2
theorem addT_cell {n : Nat} {ll : List (List Int)} (h : Sq n ll) {a b : Nat} (ha : a < n) (hb : b < n) (s : Int) (i j : Nat) : cellT (addT ll a b s) i j = if i = a ∧ j = b then cellT ll a b + s else cellT ll i j := by
  obtain ⟨h1, h2, h3⟩ := h.at_ ha
  unfold addT
  rw [h3]
  generalize cellT ll a b + s = x
  unfold cellT
  by_cases hi : i = a
  · subst hi
    have e1 : (ll.set i (ll[i].set b x)).getD i [] = ll[i].set b x := by rw [List.getD_eq_getElem?_getD, List.getElem?_set_self h1]; rfl
    rw [e1, h3]
    by_cases hj : j = b
    · subst hj
      rw [if_pos ⟨rfl, rfl⟩, List.getD_eq_getElem?_getD, List.getElem?_set_self (by rw [h2]; exact hb)]; rfl
    · rw [if_neg (fun e => hj e.2), List.getD_eq_getElem?_getD, List.getElem?_set_ne (fun e => hj e.symm), List.getD_eq_getElem?_getD]
  · have e1 : (ll.set a (ll[a].set b x)).getD i [] = ll.getD i [] := by rw [List.getD_eq_getElem?_getD, List.getElem?_set_ne (fun e => hi e.symm), List.getD_eq_getElem?_getD]
    rw [if_neg (fun e => hi e.1), e1]
theorem sq_ext {n : Nat} {l1 l2 : List (List Int)} (h1 : Sq n l1) (h2 : Sq n l2) (h : ∀ i j, i < n → j < n → cellT l1 i j = cellT l2 i j) : l1 = l2 := by
  apply List.ext_getElem
  · rw [h1.len, h2.len]
  · intro i hi1 hi2
    have r1 := h1.row _ (List.getElem_mem hi1)
    have r2 := h2.row _ (List.getElem_mem hi2)
    apply List.ext_getElem
    · rw [r1, r2]
    · intro j hj1 hj2
      rw [← cellT_at hi1 hj1, ← cellT_at hi2 hj2]
      exact h i j (by rw [← h1.len]; exact hi1) (by rw [← r1]; exact hj1)
def zeroT (n : Nat) : List (List Int) := List.replicate n (List.replicate n 0)
theorem zeroT_sq (n : Nat) : Sq n (zeroT n) := ⟨by simp [zeroT], fun r hr => by simp [zeroT] at hr; rw [hr.2]; simp⟩
theorem zeroT_cell (n i j : Nat) : cellT (zeroT n) i j = 0 := by
  unfold cellT zeroT
  simp only [List.getD_eq_getElem?_getD, List.getElem?_replicate]
  split
  · rw [Option.getD_some, List.getElem?_replicate]; split <;> rfl
  · rfl
/-- what a crossing adds -/
def stepB (f : Bool) : Int := if f = true then 1 else -1
def twStep (st : List Int × List (List Int)) (c : RCross) : List Int × List (List Int) :=
  (swapL st.1 c.1.toNat, addT (addT st.2 (st.1.getD c.1.toNat 0).toNat (st.1.getD (c.1.toNat + 1) 0).toNat (stepB c.2)) (st.1.getD (c.1.toNat + 1) 0).toNat (st.1.getD c.1.toNat 0).toNat (stepB c.2))
def twSt (n : Nat) (cs : List RCross) : List Int × List (List Int) := cs.foldl twStep (upN n, zeroT n)
def twL (n : Nat) (cs : List RCross) : List (List Int) := (twSt n cs).2
theorem twSt_fst (n : Nat) (cs : List RCross) : (twSt n cs).1 = orderF n cs := by
  have : ∀ (cs : List RCross) (o : List Int) (t : List (List Int)), (cs.foldl twStep (o, t)).1 = cs.foldl (fun o c => swapL o c.1.toNat) o := by
    intro cs
    induction cs with
    | nil => intro o t; rfl
    | cons c cs ih => intro o t; rw [List.foldl_cons, List.foldl_cons]; exact ih _ _
  exact this cs _ _
theorem twL_snoc (n : Nat) {cs : List RCross} {k : Nat} (h : k < cs.length) :
    twL n (cs.take (k + 1)) = addT (addT (twL n (cs.take k)) ((orderF n (cs.take k)).getD cs[k].1.toNat 0).toNat ((orderF n (cs.take k)).getD (cs[k].1.toNat + 1) 0).toNat (stepB cs[k].2)) ((orderF n (cs.take k)).getD (cs[k].1.toNat + 1) 0).toNat ((orderF n (cs.take k)).getD cs[k].1.toNat 0).toNat (stepB cs[k].2) := by
  unfold twL twSt
  rw [foldl_take_succ _ _ cs h]
  show (twStep (twSt n (cs.take k)) cs[k]).2 = _
  unfold twStep
  rw [twSt_fst]
  rfl
/-- A state of the crossings: an order of n, a table of n rows. -/
structure IsSt (n : Nat) (st : List Int × List (List Int)) : Prop where
  ord : IsOrd n st.1
  sq : Sq n st.2
  sym : ∀ i j, cellT st.2 i j = cellT st.2 j i
theorem IsSt.start (n : Nat) : IsSt n (upN n, zeroT n) := ⟨⟨.refl _⟩, zeroT_sq n, fun i j => by rw [zeroT_cell, zeroT_cell]⟩
/-- the two puppets of a crossing -/
theorem pair_of {n : Nat} {o : List Int} (h : IsOrd n o) {k : Nat} (hk : k + 1 < n) : ∃ x y : Nat, x < n ∧ y < n ∧ x ≠ y ∧ o.getD k 0 = (x : Int) ∧ o.getD (k + 1) 0 = (y : Int) ∧ (o.getD k 0).toNat = x ∧ (o.getD (k + 1) 0).toNat = y := by
  have hl := h.len
  have h1 : k < o.length := by omega
  have h2 : k + 1 < o.length := by omega
  have g1 : o.getD k 0 = o[k] := by rw [List.getD_eq_getElem?_getD, List.getElem?_eq_getElem h1]; rfl
  have g2 : o.getD (k + 1) 0 = o[k + 1] := by rw [List.getD_eq_getElem?_getD, List.getElem?_eq_getElem h2]; rfl
  have b1 := h.bd _ (List.getElem_mem h1)
  have b2 := h.bd _ (List.getElem_mem h2)
  have hne := h.ne h1 h2 (by omega)
  rw [g1, g2]
  exact ⟨o[k].toNat, o[k + 1].toNat, by omega, by omega, fun e => hne (by omega), by omega, by omega, rfl, rfl⟩
theorem twStep_of {n : Nat} {o : List Int} {t : List (List Int)} {c : RCross} {x y : Nat} (hx : (o.getD c.1.toNat 0).toNat = x) (hy : (o.getD (c.1.toNat + 1) 0).toNat = y) : twStep (o, t) c = (swapL o c.1.toNat, addT (addT t x y (stepB c.2)) y x (stepB c.2)) := by
  unfold twStep; rw [hx, hy]
theorem add2_cell {n : Nat} {t : List (List Int)} (h : Sq n t) {x y : Nat} (hx : x < n) (hy : y < n) (hne : x ≠ y) (s : Int) (i j : Nat) : cellT (addT (addT t x y s) y x s) i j = if (i = x ∧ j = y) ∨ (i = y ∧ j = x) then cellT t i j + s else cellT t i j := by
  rw [addT_cell (addT_sq h hx y s) hy hx, addT_cell h hx hy, addT_cell h hx hy]
  by_cases h1 : i = y ∧ j = x
  · obtain ⟨rfl, rfl⟩ := h1
    rw [if_pos ⟨rfl, rfl⟩, if_neg (fun e => hne e.2), if_pos (.inr ⟨rfl, rfl⟩)]
  · rw [if_neg h1]
    by_cases h2 : i = x ∧ j = y
    · obtain ⟨rfl, rfl⟩ := h2
      rw [if_pos ⟨rfl, rfl⟩, if_pos (.inl ⟨rfl, rfl⟩)]
    · rw [if_neg h2, if_neg (fun e => e.elim h2 h1)]
theorem add2_sq {n : Nat} {t : List (List Int)} (h : Sq n t) {x y : Nat} (hx : x < n) (hy : y < n) (s : Int) : Sq n (addT (addT t x y s) y x s) := addT_sq (addT_sq h hx y s) hy x s
theorem add2_comm {n : Nat} {t : List (List Int)} (h : Sq n t) {x y : Nat} (hx : x < n) (hy : y < n) (hne : x ≠ y) (s : Int) : addT (addT t x y s) y x s = addT (addT t y x s) x y s := by
  refine sq_ext (add2_sq h hx hy s) (add2_sq h hy hx s) (fun i j _ _ => ?_)
  rw [add2_cell h hx hy hne, add2_cell h hy hx (fun e => hne e.symm)]
  by_cases h1 : (i = x ∧ j = y) ∨ (i = y ∧ j = x)
  · rw [if_pos h1, if_pos h1.symm]
  · rw [if_neg h1, if_neg (fun e => h1 e.symm)]
theorem IsSt.step {n : Nat} {st : List Int × List (List Int)} (h : IsSt n st) {c : RCross} (hc : 0 ≤ c.1 ∧ c.1 ≤ (n : Int) - 2) : IsSt n (twStep st c) := by
  obtain ⟨o, t⟩ := st
  have hk : c.1.toNat + 1 < n := by omega
  obtain ⟨x, y, hx, hy, hne, _, _, e1, e2⟩ := pair_of h.ord hk
  rw [twStep_of (n := n) e1 e2]
  refine ⟨h.ord.swap hk, add2_sq h.sq hx hy _, fun i j => ?_⟩
  show cellT (addT (addT t x y _) y x _) i j = cellT (addT (addT t x y _) y x _) j i
  have hs : cellT t i j = cellT t j i := h.sym i j
  rw [add2_cell h.sq hx hy hne, add2_cell h.sq hx hy hne, hs]
  by_cases h1 : (i = x ∧ j = y) ∨ (i = y ∧ j = x)
  · rw [if_pos h1, if_pos (h1.symm.imp (fun e => ⟨e.2, e.1⟩) (fun e => ⟨e.2, e.1⟩))]
  · rw [if_neg h1, if_neg (fun e => h1 (e.symm.imp (fun e => ⟨e.2, e.1⟩) (fun e => ⟨e.2, e.1⟩)))]
theorem IsSt.fold {n : Nat} : ∀ (cs : List RCross) {st : List Int × List (List Int)}, IsSt n st → (∀ c ∈ cs, 0 ≤ c.1 ∧ c.1 ≤ (n : Int) - 2) → IsSt n (cs.foldl twStep st) := by
  intro cs
  induction cs with
  | nil => intro st h _; exact h
  | cons c cs ih => intro st h hc; rw [List.foldl_cons]; exact ih (h.step (hc c List.mem_cons_self)) (fun x hx => hc x (List.mem_cons_of_mem _ hx))
theorem IsSt.tw {n : Nat} {cs : List RCross} (h : ∀ c ∈ cs, 0 ≤ c.1 ∧ c.1 ≤ (n : Int) - 2) : IsSt n (twSt n cs) := IsSt.fold cs (IsSt.start n) h
theorem twL_sq {n : Nat} {cs : List RCross} (h : ∀ c ∈ cs, 0 ≤ c.1 ∧ c.1 ≤ (n : Int) - 2) : Sq n (twL n cs) := (IsSt.tw h).sq
/-- twists are small -/
theorem twL_bd {n : Nat} {cs : List RCross} (h : ∀ c ∈ cs, 0 ≤ c.1 ∧ c.1 ≤ (n : Int) - 2) (m : Nat) (hm : m ≤ cs.length) (i j : Nat) : -(m : Int) ≤ cellT (twL n (cs.take m)) i j ∧ cellT (twL n (cs.take m)) i j ≤ m := by
  induction m with
  | zero =>
    show -((0 : Nat) : Int) ≤ cellT (zeroT n) i j ∧ cellT (zeroT n) i j ≤ ((0 : Nat) : Int)
    rw [zeroT_cell]; omega
  | succ m ih =>
    have ih := ih (by omega)
    have hl : m < cs.length := by omega
    have ht : ∀ c ∈ cs.take m, 0 ≤ c.1 ∧ c.1 ≤ (n : Int) - 2 := fun c hc => h c (List.mem_of_mem_take hc)
    have hc := h _ (List.getElem_mem hl)
    obtain ⟨x, y, hx, hy, hne, _, _, e1, e2⟩ := pair_of (IsOrd.order ht) (k := cs[m].1.toNat) (by omega)
    rw [twL_snoc n hl, e1, e2, add2_cell (twL_sq ht) hx hy hne]
    have hs : stepB cs[m].2 = 1 ∨ stepB cs[m].2 = -1 := by unfold stepB; split; exact .inl rfl; exact .inr rfl
    split
    · rcases hs with e | e <;> rw [e] <;> omega
    · omega
/- the pairs that are wound -/
def woundB (ll : List (List Int)) (i k : Nat) : Bool := decide (i < k) && !decide (cellT ll i k = 0)
def woundR (ll : List (List Int)) (i m : Nat) : List (List Int) := ((List.range m).filter (fun k => woundB ll i k)).map (fun k : Nat => [(i : Int), (k : Int)])
def woundTo (ll : List (List Int)) (n : Nat) : Nat → List (List Int)
  | 0 => []
  | m + 1 => woundTo ll n m ++ woundR ll m n
def woundL (n : Nat) (cs : List RCross) : List (List Int) := woundTo (twL n cs) n n
theorem woundR_start (ll : List (List Int)) (i : Nat) : woundR ll i (i + 1) = [] := by
  unfold woundR
  rw [List.map_eq_nil_iff, List.filter_eq_nil_iff]
  intro k hk
  have := List.mem_range.1 hk
  simp [woundB]; omega
theorem woundR_t {ll : List (List Int)} {i k : Nat} (h : i < k) (hc : cellT ll i k ≠ 0) : woundR ll i (k + 1) = woundR ll i k ++ [[(i : Int), (k : Int)]] := by
  unfold woundR; rw [List.range_succ, List.filter_append, List.map_append]; simp [woundB, h, hc]
theorem woundR_f {ll : List (List Int)} {i k : Nat} (hc : cellT ll i k = 0) : woundR ll i (k + 1) = woundR ll i k := by
  unfold woundR; rw [List.range_succ, List.filter_append, List.map_append]; simp [woundB, hc]
theorem woundR_len (ll : List (List Int)) (i m : Nat) : (woundR ll i m).length ≤ m := by
  unfold woundR; rw [List.length_map]; exact Nat.le_trans (List.length_filter_le _ _) (by simp)
theorem woundTo_len (ll : List (List Int)) (n m : Nat) : (woundTo ll n m).length ≤ m * n := by
  induction m with
  | zero => simp [woundTo]
  | succ m ih => rw [woundTo, List.length_append, Nat.add_mul]; have := woundR_len ll m n; omega
theorem woundTo_mem {ll : List (List Int)} {n m : Nat} {r : List Int} (h : r ∈ woundTo ll n m) : ∃ i k : Nat, r = [(i : Int), (k : Int)] ∧ i < m ∧ i < k ∧ k < n ∧ cellT ll i k ≠ 0 := by
  induction m with
  | zero => simp [woundTo] at h
  | succ m ih =>
    rw [woundTo] at h
    rcases List.mem_append.1 h with h | h
    · obtain ⟨i, k, e, h1, h2⟩ := ih h; exact ⟨i, k, e, by omega, h2⟩
    · obtain ⟨k, hk, rfl⟩ := List.mem_map.1 h
      have := List.mem_filter.1 hk
      have h1 := List.mem_range.1 this.1
      have h2 := this.2
      simp [woundB] at h2
      exact ⟨m, k, rfl, by omega, h2.1, h1, h2.2⟩
/- a full turn -/
def downL (i : Nat) : Nat → List RCross
  | 0 => []
  | m + 1 => (((i + m + 1 : Nat) : Int), false) :: downL i m
def upL (i : Nat) : Nat → List RCross
  | 0 => []
  | m + 1 => upL i m ++ [(((i + m + 1 : Nat) : Int), true)]
def turnL (i k : Nat) (f : Bool) : List RCross := (downL i (k - 1 - i) ++ [((i : Int), f), ((i : Int), f)]) ++ upL i (k - 1 - i)
theorem downL_len (i m : Nat) : (downL i m).length = m := by
  induction m with
  | zero => rfl
  | succ m ih => rw [downL, List.length_cons, ih]
theorem upL_len (i m : Nat) : (upL i m).length = m := by
  induction m with
  | zero => rfl
  | succ m ih => rw [upL, List.length_append, ih]; rfl
theorem turnL_len (i k : Nat) (f : Bool) : (turnL i k f).length ≤ 2 * k + 2 := by
  unfold turnL
  rw [List.length_append, List.length_append, downL_len, upL_len]; simp; omega
def manyL (l : List RCross) : Nat → List RCross
  | 0 => []
  | m + 1 => manyL l m ++ l
theorem manyL_len (l : List RCross) (m : Nat) : (manyL l m).length = m * l.length := by
  induction m with
  | zero => simp [manyL]
  | succ m ih => rw [manyL, List.length_append, ih, Nat.add_mul]; omega
def pairI (r : List Int) : Nat := (r.getD 0 0).toNat
def pairK (r : List Int) : Nat := (r.getD 1 0).toNat
/-- how often a pair is turned -/
def timesT (t : Int) : Nat := t.natAbs / 2
def unwR (ll : List (List Int)) (r : List Int) : List RCross := manyL (turnL (pairI r) (pairK r) (decide (cellT ll (pairI r) (pairK r) < 0))) (timesT (cellT ll (pairI r) (pairK r)))
def unwTo (ll : List (List Int)) (ps : List (List Int)) : List RCross := ps.flatMap (unwR ll)
def unwindL (n : Nat) (cs : List RCross) : List RCross := unwTo (twL n cs) (woundL n cs)
theorem unwTo_snoc (ll ps : List (List Int)) {k : Nat} (h : k < ps.length) : unwTo ll (ps.take (k + 1)) = unwTo ll (ps.take k) ++ unwR ll ps[k] := by
  unfold unwTo; rw [take_snoc_l ps h, List.flatMap_append]; simp
def unwB (n : Int) (cs : List RCross) : Bool := crossesB n cs && decide (orderF n.toNat cs = upN n.toNat)
end Go.Proofs.Ytjbhlbcjljdjmaa
