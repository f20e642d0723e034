/- Crossings in plain words: full turns, even twists at home, unwinding leaves none; reduced crossings lead to the same. No program in sight. -/
import Derived.Test.YtlhdeojkpmpecaaGreatBdK7x10
import Derived.Test.YtlhdeojkpmpecaaGreatBdK3x8
namespace Go.Proofs.YtlhdeojkpmpecaaGreat
open Go.RowKit
theorem swapL_swapL : ∀ (l : List Int) (k : Nat), k + 1 < l.length → swapL (swapL l k) k = l := by
  intro l
  induction l with
  | nil => intro k h; simp at h
  | cons a l ih =>
    intro k h
    cases k with
    | zero =>
      match l, h with
      | b :: l, _ => rw [swapL_zero, swapL_zero]
    | succ k => rw [swapL_succ, swapL_succ, ih k (by simpa using h)]
theorem swapL_at {l : List Int} {k : Nat} (h : k + 1 < l.length) : (swapL l k).getD k 0 = l.getD (k + 1) 0 := by
  unfold swapL
  simp only [List.getD_eq_getElem?_getD, List.getElem?_set, List.length_set]
  rw [if_neg (show ¬ k + 1 = k by omega)]
  simp only [if_true]
  rw [if_pos (show k < l.length by omega), Option.getD_some]
theorem swapL_at1 {l : List Int} {k : Nat} (h : k + 1 < l.length) : (swapL l k).getD (k + 1) 0 = l.getD k 0 := by
  unfold swapL
  simp only [List.getD_eq_getElem?_getD, List.getElem?_set, List.length_set]
  simp only [if_true]
  rw [if_pos h, Option.getD_some]
theorem swapL_ne {l : List Int} {k j : Nat} (h1 : j ≠ k) (h2 : j ≠ k + 1) : (swapL l k).getD j 0 = l.getD j 0 := by
  unfold swapL
  simp only [List.getD_eq_getElem?_getD, List.getElem?_set, List.length_set]
  rw [if_neg (fun e => h2 e.symm), if_neg (fun e => h1 e.symm)]
theorem upN_getD {n i : Nat} (h : i < n) : (upN n).getD i 0 = (i : Int) := by
  unfold upN
  rw [List.getD_eq_getElem?_getD, List.getElem?_map, List.getElem?_range h]; rfl
theorem ord_ne {n : Nat} {o : List Int} (h : IsOrd n o) {i j x y : Nat} (hi : i < n) (hj : j < n) (hij : i ≠ j) (hx : o.getD i 0 = (x : Int)) (hy : o.getD j 0 = (y : Int)) : x ≠ y := by
  have hl := h.len
  have h1 : i < o.length := by omega
  have h2 : j < o.length := by omega
  have := h.ne h1 h2 hij
  rw [List.getD_eq_getElem?_getD, List.getElem?_eq_getElem h1, Option.getD_some] at hx
  rw [List.getD_eq_getElem?_getD, List.getElem?_eq_getElem h2, Option.getD_some] at hy
  intro e
  subst e
  exact this (by rw [hx, hy])
structure Adds (n : Nat) (t t' : List (List Int)) (x y : Nat) (d : Int) : Prop where
  sq : Sq n t'
  cell : ∀ i j, cellT t' i j = if (i = x ∧ j = y) ∨ (i = y ∧ j = x) then cellT t i j + d else cellT t i j
theorem Adds.st {n : Nat} {o : List Int} {t t' : List (List Int)} {x y : Nat} {d : Int} (h : IsSt n (o, t)) (ha : Adds n t t' x y d) : IsSt n (o, t') := by
  refine ⟨h.ord, ha.sq, fun i j => ?_⟩
  show cellT t' i j = cellT t' j i
  have hs : cellT t i j = cellT t j i := h.sym i j
  rw [ha.cell, ha.cell, hs]
  by_cases h1 : (i = x ∧ j = y) ∨ (i = y ∧ j = x)
  · rw [if_pos h1, if_pos (h1.symm.imp (fun e => ⟨e.2, e.1⟩) (fun e => ⟨e.2, e.1⟩))]
  · rw [if_neg h1, if_neg (fun e => h1 (e.symm.imp (fun e => ⟨e.2, e.1⟩) (fun e => ⟨e.2, e.1⟩)))]
theorem step_at {n : Nat} {o : List Int} {t : List (List Int)} (h : IsSt n (o, t)) {k : Nat} (hk : k + 1 < n) (f : Bool) {x y : Nat} (hx : o.getD k 0 = (x : Int)) (hy : o.getD (k + 1) 0 = (y : Int)) :
    x < n ∧ y < n ∧ x ≠ y ∧ ∃ t', twStep (o, t) ((k : Int), f) = (swapL o k, t') ∧ Adds n t t' x y (stepB f) ∧ IsSt n (swapL o k, t') := by
  obtain ⟨x', y', hx', hy', hne, e1, e2, e3, e4⟩ := pair_of h.ord hk
  have ex : x = x' := by have := hx.symm.trans e1; omega
  have ey : y = y' := by have := hy.symm.trans e2; omega
  subst ex ey
  have hst := h.step (c := ((k : Int), f)) ⟨by simp, by simp; omega⟩
  rw [twStep_of (_n := n) (c := ((k : Int), f)) e3 e4] at hst ⊢
  exact ⟨hx', hy', hne, _, rfl, ⟨hst.sq, fun i j => add2_cell h.sq hx' hy' hne _ i j⟩, hst⟩
theorem turn_of {n i : Nat} (f : Bool) : ∀ (m : Nat) (o : List Int) (t : List (List Int)), IsSt n (o, t) → i + m + 1 < n → ∀ x y : Nat, o.getD i 0 = (x : Int) → o.getD (i + m + 1) 0 = (y : Int) →
    ∃ t', ((downL i m ++ [((i : Int), f), ((i : Int), f)]) ++ upL i m).foldl twStep (o, t) = (o, t') ∧ Adds n t t' x y (2 * stepB f) := by
  intro m
  induction m with
  | zero =>
    intro o t h hk x y hx hy
    have hl := h.ord.len
    have hl : o.length = n := hl
    obtain ⟨_, _, hne, t1, e1, a1, s1⟩ := step_at h hk f hx hy
    obtain ⟨_, _, _, t2, e2, a2, s2⟩ := step_at s1 hk f ((swapL_at (by omega)).trans hy) ((swapL_at1 (by omega)).trans hx)
    refine ⟨t2, ?_, a2.sq, fun a b => ?_⟩
    · show twStep (twStep (o, t) ((i : Int), f)) ((i : Int), f) = (o, t2)
      rw [e1, e2, swapL_swapL o i (by omega)]
    · rw [a2.cell, a1.cell]
      by_cases h1 : (a = x ∧ b = y) ∨ (a = y ∧ b = x)
      · rw [if_pos h1, if_pos h1.symm, if_pos h1]; omega
      · rw [if_neg h1, if_neg (fun e => h1 e.symm), if_neg h1]
  | succ m ih =>
    intro o t h hk x y hx hy
    have hl : o.length = n := h.ord.len
    have hk1 : i + m + 1 + 1 < n := by omega
    obtain ⟨z, _, _, _, _, hz, _, _, _⟩ := pair_of h.ord hk1
    have hy' : o.getD (i + m + 1 + 1) 0 = (y : Int) := by rw [← hy]; rfl
    obtain ⟨_, _, hzy, t1, e1, a1, s1⟩ := step_at h hk1 false hz hy'
    have hxz : x ≠ z := ord_ne h.ord (show i < n by omega) (show i + m + 1 < n by omega) (by omega) hx hz
    have hxy : x ≠ y := ord_ne h.ord (show i < n by omega) hk1 (by omega) hx hy'
    obtain ⟨t2, e2, a2⟩ := ih (swapL o (i + m + 1)) t1 s1 (by omega) x y ((swapL_ne (by omega) (by omega)).trans hx) ((swapL_at (by omega)).trans hy')
    obtain ⟨_, _, _, t3, e3, a3, s3⟩ := step_at (a2.st s1) hk1 true ((swapL_at (by omega)).trans hy') ((swapL_at1 (by omega)).trans hz)
    refine ⟨t3, ?_, a3.sq, fun a b => ?_⟩
    · have hsplit : (downL i (m + 1) ++ [((i : Int), f), ((i : Int), f)]) ++ upL i (m + 1) = (((i + m + 1 : Nat) : Int), false) :: (((downL i m ++ [((i : Int), f), ((i : Int), f)]) ++ upL i m) ++ [(((i + m + 1 : Nat) : Int), true)]) := by
        simp [downL, upL]
      rw [hsplit, List.foldl_cons, List.foldl_append, e1, e2]
      show twStep _ _ = _
      rw [e3, swapL_swapL o _ (by omega)]
    · have hf : stepB false = -1 := rfl
      have ht : stepB true = 1 := rfl
      rw [a3.cell, a2.cell, a1.cell, hf, ht]
      generalize cellT t a b = v
      generalize stepB f = s
      repeat' split
      all_goals omega
theorem turn_home {n i k : Nat} (f : Bool) {t : List (List Int)} (h : IsSt n (upN n, t)) (hik : i < k) (hk : k < n) : ∃ t', (turnL i k f).foldl twStep (upN n, t) = (upN n, t') ∧ Adds n t t' i k (2 * stepB f) := by
  unfold turnL
  exact turn_of f (k - 1 - i) (upN n) t h (by omega) i k (upN_getD (by omega)) (by rw [show i + (k - 1 - i) + 1 = k by omega]; exact upN_getD hk)
def dirT (f : Bool) (m : Nat) : Int := if f = true then 2 * (m : Int) else -(2 * (m : Int))
theorem many_home {n i k : Nat} (f : Bool) {t : List (List Int)} (h : IsSt n (upN n, t)) (hik : i < k) (hk : k < n) (m : Nat) : ∃ t', (manyL (turnL i k f) m).foldl twStep (upN n, t) = (upN n, t') ∧ Adds n t t' i k (dirT f m) := by
  induction m with
  | zero => exact ⟨t, rfl, h.sq, fun a b => by have : dirT f 0 = 0 := by cases f <;> rfl
                                               rw [this, Int.add_zero]; split <;> rfl⟩
  | succ m ih =>
    obtain ⟨t1, e1, a1⟩ := ih
    obtain ⟨t2, e2, a2⟩ := turn_home f (a1.st h) hik hk
    refine ⟨t2, by rw [manyL, List.foldl_append, e1, e2], a2.sq, fun a b => ?_⟩
    rw [a2.cell, a1.cell]
    have hd : dirT f (m + 1) = dirT f m + 2 * stepB f := by cases f <;> simp [dirT, stepB] <;> omega
    rw [hd]
    split <;> omega
theorem dir_even {t : Int} (h : t % 2 = 0) : dirT (decide (t < 0)) (timesT t) = -t := by
  unfold dirT timesT
  by_cases h1 : t < 0
  · rw [decide_eq_true h1, if_pos rfl]; omega
  · rw [decide_eq_false h1, if_neg (by simp)]; omega
theorem pairI_of (i k : Nat) : pairI [(i : Int), (k : Int)] = i := rfl
theorem pairK_of (i k : Nat) : pairK [(i : Int), (k : Int)] = k := rfl
theorem unw_home {n : Nat} {ll : List (List Int)} : ∀ (ps : List (List Int)) (t : List (List Int)), IsSt n (upN n, t) → ps.Nodup → (∀ r ∈ ps, ∃ i k : Nat, r = [(i : Int), (k : Int)] ∧ i < k ∧ k < n ∧ cellT ll i k % 2 = 0) →
    ∃ t', (unwTo ll ps).foldl twStep (upN n, t) = (upN n, t') ∧ IsSt n (upN n, t') ∧ ∀ a b : Nat, a < b → cellT t' a b = cellT t a b - (if [(a : Int), (b : Int)] ∈ ps then cellT ll a b else 0) := by
  intro ps
  induction ps with
  | nil => intro t h _ _; exact ⟨t, rfl, h, fun a b _ => by rw [if_neg (by simp)]; omega⟩
  | cons r ps ih =>
    intro t h hnd hps
    obtain ⟨i, k, rfl, hik, hk, hev⟩ := hps r List.mem_cons_self
    rw [List.nodup_cons] at hnd
    obtain ⟨t1, e1, a1⟩ := many_home (decide (cellT ll i k < 0)) h hik hk (timesT (cellT ll i k))
    rw [dir_even hev] at a1
    obtain ⟨t2, e2, s2, c2⟩ := ih t1 (a1.st h) hnd.2 (fun r hr => hps r (List.mem_cons_of_mem _ hr))
    refine ⟨t2, ?_, s2, fun a b hab => ?_⟩
    · have : unwTo ll ([(i : Int), (k : Int)] :: ps) = unwR ll [(i : Int), (k : Int)] ++ unwTo ll ps := by unfold unwTo; rw [List.flatMap_cons]
      rw [this, List.foldl_append]
      unfold unwR
      rw [pairI_of, pairK_of, e1, e2]
    · rw [c2 a b hab, a1.cell]
      by_cases h1 : a = i ∧ b = k
      · obtain ⟨rfl, rfl⟩ := h1
        rw [if_pos (.inl ⟨rfl, rfl⟩), if_neg hnd.1, if_pos List.mem_cons_self]; omega
      · have hne : ¬ ([(a : Int), (b : Int)] = [(i : Int), (k : Int)]) := by
          intro e
          injection e with e1 e2
          injection e2 with e2 _
          exact h1 ⟨by omega, by omega⟩
        rw [if_neg (fun e => e.elim h1 (fun e => by omega))]
        by_cases h2 : [(a : Int), (b : Int)] ∈ ps
        · rw [if_pos h2, if_pos (List.mem_cons_of_mem _ h2)]
        · rw [if_neg h2, if_neg (fun e => (List.mem_cons.1 e).elim hne h2)]
theorem woundR_nodup (ll : List (List Int)) (i m : Nat) : (woundR ll i m).Nodup := by
  unfold woundR
  rw [List.nodup_iff_pairwise_ne, List.pairwise_map]
  refine List.Pairwise.imp ?_ (List.Pairwise.filter _ (List.nodup_iff_pairwise_ne.1 List.nodup_range))
  intro a b hab e
  injection e with _ e2
  injection e2 with e2 _
  exact hab (by omega)
theorem woundTo_nodup (ll : List (List Int)) (n m : Nat) : (woundTo ll n m).Nodup := by
  induction m with
  | zero => exact List.nodup_nil
  | succ m ih =>
    rw [woundTo, List.nodup_append]
    refine ⟨ih, woundR_nodup ll m n, ?_⟩
    intro r hr r' hr' e
    subst e
    obtain ⟨i, k, e, h1, _⟩ := woundTo_mem hr
    obtain ⟨k', _, e'⟩ := List.mem_map.1 hr'
    rw [← e'] at e
    injection e with e1 _
    omega
theorem woundTo_all {ll : List (List Int)} {n m a b : Nat} (ha : a < m) (hab : a < b) (hb : b < n) (hc : cellT ll a b ≠ 0) : [(a : Int), (b : Int)] ∈ woundTo ll n m := by
  induction m with
  | zero => omega
  | succ m ih =>
    rw [woundTo, List.mem_append]
    rcases Nat.lt_succ_iff_lt_or_eq.1 ha with h | rfl
    · exact .inl (ih h)
    · refine .inr (List.mem_map.2 ⟨b, List.mem_filter.2 ⟨List.mem_range.2 hb, ?_⟩, rfl⟩)
      simp [woundB, hab, hc]
def ParSt (n : Nat) (st : List Int × List (List Int)) : Prop := ∀ p q : Nat, p < q → q < n → ∀ a b : Nat, st.1.getD p 0 = (a : Int) → st.1.getD q 0 = (b : Int) → cellT st.2 a b % 2 = if b < a then 1 else 0
theorem ParSt.start (n : Nat) : ParSt n (upN n, zeroT n) := by
  intro p q hpq hq a b ha hb
  have ha : (upN n).getD p 0 = (a : Int) := ha
  have hb : (upN n).getD q 0 = (b : Int) := hb
  rw [upN_getD (by omega)] at ha
  rw [upN_getD (by omega)] at hb
  show cellT (zeroT n) a b % 2 = _
  rw [zeroT_cell, if_neg (by omega)]; rfl
theorem ParSt.step {n : Nat} {o : List Int} {t : List (List Int)} (h : IsSt n (o, t)) (hp : ParSt n (o, t)) {k : Nat} (hk : k + 1 < n) (f : Bool) : ParSt n (twStep (o, t) ((k : Int), f)) := by
  have hl : o.length = n := h.ord.len
  obtain ⟨x, y, _, _, _, ex, ey, _, _⟩ := pair_of h.ord hk
  obtain ⟨hx, hy, hne, t', e, ad, s'⟩ := step_at h hk f ex ey
  rw [e]
  have other : ∀ p q a b : Nat, p < q → q < n → ¬ (p = k ∧ q = k + 1) → o.getD p 0 = (a : Int) → o.getD q 0 = (b : Int) → cellT t' a b % 2 = if b < a then 1 else 0 := by
    intro p q a b hpq hq hno ha hb
    rw [ad.cell, if_neg, ]
    · exact hp p q hpq hq a b ha hb
    · rintro (⟨rfl, rfl⟩ | ⟨rfl, rfl⟩)
      · have h1 : p = k := Classical.byContradiction fun hn => ord_ne h.ord (show p < n by omega) (show k < n by omega) hn ha ex rfl
        have h2 : q = k + 1 := Classical.byContradiction fun hn => ord_ne h.ord hq hk hn hb ey rfl
        exact hno ⟨h1, h2⟩
      · have h1 : p = k + 1 := Classical.byContradiction fun hn => ord_ne h.ord (show p < n by omega) hk hn ha ey rfl
        have h2 : q = k := Classical.byContradiction fun hn => ord_ne h.ord hq (show k < n by omega) hn hb ex rfl
        omega
  intro p q hpq hq a b ha hb
  have ga : (swapL o k).getD p 0 = (a : Int) := ha
  have gb : (swapL o k).getD q 0 = (b : Int) := hb
  clear ha hb
  show cellT t' a b % 2 = _
  by_cases h1 : p = k
  · subst h1
    rw [swapL_at (by omega)] at ga
    by_cases h2 : q = p + 1
    · subst h2
      rw [swapL_at1 (by omega)] at gb
      have ea : a = y := by have := ga.symm.trans ey; omega
      have eb : b = x := by have := gb.symm.trans ex; omega
      subst ea eb
      have h3 : cellT t b a % 2 = if a < b then 1 else 0 := hp p (p + 1) (by omega) hq b a ex ey
      have h4 : cellT t a b = cellT t b a := h.sym a b
      rw [ad.cell, if_pos (.inr ⟨rfl, rfl⟩), h4]
      have hs : stepB f = 1 ∨ stepB f = -1 := by cases f; exact .inr rfl; exact .inl rfl
      by_cases h5 : a < b
      · rw [if_pos h5] at h3
        rw [if_neg (by omega)]
        omega
      · rw [if_neg h5] at h3
        rw [if_pos (by omega)]
        omega
    · rw [swapL_ne (by omega) h2] at gb
      exact other (p + 1) q a b (by omega) hq (by omega) ga gb
  · by_cases h2 : p = k + 1
    · subst h2
      rw [swapL_at1 (by omega)] at ga
      rw [swapL_ne (by omega) (by omega)] at gb
      exact other k q a b (by omega) hq (by omega) ga gb
    · rw [swapL_ne h1 h2] at ga
      by_cases h3 : q = k
      · subst h3
        rw [swapL_at (by omega)] at gb
        exact other p (q + 1) a b (by omega) hk (by omega) ga gb
      · by_cases h4 : q = k + 1
        · subst h4
          rw [swapL_at1 (by omega)] at gb
          exact other p k a b (by omega) (by omega) (by omega) ga gb
        · rw [swapL_ne h3 h4] at gb
          exact other p q a b hpq hq (by omega) ga gb
theorem cross_nat {n : Nat} {c : RCross} (h : 0 ≤ c.1 ∧ c.1 ≤ (n : Int) - 2) : ∃ k : Nat, c = ((k : Int), c.2) ∧ k + 1 < n := ⟨c.1.toNat, by rw [show ((c.1.toNat : Nat) : Int) = c.1 by omega], by omega⟩
theorem ParSt.fold {n : Nat} : ∀ (cs : List RCross) {st : List Int × List (List Int)}, IsSt n st → ParSt n st → (∀ c ∈ cs, 0 ≤ c.1 ∧ c.1 ≤ (n : Int) - 2) → ParSt n (cs.foldl twStep st) := by
  intro cs
  induction cs with
  | nil => intro st _ h _; exact h
  | cons c cs ih =>
    intro st h hp hc
    rw [List.foldl_cons]
    have hb := hc c List.mem_cons_self
    refine ih (h.step hb) ?_ (fun x hx => hc x (List.mem_cons_of_mem _ hx))
    obtain ⟨k, e, hk⟩ := cross_nat hb
    rw [e]
    exact ParSt.step (o := st.1) (t := st.2) h hp hk _
theorem tw_even {n : Nat} {cs : List RCross} (h : ∀ c ∈ cs, 0 ≤ c.1 ∧ c.1 ≤ (n : Int) - 2) (ho : orderF n cs = upN n) {i k : Nat} (hik : i < k) (hk : k < n) : cellT (twL n cs) i k % 2 = 0 := by
  have hp := ParSt.fold cs (IsSt.start n) (ParSt.start n) h
  have := hp i k hik hk i k (by show (twSt n cs).1.getD i 0 = _; rw [twSt_fst, ho, upN_getD (by omega)]) (by show (twSt n cs).1.getD k 0 = _; rw [twSt_fst, ho, upN_getD (by omega)])
  rw [if_neg (by omega)] at this
  exact this
theorem twSt_app (n : Nat) (a b : List RCross) : twSt n (a ++ b) = b.foldl twStep (twSt n a) := by unfold twSt; rw [List.foldl_append]
theorem unwind_zero {n : Nat} {cs : List RCross} (h : ∀ c ∈ cs, 0 ≤ c.1 ∧ c.1 ≤ (n : Int) - 2) (ho : orderF n cs = upN n) : orderF n (cs ++ unwindL n cs) = upN n ∧ woundL n (cs ++ unwindL n cs) = [] := by
  have e0 : twSt n cs = (upN n, twL n cs) := by rw [← ho, ← twSt_fst]; rfl
  have hst : IsSt n (upN n, twL n cs) := by rw [← e0]; exact IsSt.tw h
  obtain ⟨t', e, s, c⟩ := unw_home (ll := twL n cs) (woundL n cs) (twL n cs) hst (woundTo_nodup _ _ _) (fun r hr => by
    obtain ⟨i, k, e, h1, h2, h3, _⟩ := woundTo_mem hr
    exact ⟨i, k, e, h2, h3, tw_even h ho h2 h3⟩)
  have e1 : twSt n (cs ++ unwindL n cs) = (upN n, t') := by rw [twSt_app, e0]; exact e
  refine ⟨by rw [← twSt_fst, e1], ?_⟩
  have e2 : twL n (cs ++ unwindL n cs) = t' := by unfold twL; rw [e1]
  unfold woundL
  rw [e2, List.eq_nil_iff_forall_not_mem]
  intro r hr
  obtain ⟨i, k, _, h1, h2, h3, h4⟩ := woundTo_mem hr
  rw [c i k h2] at h4
  by_cases h5 : cellT (twL n cs) i k = 0
  · rw [h5] at h4; apply h4; split <;> rfl
  · rw [if_pos (show [(i : Int), (k : Int)] ∈ woundL n cs from woundTo_all (by omega) h2 h3 h5)] at h4
    exact h4 (by omega)
/- reduced crossings -/
theorem cancel {n : Nat} {st : List Int × List (List Int)} (h : IsSt n st) {l c : RCross} (hb : 0 ≤ l.1 ∧ l.1 ≤ (n : Int) - 2) (h1 : l.1 = c.1) (h2 : l.2 ≠ c.2) : twStep (twStep st l) c = st := by
  obtain ⟨o, t⟩ := st
  have hl : o.length = n := h.ord.len
  obtain ⟨k, e, hk⟩ := cross_nat hb
  have ec : c = ((k : Int), c.2) := by rw [show c = (c.1, c.2) from rfl, ← h1, e]
  rw [e, ec]
  obtain ⟨x, y, _, _, _, ex, ey, _, _⟩ := pair_of h.ord hk
  obtain ⟨_, _, hne, t1, e1, a1, s1⟩ := step_at h hk l.2 ex ey
  obtain ⟨_, _, _, t2, e2, a2, s2⟩ := step_at s1 hk c.2 ((swapL_at (by omega)).trans ey) ((swapL_at1 (by omega)).trans ex)
  rw [e1, e2, swapL_swapL o k (by omega)]
  have : t2 = t := by
    refine sq_ext a2.sq h.sq (fun i j _ _ => ?_)
    rw [a2.cell, a1.cell]
    have hs : stepB l.2 + stepB c.2 = 0 := by
      cases hl2 : l.2 <;> cases hc2 : c.2 <;> simp [hl2, hc2] at h2 <;> rfl
    by_cases h1 : (i = x ∧ j = y) ∨ (i = y ∧ j = x)
    · rw [if_pos h1, if_pos h1.symm]; show _ = cellT t i j; omega
    · rw [if_neg h1, if_neg (fun e => h1 e.symm)]
  rw [this]
theorem red_split {out : List RCross} (h : 0 < out.length) : out = out.take (out.length - 1) ++ [lastC out] := by
  unfold lastC
  rw [List.getD_eq_getElem?_getD, List.getElem?_eq_getElem (show out.length - 1 < out.length by omega), Option.getD_some]
  have := take_snoc_l out (show out.length - 1 < out.length by omega)
  rw [show out.length - 1 + 1 = out.length by omega, List.take_length] at this
  exact this
theorem red_step_st {n : Nat} {out : List RCross} {c : RCross} (h : ∀ c ∈ out, 0 ≤ c.1 ∧ c.1 ≤ (n : Int) - 2) (hc : 0 ≤ c.1 ∧ c.1 ≤ (n : Int) - 2) : twSt n (redStep out c) = twStep (twSt n out) c ∧ ∀ x ∈ redStep out c, 0 ≤ x.1 ∧ x.1 ≤ (n : Int) - 2 := by
  unfold redStep
  by_cases hu : undoB out c = true
  · rw [if_pos hu]
    unfold undoB at hu
    rw [Bool.and_eq_true, Bool.and_eq_true, decide_eq_true_eq, decide_eq_true_eq] at hu
    obtain ⟨h0, h1, h2⟩ := hu
    have hsp := red_split h0
    have h2 : (lastC out).2 ≠ c.2 := by simpa using h2
    refine ⟨?_, fun x hx => h x (List.mem_of_mem_take hx)⟩
    have e1 : twSt n out = twStep (twSt n (out.take (out.length - 1))) (lastC out) := by
      conv => lhs; rw [hsp]
      rw [twSt_app]; rfl
    rw [e1]
    have hm : lastC out ∈ out := by
      have : lastC out ∈ out.take (out.length - 1) ++ [lastC out] := by simp
      rwa [← hsp] at this
    exact (cancel (IsSt.tw (fun x hx => h x (List.mem_of_mem_take hx))) (h _ hm) h1 h2).symm
  · rw [if_neg hu, twSt_app]
    exact ⟨rfl, fun x hx => (List.mem_append.1 hx).elim (h x) (fun e => by rw [List.mem_singleton.1 e]; exact hc)⟩
theorem red_state {n : Nat} : ∀ (cs out : List RCross), (∀ c ∈ out, 0 ≤ c.1 ∧ c.1 ≤ (n : Int) - 2) → (∀ c ∈ cs, 0 ≤ c.1 ∧ c.1 ≤ (n : Int) - 2) → twSt n (cs.foldl redStep out) = cs.foldl twStep (twSt n out) ∧ ∀ x ∈ cs.foldl redStep out, 0 ≤ x.1 ∧ x.1 ≤ (n : Int) - 2 := by
  intro cs
  induction cs with
  | nil => intro out h _; exact ⟨rfl, h⟩
  | cons c cs ih =>
    intro out h hc
    rw [List.foldl_cons, List.foldl_cons]
    obtain ⟨e1, e2⟩ := red_step_st h (hc c List.mem_cons_self)
    rw [← e1]
    exact ih _ e2 (fun x hx => hc x (List.mem_cons_of_mem _ hx))
theorem redF_state {n : Nat} {cs : List RCross} (h : ∀ c ∈ cs, 0 ≤ c.1 ∧ c.1 ≤ (n : Int) - 2) : twSt n (redF cs) = twSt n cs ∧ ∀ x ∈ redF cs, 0 ≤ x.1 ∧ x.1 ≤ (n : Int) - 2 := red_state cs [] (fun _ hx => by simp at hx) h
theorem redF_valid {n : Nat} {cs : List RCross} (h : crossesB n cs = true) : crossesB n (redF cs) = true := by
  obtain ⟨h1, h2, h3⟩ := crosses_len h
  have h4 := (redF_state h3).2
  have h5 := redF_all cs
  refine crosses_t (inB_iff.2 h1) (by omega) ?_
  rw [List.all_eq_true]
  intro c hc
  exact inB_iff.2 (h4 c hc)
theorem redF_order {n : Nat} {cs : List RCross} (h : crossesB n cs = true) : orderF n (redF cs) = orderF n cs := by rw [← twSt_fst, ← twSt_fst, (redF_state (crosses_len h).2.2).1]
theorem redF_wound {n : Nat} {cs : List RCross} (h : crossesB n cs = true) : woundL n (redF cs) = woundL n cs := by
  unfold woundL twL
  rw [(redF_state (crosses_len h).2.2).1]
/- going home -/
theorem home_order {n : Nat} {cs : List RCross} (h : crossesB n cs = true) : orderF n (cs ++ homeL n cs) = upN n := by
  have h3 := (crosses_len h).2.2
  rw [homeL_t h]
  have h1 := (swaps_home _ n (orderF n cs) (IsOrd.order h3) rfl).2
  unfold orderF at h1 ⊢
  rw [List.foldl_append, List.foldl_map]
  exact h1
end Go.Proofs.YtlhdeojkpmpecaaGreat
