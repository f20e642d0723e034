/- Several texts in one: Crossings in plain words: full turns, even twists at home, unwinding leaves none; reduced crossings lead to the same. No program in sight. Contracts: the exchanges that sort, the way home, of the reference. The state of the search for castings: boxes, the cast so far, the hands that are free. Plain words beside. Castings of the program: the closure that is called with a casting, the search, FirstCasting. Written by a program (gen_l1.py). Castings of the program: castings, FirstCasting, canPlay. Written by a program (gen_l1.py). Castings of the reference: the search, FirstCasting, l17Can. Written by a program (gen_l1.py). Castings of the reference: FirstCasting, l17Can. Written by a program (gen_l1.py). -/
import Derived.Deep.DeepCutAuto
import Derived.Deep.QuietTactic
import Derived.BigQuiet
import Derived.IntWalk
import Derived.Test.YtlhdeojkpmpecaaGreatBdK7x14
import Derived.Test.YtlhdeojkpmpecaaGreatBdK3x9
import Derived.Test.YtlhdeojkpmpecaaGreatY2
import Derived.Test.YtlhdeojkpmpecaaGreatBdM5x6
import Derived.Test.YtlhdeojkpmpecaaGreatKC
import Derived.Test.YtlhdeojkpmpecaaGreatBdM7x3
import Derived.Test.YtlhdeojkpmpecaaGreatBdW1x3
namespace Go.Proofs.YtlhdeojkpmpecaaGreat
open Go.RowKit
theorem swapL_swapL : ∀ (l : List Int) (k : Nat), k + 1 < l.length → swapL (swapL l k) k = l := by
  intro l
  induction l with
  | nil => intro k h; simp at h
  | cons a l ih =>
    intro k h
    cases k with
    | zero =>
      match l, h with
      | b :: l, _ => rw [swapL_zero, swapL_zero]
    | succ k => rw [swapL_succ, swapL_succ, ih k (by simpa using h)]
theorem swapL_at {l : List Int} {k : Nat} (h : k + 1 < l.length) : (swapL l k).getD k 0 = l.getD (k + 1) 0 := by
  unfold swapL
  simp only [List.getD_eq_getElem?_getD, List.getElem?_set, List.length_set]
  rw [if_neg (show ¬ k + 1 = k by omega)]
  simp only [if_true]
  rw [if_pos (show k < l.length by omega), Option.getD_some]
theorem swapL_at1 {l : List Int} {k : Nat} (h : k + 1 < l.length) : (swapL l k).getD (k + 1) 0 = l.getD k 0 := by
  unfold swapL
  simp only [List.getD_eq_getElem?_getD, List.getElem?_set, List.length_set]
  simp only [if_true]
  rw [if_pos h, Option.getD_some]
theorem swapL_ne {l : List Int} {k j : Nat} (h1 : j ≠ k) (h2 : j ≠ k + 1) : (swapL l k).getD j 0 = l.getD j 0 := by
  unfold swapL
  simp only [List.getD_eq_getElem?_getD, List.getElem?_set, List.length_set]
  rw [if_neg (fun e => h2 e.symm), if_neg (fun e => h1 e.symm)]
theorem upN_getD {n i : Nat} (h : i < n) : (upN n).getD i 0 = (i : Int) := by
  unfold upN
  rw [List.getD_eq_getElem?_getD, List.getElem?_map, List.getElem?_range h]; rfl
theorem ord_ne {n : Nat} {o : List Int} (h : IsOrd n o) {i j x y : Nat} (hi : i < n) (hj : j < n) (hij : i ≠ j) (hx : o.getD i 0 = (x : Int)) (hy : o.getD j 0 = (y : Int)) : x ≠ y := by
  have hl := h.len
  have h1 : i < o.length := by omega
  have h2 : j < o.length := by omega
  have := h.ne h1 h2 hij
  rw [List.getD_eq_getElem?_getD, List.getElem?_eq_getElem h1, Option.getD_some] at hx
  rw [List.getD_eq_getElem?_getD, List.getElem?_eq_getElem h2, Option.getD_some] at hy
  intro e
  subst e
  exact this (by rw [hx, hy])
structure Adds (n : Nat) (t t' : List (List Int)) (x y : Nat) (d : Int) : Prop where
  sq : Sq n t'
  cell : ∀ i j, cellT t' i j = if (i = x ∧ j = y) ∨ (i = y ∧ j = x) then cellT t i j + d else cellT t i j
theorem Adds.st {n : Nat} {o : List Int} {t t' : List (List Int)} {x y : Nat} {d : Int} (h : IsSt n (o, t)) (ha : Adds n t t' x y d) : IsSt n (o, t') := by
  refine ⟨h.ord, ha.sq, fun i j => ?_⟩
  show cellT t' i j = cellT t' j i
  have hs : cellT t i j = cellT t j i := h.sym i j
  rw [ha.cell, ha.cell, hs]
  by_cases h1 : (i = x ∧ j = y) ∨ (i = y ∧ j = x)
  · rw [if_pos h1, if_pos (h1.symm.imp (fun e => ⟨e.2, e.1⟩) (fun e => ⟨e.2, e.1⟩))]
  · rw [if_neg h1, if_neg (fun e => h1 (e.symm.imp (fun e => ⟨e.2, e.1⟩) (fun e => ⟨e.2, e.1⟩)))]
theorem step_at {n : Nat} {o : List Int} {t : List (List Int)} (h : IsSt n (o, t)) {k : Nat} (hk : k + 1 < n) (f : Bool) {x y : Nat} (hx : o.getD k 0 = (x : Int)) (hy : o.getD (k + 1) 0 = (y : Int)) :
    x < n ∧ y < n ∧ x ≠ y ∧ ∃ t', twStep (o, t) ((k : Int), f) = (swapL o k, t') ∧ Adds n t t' x y (stepB f) ∧ IsSt n (swapL o k, t') := by
  obtain ⟨x', y', hx', hy', hne, e1, e2, e3, e4⟩ := pair_of h.ord hk
  have ex : x = x' := by have := hx.symm.trans e1; omega
  have ey : y = y' := by have := hy.symm.trans e2; omega
  subst ex ey
  have hst := h.step (c := ((k : Int), f)) ⟨by simp, by simp; omega⟩
  rw [twStep_of (_n := n) (c := ((k : Int), f)) e3 e4] at hst ⊢
  exact ⟨hx', hy', hne, _, rfl, ⟨hst.sq, fun i j => add2_cell h.sq hx' hy' hne _ i j⟩, hst⟩
theorem turn_of {n i : Nat} (f : Bool) : ∀ (m : Nat) (o : List Int) (t : List (List Int)), IsSt n (o, t) → i + m + 1 < n → ∀ x y : Nat, o.getD i 0 = (x : Int) → o.getD (i + m + 1) 0 = (y : Int) →
    ∃ t', ((downL i m ++ [((i : Int), f), ((i : Int), f)]) ++ upL i m).foldl twStep (o, t) = (o, t') ∧ Adds n t t' x y (2 * stepB f) := by
  intro m
  induction m with
  | zero =>
    intro o t h hk x y hx hy
    have hl := h.ord.len
    have hl : o.length = n := hl
    obtain ⟨_, _, hne, t1, e1, a1, s1⟩ := step_at h hk f hx hy
    obtain ⟨_, _, _, t2, e2, a2, s2⟩ := step_at s1 hk f ((swapL_at (by omega)).trans hy) ((swapL_at1 (by omega)).trans hx)
    refine ⟨t2, ?_, a2.sq, fun a b => ?_⟩
    · show twStep (twStep (o, t) ((i : Int), f)) ((i : Int), f) = (o, t2)
      rw [e1, e2, swapL_swapL o i (by omega)]
    · rw [a2.cell, a1.cell]
      by_cases h1 : (a = x ∧ b = y) ∨ (a = y ∧ b = x)
      · rw [if_pos h1, if_pos h1.symm, if_pos h1]; omega
      · rw [if_neg h1, if_neg (fun e => h1 e.symm), if_neg h1]
  | succ m ih =>
    intro o t h hk x y hx hy
    have hl : o.length = n := h.ord.len
    have hk1 : i + m + 1 + 1 < n := by omega
    obtain ⟨z, _, _, _, _, hz, _, _, _⟩ := pair_of h.ord hk1
    have hy' : o.getD (i + m + 1 + 1) 0 = (y : Int) := by rw [← hy]; rfl
    obtain ⟨_, _, hzy, t1, e1, a1, s1⟩ := step_at h hk1 false hz hy'
    have hxz : x ≠ z := ord_ne h.ord (show i < n by omega) (show i + m + 1 < n by omega) (by omega) hx hz
    have hxy : x ≠ y := ord_ne h.ord (show i < n by omega) hk1 (by omega) hx hy'
    obtain ⟨t2, e2, a2⟩ := ih (swapL o (i + m + 1)) t1 s1 (by omega) x y ((swapL_ne (by omega) (by omega)).trans hx) ((swapL_at (by omega)).trans hy')
    obtain ⟨_, _, _, t3, e3, a3, s3⟩ := step_at (a2.st s1) hk1 true ((swapL_at (by omega)).trans hy') ((swapL_at1 (by omega)).trans hz)
    refine ⟨t3, ?_, a3.sq, fun a b => ?_⟩
    · have hsplit : (downL i (m + 1) ++ [((i : Int), f), ((i : Int), f)]) ++ upL i (m + 1) = (((i + m + 1 : Nat) : Int), false) :: (((downL i m ++ [((i : Int), f), ((i : Int), f)]) ++ upL i m) ++ [(((i + m + 1 : Nat) : Int), true)]) := by
        simp [downL, upL]
      rw [hsplit, List.foldl_cons, List.foldl_append, e1, e2]
      show twStep _ _ = _
      rw [e3, swapL_swapL o _ (by omega)]
    · have hf : stepB false = -1 := rfl
      have ht : stepB true = 1 := rfl
      rw [a3.cell, a2.cell, a1.cell, hf, ht]
      generalize cellT t a b = v
      generalize stepB f = s
      repeat' split
      all_goals omega
theorem turn_home {n i k : Nat} (f : Bool) {t : List (List Int)} (h : IsSt n (upN n, t)) (hik : i < k) (hk : k < n) : ∃ t', (turnL i k f).foldl twStep (upN n, t) = (upN n, t') ∧ Adds n t t' i k (2 * stepB f) := by
  unfold turnL
  exact turn_of f (k - 1 - i) (upN n) t h (by omega) i k (upN_getD (by omega)) (by rw [show i + (k - 1 - i) + 1 = k by omega]; exact upN_getD hk)
def dirT (f : Bool) (m : Nat) : Int := if f = true then 2 * (m : Int) else -(2 * (m : Int))
theorem many_home {n i k : Nat} (f : Bool) {t : List (List Int)} (h : IsSt n (upN n, t)) (hik : i < k) (hk : k < n) (m : Nat) : ∃ t', (manyL (turnL i k f) m).foldl twStep (upN n, t) = (upN n, t') ∧ Adds n t t' i k (dirT f m) := by
  induction m with
  | zero => exact ⟨t, rfl, h.sq, fun a b => by have : dirT f 0 = 0 := by cases f <;> rfl
                                               rw [this, Int.add_zero]; split <;> rfl⟩
  | succ m ih =>
    obtain ⟨t1, e1, a1⟩ := ih
    obtain ⟨t2, e2, a2⟩ := turn_home f (a1.st h) hik hk
    refine ⟨t2, by rw [manyL, List.foldl_append, e1, e2], a2.sq, fun a b => ?_⟩
    rw [a2.cell, a1.cell]
    have hd : dirT f (m + 1) = dirT f m + 2 * stepB f := by cases f <;> simp [dirT, stepB] <;> omega
    rw [hd]
    split <;> omega
theorem dir_even {t : Int} (h : t % 2 = 0) : dirT (decide (t < 0)) (timesT t) = -t := by
  unfold dirT timesT
  by_cases h1 : t < 0
  · rw [decide_eq_true h1, if_pos rfl]; omega
  · rw [decide_eq_false h1, if_neg (by simp)]; omega
theorem pairI_of (i k : Nat) : pairI [(i : Int), (k : Int)] = i := rfl
theorem pairK_of (i k : Nat) : pairK [(i : Int), (k : Int)] = k := rfl
theorem unw_home {n : Nat} {ll : List (List Int)} : ∀ (ps : List (List Int)) (t : List (List Int)), IsSt n (upN n, t) → ps.Nodup → (∀ r ∈ ps, ∃ i k : Nat, r = [(i : Int), (k : Int)] ∧ i < k ∧ k < n ∧ cellT ll i k % 2 = 0) →
    ∃ t', (unwTo ll ps).foldl twStep (upN n, t) = (upN n, t') ∧ IsSt n (upN n, t') ∧ ∀ a b : Nat, a < b → cellT t' a b = cellT t a b - (if [(a : Int), (b : Int)] ∈ ps then cellT ll a b else 0) := by
  intro ps
  induction ps with
  | nil => intro t h _ _; exact ⟨t, rfl, h, fun a b _ => by rw [if_neg (by simp)]; omega⟩
  | cons r ps ih =>
    intro t h hnd hps
    obtain ⟨i, k, rfl, hik, hk, hev⟩ := hps r List.mem_cons_self
    rw [List.nodup_cons] at hnd
    obtain ⟨t1, e1, a1⟩ := many_home (decide (cellT ll i k < 0)) h hik hk (timesT (cellT ll i k))
    rw [dir_even hev] at a1
    obtain ⟨t2, e2, s2, c2⟩ := ih t1 (a1.st h) hnd.2 (fun r hr => hps r (List.mem_cons_of_mem _ hr))
    refine ⟨t2, ?_, s2, fun a b hab => ?_⟩
    · have : unwTo ll ([(i : Int), (k : Int)] :: ps) = unwR ll [(i : Int), (k : Int)] ++ unwTo ll ps := by unfold unwTo; rw [List.flatMap_cons]
      rw [this, List.foldl_append]
      unfold unwR
      rw [pairI_of, pairK_of, e1, e2]
    · rw [c2 a b hab, a1.cell]
      by_cases h1 : a = i ∧ b = k
      · obtain ⟨rfl, rfl⟩ := h1
        rw [if_pos (.inl ⟨rfl, rfl⟩), if_neg hnd.1, if_pos List.mem_cons_self]; omega
      · have hne : ¬ ([(a : Int), (b : Int)] = [(i : Int), (k : Int)]) := by
          intro e
          injection e with e1 e2
          injection e2 with e2 _
          exact h1 ⟨by omega, by omega⟩
        rw [if_neg (fun e => e.elim h1 (fun e => by omega))]
        by_cases h2 : [(a : Int), (b : Int)] ∈ ps
        · rw [if_pos h2, if_pos (List.mem_cons_of_mem _ h2)]
        · rw [if_neg h2, if_neg (fun e => (List.mem_cons.1 e).elim hne h2)]
theorem woundR_nodup (ll : List (List Int)) (i m : Nat) : (woundR ll i m).Nodup := by
  unfold woundR
  rw [List.nodup_iff_pairwise_ne, List.pairwise_map]
  refine List.Pairwise.imp ?_ (List.Pairwise.filter _ (List.nodup_iff_pairwise_ne.1 List.nodup_range))
  intro a b hab e
  injection e with _ e2
  injection e2 with e2 _
  exact hab (by omega)
theorem woundTo_nodup (ll : List (List Int)) (n m : Nat) : (woundTo ll n m).Nodup := by
  induction m with
  | zero => exact List.nodup_nil
  | succ m ih =>
    rw [woundTo, List.nodup_append]
    refine ⟨ih, woundR_nodup ll m n, ?_⟩
    intro r hr r' hr' e
    subst e
    obtain ⟨i, k, e, h1, _⟩ := woundTo_mem hr
    obtain ⟨k', _, e'⟩ := List.mem_map.1 hr'
    rw [← e'] at e
    injection e with e1 _
    omega
theorem woundTo_all {ll : List (List Int)} {n m a b : Nat} (ha : a < m) (hab : a < b) (hb : b < n) (hc : cellT ll a b ≠ 0) : [(a : Int), (b : Int)] ∈ woundTo ll n m := by
  induction m with
  | zero => omega
  | succ m ih =>
    rw [woundTo, List.mem_append]
    rcases Nat.lt_succ_iff_lt_or_eq.1 ha with h | rfl
    · exact .inl (ih h)
    · refine .inr (List.mem_map.2 ⟨b, List.mem_filter.2 ⟨List.mem_range.2 hb, ?_⟩, rfl⟩)
      simp [woundB, hab, hc]
def ParSt (n : Nat) (st : List Int × List (List Int)) : Prop := ∀ p q : Nat, p < q → q < n → ∀ a b : Nat, st.1.getD p 0 = (a : Int) → st.1.getD q 0 = (b : Int) → cellT st.2 a b % 2 = if b < a then 1 else 0
theorem ParSt.start (n : Nat) : ParSt n (upN n, zeroT n) := by
  intro p q hpq hq a b ha hb
  have ha : (upN n).getD p 0 = (a : Int) := ha
  have hb : (upN n).getD q 0 = (b : Int) := hb
  rw [upN_getD (by omega)] at ha
  rw [upN_getD (by omega)] at hb
  show cellT (zeroT n) a b % 2 = _
  rw [zeroT_cell, if_neg (by omega)]; rfl
theorem ParSt.step {n : Nat} {o : List Int} {t : List (List Int)} (h : IsSt n (o, t)) (hp : ParSt n (o, t)) {k : Nat} (hk : k + 1 < n) (f : Bool) : ParSt n (twStep (o, t) ((k : Int), f)) := by
  have hl : o.length = n := h.ord.len
  obtain ⟨x, y, _, _, _, ex, ey, _, _⟩ := pair_of h.ord hk
  obtain ⟨hx, hy, hne, t', e, ad, s'⟩ := step_at h hk f ex ey
  rw [e]
  have other : ∀ p q a b : Nat, p < q → q < n → ¬ (p = k ∧ q = k + 1) → o.getD p 0 = (a : Int) → o.getD q 0 = (b : Int) → cellT t' a b % 2 = if b < a then 1 else 0 := by
    intro p q a b hpq hq hno ha hb
    rw [ad.cell, if_neg, ]
    · exact hp p q hpq hq a b ha hb
    · rintro (⟨rfl, rfl⟩ | ⟨rfl, rfl⟩)
      · have h1 : p = k := Classical.byContradiction fun hn => ord_ne h.ord (show p < n by omega) (show k < n by omega) hn ha ex rfl
        have h2 : q = k + 1 := Classical.byContradiction fun hn => ord_ne h.ord hq hk hn hb ey rfl
        exact hno ⟨h1, h2⟩
      · have h1 : p = k + 1 := Classical.byContradiction fun hn => ord_ne h.ord (show p < n by omega) hk hn ha ey rfl
        have h2 : q = k := Classical.byContradiction fun hn => ord_ne h.ord hq (show k < n by omega) hn hb ex rfl
        omega
  intro p q hpq hq a b ha hb
  have ga : (swapL o k).getD p 0 = (a : Int) := ha
  have gb : (swapL o k).getD q 0 = (b : Int) := hb
  clear ha hb
  show cellT t' a b % 2 = _
  by_cases h1 : p = k
  · subst h1
    rw [swapL_at (by omega)] at ga
    by_cases h2 : q = p + 1
    · subst h2
      rw [swapL_at1 (by omega)] at gb
      have ea : a = y := by have := ga.symm.trans ey; omega
      have eb : b = x := by have := gb.symm.trans ex; omega
      subst ea eb
      have h3 : cellT t b a % 2 = if a < b then 1 else 0 := hp p (p + 1) (by omega) hq b a ex ey
      have h4 : cellT t a b = cellT t b a := h.sym a b
      rw [ad.cell, if_pos (.inr ⟨rfl, rfl⟩), h4]
      have hs : stepB f = 1 ∨ stepB f = -1 := by cases f; exact .inr rfl; exact .inl rfl
      by_cases h5 : a < b
      · rw [if_pos h5] at h3
        rw [if_neg (by omega)]
        omega
      · rw [if_neg h5] at h3
        rw [if_pos (by omega)]
        omega
    · rw [swapL_ne (by omega) h2] at gb
      exact other (p + 1) q a b (by omega) hq (by omega) ga gb
  · by_cases h2 : p = k + 1
    · subst h2
      rw [swapL_at1 (by omega)] at ga
      rw [swapL_ne (by omega) (by omega)] at gb
      exact other k q a b (by omega) hq (by omega) ga gb
    · rw [swapL_ne h1 h2] at ga
      by_cases h3 : q = k
      · subst h3
        rw [swapL_at (by omega)] at gb
        exact other p (q + 1) a b (by omega) hk (by omega) ga gb
      · by_cases h4 : q = k + 1
        · subst h4
          rw [swapL_at1 (by omega)] at gb
          exact other p k a b (by omega) (by omega) (by omega) ga gb
        · rw [swapL_ne h3 h4] at gb
          exact other p q a b hpq hq (by omega) ga gb
theorem cross_nat {n : Nat} {c : RCross} (h : 0 ≤ c.1 ∧ c.1 ≤ (n : Int) - 2) : ∃ k : Nat, c = ((k : Int), c.2) ∧ k + 1 < n := ⟨c.1.toNat, by rw [show ((c.1.toNat : Nat) : Int) = c.1 by omega], by omega⟩
theorem ParSt.fold {n : Nat} : ∀ (cs : List RCross) {st : List Int × List (List Int)}, IsSt n st → ParSt n st → (∀ c ∈ cs, 0 ≤ c.1 ∧ c.1 ≤ (n : Int) - 2) → ParSt n (cs.foldl twStep st) := by
  intro cs
  induction cs with
  | nil => intro st _ h _; exact h
  | cons c cs ih =>
    intro st h hp hc
    rw [List.foldl_cons]
    have hb := hc c List.mem_cons_self
    refine ih (h.step hb) ?_ (fun x hx => hc x (List.mem_cons_of_mem _ hx))
    obtain ⟨k, e, hk⟩ := cross_nat hb
    rw [e]
    exact ParSt.step (o := st.1) (t := st.2) h hp hk _
theorem tw_even {n : Nat} {cs : List RCross} (h : ∀ c ∈ cs, 0 ≤ c.1 ∧ c.1 ≤ (n : Int) - 2) (ho : orderF n cs = upN n) {i k : Nat} (hik : i < k) (hk : k < n) : cellT (twL n cs) i k % 2 = 0 := by
  have hp := ParSt.fold cs (IsSt.start n) (ParSt.start n) h
  have := hp i k hik hk i k (by show (twSt n cs).1.getD i 0 = _; rw [twSt_fst, ho, upN_getD (by omega)]) (by show (twSt n cs).1.getD k 0 = _; rw [twSt_fst, ho, upN_getD (by omega)])
  rw [if_neg (by omega)] at this
  exact this
theorem twSt_app (n : Nat) (a b : List RCross) : twSt n (a ++ b) = b.foldl twStep (twSt n a) := by unfold twSt; rw [List.foldl_append]
theorem unwind_zero {n : Nat} {cs : List RCross} (h : ∀ c ∈ cs, 0 ≤ c.1 ∧ c.1 ≤ (n : Int) - 2) (ho : orderF n cs = upN n) : orderF n (cs ++ unwindL n cs) = upN n ∧ woundL n (cs ++ unwindL n cs) = [] := by
  have e0 : twSt n cs = (upN n, twL n cs) := by rw [← ho, ← twSt_fst]; rfl
  have hst : IsSt n (upN n, twL n cs) := by rw [← e0]; exact IsSt.tw h
  obtain ⟨t', e, s, c⟩ := unw_home (ll := twL n cs) (woundL n cs) (twL n cs) hst (woundTo_nodup _ _ _) (fun r hr => by
    obtain ⟨i, k, e, h1, h2, h3, _⟩ := woundTo_mem hr
    exact ⟨i, k, e, h2, h3, tw_even h ho h2 h3⟩)
  have e1 : twSt n (cs ++ unwindL n cs) = (upN n, t') := by rw [twSt_app, e0]; exact e
  refine ⟨by rw [← twSt_fst, e1], ?_⟩
  have e2 : twL n (cs ++ unwindL n cs) = t' := by unfold twL; rw [e1]
  unfold woundL
  rw [e2, List.eq_nil_iff_forall_not_mem]
  intro r hr
  obtain ⟨i, k, _, h1, h2, h3, h4⟩ := woundTo_mem hr
  rw [c i k h2] at h4
  by_cases h5 : cellT (twL n cs) i k = 0
  · rw [h5] at h4; apply h4; split <;> rfl
  · rw [if_pos (show [(i : Int), (k : Int)] ∈ woundL n cs from woundTo_all (by omega) h2 h3 h5)] at h4
    exact h4 (by omega)
/- reduced crossings -/
theorem cancel {n : Nat} {st : List Int × List (List Int)} (h : IsSt n st) {l c : RCross} (hb : 0 ≤ l.1 ∧ l.1 ≤ (n : Int) - 2) (h1 : l.1 = c.1) (h2 : l.2 ≠ c.2) : twStep (twStep st l) c = st := by
  obtain ⟨o, t⟩ := st
  have hl : o.length = n := h.ord.len
  obtain ⟨k, e, hk⟩ := cross_nat hb
  have ec : c = ((k : Int), c.2) := by rw [show c = (c.1, c.2) from rfl, ← h1, e]
  rw [e, ec]
  obtain ⟨x, y, _, _, _, ex, ey, _, _⟩ := pair_of h.ord hk
  obtain ⟨_, _, hne, t1, e1, a1, s1⟩ := step_at h hk l.2 ex ey
  obtain ⟨_, _, _, t2, e2, a2, s2⟩ := step_at s1 hk c.2 ((swapL_at (by omega)).trans ey) ((swapL_at1 (by omega)).trans ex)
  rw [e1, e2, swapL_swapL o k (by omega)]
  have : t2 = t := by
    refine sq_ext a2.sq h.sq (fun i j _ _ => ?_)
    rw [a2.cell, a1.cell]
    have hs : stepB l.2 + stepB c.2 = 0 := by
      cases hl2 : l.2 <;> cases hc2 : c.2 <;> simp [hl2, hc2] at h2 <;> rfl
    by_cases h1 : (i = x ∧ j = y) ∨ (i = y ∧ j = x)
    · rw [if_pos h1, if_pos h1.symm]; show _ = cellT t i j; omega
    · rw [if_neg h1, if_neg (fun e => h1 e.symm)]
  rw [this]
theorem red_split {out : List RCross} (h : 0 < out.length) : out = out.take (out.length - 1) ++ [lastC out] := by
  unfold lastC
  rw [List.getD_eq_getElem?_getD, List.getElem?_eq_getElem (show out.length - 1 < out.length by omega), Option.getD_some]
  have := take_snoc_l out (show out.length - 1 < out.length by omega)
  rw [show out.length - 1 + 1 = out.length by omega, List.take_length] at this
  exact this
theorem red_step_st {n : Nat} {out : List RCross} {c : RCross} (h : ∀ c ∈ out, 0 ≤ c.1 ∧ c.1 ≤ (n : Int) - 2) (hc : 0 ≤ c.1 ∧ c.1 ≤ (n : Int) - 2) : twSt n (redStep out c) = twStep (twSt n out) c ∧ ∀ x ∈ redStep out c, 0 ≤ x.1 ∧ x.1 ≤ (n : Int) - 2 := by
  unfold redStep
  by_cases hu : undoB out c = true
  · rw [if_pos hu]
    unfold undoB at hu
    rw [Bool.and_eq_true, Bool.and_eq_true, decide_eq_true_eq, decide_eq_true_eq] at hu
    obtain ⟨h0, h1, h2⟩ := hu
    have hsp := red_split h0
    have h2 : (lastC out).2 ≠ c.2 := by simpa using h2
    refine ⟨?_, fun x hx => h x (List.mem_of_mem_take hx)⟩
    have e1 : twSt n out = twStep (twSt n (out.take (out.length - 1))) (lastC out) := by
      conv => lhs; rw [hsp]
      rw [twSt_app]; rfl
    rw [e1]
    have hm : lastC out ∈ out := by
      have : lastC out ∈ out.take (out.length - 1) ++ [lastC out] := by simp
      rwa [← hsp] at this
    exact (cancel (IsSt.tw (fun x hx => h x (List.mem_of_mem_take hx))) (h _ hm) h1 h2).symm
  · rw [if_neg hu, twSt_app]
    exact ⟨rfl, fun x hx => (List.mem_append.1 hx).elim (h x) (fun e => by rw [List.mem_singleton.1 e]; exact hc)⟩
theorem red_state {n : Nat} : ∀ (cs out : List RCross), (∀ c ∈ out, 0 ≤ c.1 ∧ c.1 ≤ (n : Int) - 2) → (∀ c ∈ cs, 0 ≤ c.1 ∧ c.1 ≤ (n : Int) - 2) → twSt n (cs.foldl redStep out) = cs.foldl twStep (twSt n out) ∧ ∀ x ∈ cs.foldl redStep out, 0 ≤ x.1 ∧ x.1 ≤ (n : Int) - 2 := by
  intro cs
  induction cs with
  | nil => intro out h _; exact ⟨rfl, h⟩
  | cons c cs ih =>
    intro out h hc
    rw [List.foldl_cons, List.foldl_cons]
    obtain ⟨e1, e2⟩ := red_step_st h (hc c List.mem_cons_self)
    rw [← e1]
    exact ih _ e2 (fun x hx => hc x (List.mem_cons_of_mem _ hx))
theorem redF_state {n : Nat} {cs : List RCross} (h : ∀ c ∈ cs, 0 ≤ c.1 ∧ c.1 ≤ (n : Int) - 2) : twSt n (redF cs) = twSt n cs ∧ ∀ x ∈ redF cs, 0 ≤ x.1 ∧ x.1 ≤ (n : Int) - 2 := red_state cs [] (fun _ hx => by simp at hx) h
theorem redF_valid {n : Nat} {cs : List RCross} (h : crossesB n cs = true) : crossesB n (redF cs) = true := by
  obtain ⟨h1, h2, h3⟩ := crosses_len h
  have h4 := (redF_state h3).2
  have h5 := redF_all cs
  refine crosses_t (inB_iff.2 h1) (by omega) ?_
  rw [List.all_eq_true]
  intro c hc
  exact inB_iff.2 (h4 c hc)
theorem redF_order {n : Nat} {cs : List RCross} (h : crossesB n cs = true) : orderF n (redF cs) = orderF n cs := by rw [← twSt_fst, ← twSt_fst, (redF_state (crosses_len h).2.2).1]
theorem redF_wound {n : Nat} {cs : List RCross} (h : crossesB n cs = true) : woundL n (redF cs) = woundL n cs := by
  unfold woundL twL
  rw [(redF_state (crosses_len h).2.2).1]
/- going home -/
theorem home_order {n : Nat} {cs : List RCross} (h : crossesB n cs = true) : orderF n (cs ++ homeL n cs) = upN n := by
  have h3 := (crosses_len h).2.2
  rw [homeL_t h]
  have h1 := (swaps_home _ n (orderF n cs) (IsOrd.order h3) rfl).2
  unfold orderF at h1 ⊢
  rw [List.foldl_append, List.foldl_map]
  exact h1
open Go.RowKit
def slLen : Value → Nat
 | .slice _ n _ => n
 | _ => 0
def boolN : Value → Nat
 | .bool b => if b = true then 1 else 0
 | _ => 0
def Apart (v u : Value) : Prop := ∀ b ∈ v.ownBlock.toList, b ∉ u.ownBlock.toList
structure SortSt (m : Nat) (l d o : List Int) : Prop where
 ord : IsOrd m o
 eq : swapsF l = d ++ swapsF o
theorem SortSt.len {m : Nat} {l d o : List Int} (h : SortSt m l d o) : d.length + inv o = inv l := by
 have := congrArg List.length h.eq
 rw [swapsF_len, List.length_append, swapsF_len] at this
 exact this.symm
theorem SortSt.step {m : Nat} {l d o : List Int} (h : SortSt m l d o) {k : Nat} (hk : FirstDesc o k) : SortSt m l (d ++ [(k : Int)]) (swapL o k) := by
 refine ⟨h.ord.swap (by have := hk.lt; rwa [h.ord.len] at this), ?_⟩
 rw [h.eq, swapsF_step hk, List.append_assoc]; rfl
theorem inv_49 {m : Nat} {l : List Int} (h : IsOrd m l) (hm : m ≤ 7) : inv l ≤ 49 := by
 have h1 := inv_le l
 rw [h.len] at h1
 have : m * m ≤ 7 * 7 := Nat.mul_le_mul hm hm
 omega
theorem SortSt.end_ {m : Nat} {l d o : List Int} (h : SortSt m l d o) (h0 : inv o = 0) : swapsF l = d := by rw [h.eq, swapsF_zero h0, List.append_nil]
def UpTo (o : List Int) (k : Nat) : Prop := ∀ j (_ : j < k) (h : j + 1 < o.length), o[j] < o[j + 1]
theorem UpTo.zero (o : List Int) : UpTo o 0 := fun j h => absurd h (by omega)
theorem UpTo.succ {o : List Int} {k : Nat} (h : UpTo o k) (hk : k + 1 < o.length) (hx : o[k] < o[k + 1]) : UpTo o (k + 1) := fun j hj h1 => by
 rcases Nat.lt_succ_iff_lt_or_eq.1 hj with h2 | rfl
 ·exact h j h2 h1
 ·exact hx
theorem UpTo.all {o : List Int} {k : Nat} (h : UpTo o k) (hk : o.length ≤ k + 1) : inv o = 0 := no_desc o (fun j hj => h j (by omega) hj)
theorem UpTo.first {m : Nat} {o : List Int} {k : Nat} (h : UpTo o k) (ho : IsOrd m o) (hk : k + 1 < o.length) (hx : ¬ o[k] < o[k + 1]) : FirstDesc o k :=
 ⟨hk, fun j hj => h j hj (by omega), by have := ho.ne (i := k) (j := k + 1) (by omega) hk (by omega); omega⟩
theorem own_lt {w : World} {B : Nat} {e : TypeId} {size n : Nat} {v : Value} {xs : List Value} (h : w.ownsRow B e size v n xs) : ∀ b ∈ v.ownBlock.toList, B ≤ b ∧ b < w.heap.size := fun b hb => (fresh_of h).2 b hb
theorem apart_new {w w' : World} {B B' n n' : Nat} {e e' : TypeId} {size size' : Nat} {v u : Value} {xs xs' : List Value} (h : w'.ownsRow B e size v n xs) (hu : w.ownsRow B' e' size' u n' xs') (hB : w.heap.size ≤ B) : Apart v u := fun b hb hb' => by
 have h1 := (own_lt h b hb).1
 have h2 := (own_lt hu b hb').2
 omega
theorem apart_grow {w : World} {B n : Nat} {e : TypeId} {size : Nat} {v u u' : Value} {xs : List Value} (h : w.ownsRow B e size v n xs) (hap : Apart v u) {N : Nat} (hN : w.heap.size ≤ N) (hat : u'.ownBlock = u.ownBlock ∨ u'.ownBlock = some N) : Apart v u' := fun b hb hb' => by
 rcases hat with e | e
 ·rw [e] at hb'; exact hap b hb hb'
 ·rw [e] at hb'
  have h1 := (own_lt h b hb).2
  simp at hb'
  omega
set_option maxHeartbeats 4000000 in
set_option maxRecDepth 100000 in
theorem specSorting_any (m : Nat) (v : Value) (l : List Int) (w : World) (h : RdL cInt 1 w v l) (hord : IsOrd m l) (hm : 1 ≤ m ∧ m ≤ 7) :
  Calls Tryz.prog 173 #[v] w fun e w' => ∃ v', e = .returned v' ∧ w'.ownsRow w.heap.size 3 1 v' (swapsF l).length ((swapsF l).flatMap cInt) ∧ Below w.heap.size w w' := by
 have h0 := h
 obtain ⟨A, c, rfl, h1, h2⟩ := h.form
 obtain ⟨iI, hiI, hzI0, hzI1, hzI2⟩ := info_parts infoInt
 have hl7 : l.length ≤ 7 := by rw [hord.len]; omega
 have hi49 := inv_49 hord hm.2
 have HO := Lib.hid hord
 have HS0 : Hid (SortSt m l [] l) := ⟨hord, rfl⟩
 clear hord
 have hownA := World.ownsRow_made (size := 1) (e := 3) w #[] 0 (Nat.le_refl _) (by simp [maxLen]) rfl
 have hown1 : ((w.alloc (.cells #[] 3)).alloc (.cells #[] 3)).ownsRow (w.heap.size + 1) 3 1 (.slice (some ⟨w.heap.size + 1, 0, none⟩) 0 0) 0 [] := by
  have := World.ownsRow_made (size := 1) (e := 3) (w.alloc (.cells #[] 3)) #[] 0 (Nat.le_refl _) (by simp [maxLen]) rfl
  simpa using this
 have hownB := hownA.alloc (.cells #[] 3)
 have hal : Below w.heap.size w ((w.alloc (.cells #[] 3)).alloc (.cells #[] 3)) := ((Below.refl _ _).alloc (Nat.le_refl _) _).alloc (by simp) _
 have h3 := h0.below hal
 go_enter Tryz.func173, Tryz.ntmps173
 go_wp2_with (at_builtin; refine wpList_append_empty _ rfl (.tmp 7) (.tmp 8) _ rfl (w.heap.size + 1) 3 iI _ 1 8 Tryz.underlying26 hiI hzI0 hzI1 hzI2 rfl (by omega) (w.heap.size + 1) rfl hown1 _ l.length (l.flatMap cInt) rfl h3 (oneCell_flat cInt_one l) (by simp [maxLen] <;> omega) (by omega) (by simp) ?_; intro v1 w1 own1 b1 at1)
 have hb1 : Below w.heap.size w w1 := Below.trans hal (b1.mono (by simp <;> omega))
 have hz1 := hb1.size
 have hp1 := own_below hownB b1
 have hap1 : Apart v1 (.slice (some ⟨w.heap.size, 0, none⟩) 0 0) := fun b hb hb' => by
  have := (own_lt own1 b hb).1
  simp [Value.ownBlock] at hb'
  omega
 have HAP := Lib.hid hap1
 have own1' := own_mono own1 (Nat.zero_le _)
 clear hownA hown1 hownB hal h3 b1 at1 own1 hap1
 obtain ⟨A1, c1, rfl, _, _⟩ := (RdS.of_own own1').form
 go_wp2_with fail
 go_loopw [3, 4, 5] (fun p q _ wr => ∃ d o : List Int, wr.ownsRow w.heap.size 3 1 p d.length (d.flatMap cInt) ∧ wr.ownsRow 0 3 1 q o.length (o.flatMap cInt) ∧ Hid (Apart q p) ∧ Hid (SortSt m l d o) ∧ Below w.heap.size w wr) (fun p _ _ _ => 49 - slLen p)
 case atStart => exact ⟨[], l, hp1, own1', HAP, HS0, hb1⟩
 case round =>
  obtain ⟨d, o, hp, hq, hap, hst, hb⟩ := hrel
  clear hp1 own1' HAP HS0 hb1 hz1
  have hrq : RdL cInt 1 wr _ o := RdS.of_own hq
  obtain ⟨Ap, cp, rfl, _, _⟩ := (RdS.of_own hp).form
  obtain ⟨Aq, cq, rfl, _, _⟩ := hrq.form
  have hsl := hst.out.len
  have hol : o.length ≤ 7 := by rw [hst.out.ord.len]; omega
  have Hok := Lib.hid (hst.out.ord.okB hm)
  have hz := hb.size
  have hC := specCountInv_any _ o wr hrq Hok.out
  obtain ⟨I, hI⟩ : ∃ I, inv o = I := ⟨_, rfl⟩
  rw [hI] at hC hsl
  have HI := Lib.hid hI
  clear hI
  have hd49 : d.length + I ≤ 49 := by omega
  clear hsl
  go_wp2_with fail
  refine hC.mono ?_
  rintro e w2 ⟨rfl, hb2⟩
  have hz2 := hb2.size
  have hp2 := own_below hp hb2
  have hq2 := own_below hq hb2
  have hrq2 : RdL cInt 1 w2 _ o := RdS.of_own hq2
  have hbb : Below w.heap.size w w2 := bl_trans hb hb2
  clear hp hq hC hb hb2
  by_cases hI0 : I = 0
  ·subst hI0
   clear hd49
   go_wp2_with fail
   go_ret
   rw [hst.out.end_ HI.out]
   exact ⟨_, rfl, hp2, hbb⟩
  ·have hI1 : 0 < I := by omega
   have hol2 : 2 ≤ o.length := by
    apply Classical.byContradiction
    intro hn
    have := (UpTo.zero o).all (by omega)
    rw [HI.out] at this
    omega
   clear hI0
   have hIi : (0 : Int) < (I : Int) := by omega
   go_wp2_with fail
   go_loopw [5] (fun i wi => ∃ (k d2 : Nat), i = .int .i64 k ∧ k + 1 < o.length ∧ Hid (UpTo o k) ∧ wi = w2.drewN d2) (fun i _ => 7 - (intOf i).toNat)
   case atStart => exact ⟨0, 0, rfl, by omega, UpTo.zero o, rfl⟩
   case round =>
    obtain ⟨k, d2, rfl, hk, hup, rfl⟩ := hrel
    obtain ⟨g1, off1, rfl, hg1, hc1⟩ := hrq2.cell (k := k) cInt_len (by omega) (by omega)
    obtain ⟨g2, off2, hA2, hg2, hc2⟩ := hrq2.cell (k := k + 1) cInt_len (by omega) hk
    injection hA2 with hA2
    injection hA2 with e1 e2
    subst e1 e2
    have k1 := hc1 0 _ rfl
    have k2 := hc2 0 _ rfl
    simp only [Nat.add_zero, Nat.mul_one] at k1 k2
    clear hc1 hc2
    have e1 : ((k : Int) + 1).toNat = k + 1 := by omega
    have HX : Hid (o[k] < o[k + 1] → UpTo o (k + 1)) := fun hx => hup.out.succ hk hx
    have HY : Hid (¬ o[k] < o[k + 1] → FirstDesc o k) := fun hx => hup.out.first hst.out.ord hk hx
    by_cases hx : o[k] < o[k + 1]
    ·have hk2 : k + 1 + 1 < o.length := by
      apply Classical.byContradiction
      intro hn
      have := (HX.out hx).all (by omega)
      rw [HI.out] at this
      omega
     have hxu := HX.out hx
     have HXU := Lib.hid hxu
     clear hxu HX HY
     have hx' : decide (o[k] < o[k + 1]) = true := decide_eq_true hx
     generalize o[k + 1] = y at *
     generalize o[k] = x at *
     go_wp2_with fail
     go_quiet (fail)
     rename_i nq
     go_wp2_with fail
     go_roundw
     case rel => exact ⟨k + 1, _, by go_num, hk2, HXU.out, rfl⟩
     case measure => simp [intOf]; omega
    ·have hfd := HY.out hx
     have HFD := Lib.hid hfd
     clear hfd HX HY
     have hx' : decide (o[k] < o[k + 1]) = false := decide_eq_false hx
     generalize o[k + 1] = y at *
     generalize o[k] = x at *
     go_wp2_with fail
     go_quiet (fail)
     rename_i nq
     have hq3 := own_below hq2 (below_drewN (Below.refl w2.heap.size w2) nq)
     go_wp2_with fail
     refine (specSwap_any _ o k _ (hrq2.below (below_drewN (Below.refl _ _) _)) Hok.out hk).mono ?_
     rintro e w3 ⟨v3, rfl, own3, hb3⟩
     obtain ⟨A3, c3, rfl, _, _⟩ := (RdS.of_own own3).form
     have hb23 : Below w2.heap.size w2 w3 := bl_trans (below_drewN (Below.refl _ _) _) hb3
     have hz3 := hb23.size
     have hp3 := own_below hp2 hb23
     have own3' : w3.ownsRow w2.heap.size 3 1 (.slice A3 o.length c3) (swapL o k).length ((swapL o k).flatMap cInt) := by rw [swapL_len]; exact own_mono own3 (by simp)
     have hap3 := Lib.hid (apart_new own3' hp2 (Nat.le_refl _))
     have hbb3 : Below w.heap.size w w3 := bl_trans hbb hb23
     have HS3 : Hid (SortSt m l (d ++ [(k : Int)]) (swapL o k)) := hst.out.step HFD.out
     have H3 := Lib.hid own3'
     clear own3 own3' hb3 hb23 hq3 hq2 hrq2 hrq
     go_wp2_with (at_builtin; refine wpList_appendB _ rfl (.tmp 31) (.tmp 33) _ rfl w.heap.size 3 iI _ 1 8 Tryz.underlying26 hiI hzI0 hzI1 hzI2 rfl (by omega) _ d.length (d.flatMap cInt) rfl (hp3.alloc _) _ 1 [.int .i64 k] rfl (rdS_new w3 #[.int .i64 k] _ 1 1 rfl (by simp [maxLen])) (by simp [Value.oneCell']) (by simp [maxLen]; omega) (by omega) (by simp; omega) ?_; intro v4 w4 own4 gr4 at4)
     obtain ⟨A4, c4, rfl, _, _⟩ := (RdS.of_own own4).form
     have hch := Chg.of_grown gr4
     have hb4 := below_own (hp3.alloc _) gr4 (by simp; omega)
     have q4 := Lib.hid (own_chg (H3.out.alloc _) hch hap3.out)
     have ap4 := Lib.hid (apart_grow (H3.out.alloc _) hap3.out (Nat.le_refl _) at4)
     clear gr4 at4 hch
     go_wp2_with fail
     go_roundw
     case rel => exact ⟨d ++ [(k : Int)], swapL o k, by rw [List.length_append, List.flatMap_append]; exact own4, own_mono q4.out (Nat.zero_le _), ap4.out, HS3.out, (hbb3.alloc (by omega) _).trans hb4⟩
     case measure => simp [slLen]; omega
def wayL (sw : List Int) : List RCross := sw.map (fun k => (k, true))
theorem wayL_snoc (sw : List Int) {k : Nat} (h : k < sw.length) : wayL (sw.take (k + 1)) = wayL (sw.take k) ++ [(sw[k], true)] := by unfold wayL; rw [take_snoc_l sw h, List.map_append]; rfl
theorem wayL_len (sw : List Int) : (wayL sw).length = sw.length := by simp [wayL]
set_option maxHeartbeats 4000000 in
set_option maxRecDepth 100000 in
theorem specBringHome_any (n : Int) (v : Value) (cs : List RCross) (w : World) (h : RdL cCross 2 w v cs) :
  Calls Tryz.prog 152 #[.int .i64 n, v] w fun e w' => ∃ v', e = .returned (.tuple #[v', .bool (crossesB n cs)]) ∧ w'.ownsRow w.heap.size 85 2 v' (homeL n cs).length ((homeL n cs).flatMap cCross) ∧ Below w.heap.size w w' := by
 have h0 := h
 obtain ⟨A, c, rfl, h1, h2⟩ := h.form
 obtain ⟨iX, hiX, hzX0, hzX1, hzX2⟩ := info_parts infoCross
 have hownA := World.ownsRow_made (size := 2) (e := 85) w #[] 0 (Nat.le_refl _) (by simp [maxLen]) rfl
 have hal : Below w.heap.size w (w.alloc (.cells #[] 85)) := (Below.refl _ _).alloc (Nat.le_refl _) _
 have h3 := h0.below hal
 go_enter Tryz.func152, Tryz.ntmps152
 go_wp2_with fail
 refine twoB (specCrossesOk_any n _ cs _ h3) (fun w1 hq hb1 => ?_) (fun w1 hq hb1 => ?_)
 ·obtain ⟨hn, hlen, hcs⟩ := crosses_len hq.out
  obtain ⟨m, rfl⟩ := Int.eq_ofNat_of_zero_le (show 0 ≤ n by omega)
  have hm : 1 ≤ m ∧ m ≤ 7 := by omega
  have hz1 := hb1.size
  simp at hz1
  have hb01 : Below w.heap.size w w1 := bl_trans hal hb1
  have hown1 := own_below hownA hb1
  have hO := specOrderAfter_any (m : Int) _ cs w1 (h0.below hb01)
  rw [ordR_t hq.out] at hO
  have HOrd := Lib.hid (IsOrd.order hcs)
  have HQ := Lib.hid hq.out
  have HH := Lib.hid (homeL_t hq.out)
  have Hm := Lib.hid hm
  clear hal h3 hownA hb1 hq hcs hn
  go_wp2_with fail
  refine hO.mono ?_
  rintro e w2 ⟨v2, rfl, own2, hb2⟩
  have hr2 : RdL cInt 1 w2 v2 (orderF m cs) := RdS.of_own own2
  have hb02 : Below w.heap.size w w2 := bl_trans hb01 hb2
  have hz2 := hb2.size
  have hown2 := own_below hown1 hb2
  clear own2 hb2 hO hown1 hb01
  obtain ⟨A2, c2, rfl, _, _⟩ := hr2.form
  have hi49 := inv_49 HOrd.out Hm.out.2
  rw [← swapsF_len] at hi49
  go_wp2_with fail
  refine (specSorting_any m _ (orderF m cs) _ hr2 HOrd.out Hm.out).mono ?_
  rintro e w3 ⟨v3, rfl, own3, hb3⟩
  have hb03 : Below w.heap.size w w3 := bl_trans hb02 hb3
  have hz3 := hb3.size
  have hown3 := own_below hown2 hb3
  have hap3 := Lib.hid (apart_new own3 hown2 (Nat.le_refl _))
  have own3' := own_mono own3 (Nat.zero_le _)
  obtain ⟨sw, hsw⟩ : ∃ sw, swapsF (orderF m cs) = sw := ⟨_, rfl⟩
  rw [hsw] at own3' hi49
  have HH2 : Hid (homeL (m : Int) cs = wayL sw) := by rw [← hsw]; exact HH.out
  clear own3 hb3 hr2 hown2 hb02 HH hsw
  obtain ⟨A3, c3, rfl, _, _⟩ := (RdS.of_own own3').form
  go_wp2_with fail
  go_loopw [6, 8] (fun p i wr => ∃ k : Nat, k ≤ sw.length ∧ i = .int .i64 k ∧ wr.ownsRow w.heap.size 85 2 p k ((wayL (sw.take k)).flatMap cCross) ∧ wr.ownsRow 0 3 1 (.slice A3 sw.length c3) sw.length (sw.flatMap cInt) ∧ Hid (Apart (.slice A3 sw.length c3) p) ∧ Below w.heap.size w wr) (fun _ i _ => sw.length - (intOf i).toNat)
  case atStart => exact ⟨0, Nat.zero_le _, rfl, hown3, own3', hap3, hb03⟩
  case round =>
   obtain ⟨k, hk, rfl, hp, hs, hap, hb⟩ := hrel
   clear hown3 own3' hap3 hb03
   have hz := hb.size
   obtain ⟨Ap, cp, rfl, _, _⟩ := (RdS.of_own hp).form
   by_cases hlt : k < sw.length
   ·have hrs : RdL cInt 1 wr (.slice A3 sw.length c3) sw := RdS.of_own hs
    obtain ⟨g, off, rfl, hg, hc⟩ := hrs.cell cInt_len (by omega) hlt
    have k0 := hc 0 _ rfl
    simp only [Nat.add_zero, Nat.mul_one] at k0
    clear hc
    have Hw := Lib.hid (wayL_snoc sw hlt)
    generalize sw[k] = x at *
    go_wp2_with (at_builtin; refine wpList_appendB _ rfl (.tmp 25) (.tmp 31) _ rfl w.heap.size 85 iX _ 2 16 Tryz.underlying32 hiX hzX0 hzX1 hzX2 rfl (by omega) _ k ((wayL (sw.take k)).flatMap cCross) rfl (hp.alloc _) _ 1 [.int .i64 x, .bool true] rfl (rdS_new wr #[.int .i64 x, .bool true] _ 2 1 rfl (by simp [maxLen])) (by simp [Value.oneCell']) (by simp [maxLen]; omega) (by omega) (by simp; omega) ?_; intro v4 w4 own4 gr4 at4)
    obtain ⟨A4, c4, rfl, _, _⟩ := (RdS.of_own own4).form
    have hch := Chg.of_grown gr4
    have hb4 := below_own (hp.alloc _) gr4 (by simp; omega)
    have q4 := Lib.hid (own_chg (hs.alloc _) hch hap.out)
    have ap4 := Lib.hid (apart_grow (hs.alloc _) hap.out (Nat.le_refl _) at4)
    clear gr4 at4 hch
    go_wp2_with fail
    go_roundw
    case rel => exact ⟨k + 1, by omega, by go_num, by rw [Hw.out, List.flatMap_append]; exact own4, q4.out, ap4.out, (hb.alloc (by omega) _).trans hb4⟩
    case measure => simp [intOf]; omega
   ·obtain rfl : k = sw.length := by omega
    rw [List.take_length] at hp
    go_wp2_with fail
    go_ret2
    rw [HQ.out, HH2.out, wayL_len]
    exact ⟨_, rfl, hp, hb⟩
 ·have hb01 : Below w.heap.size w w1 := bl_trans hal hb1
  have hown1 := own_below hownA hb1
  clear hal h3 hownA hb1
  go_wp2_with fail
  go_ret2
  rw [hq.out, homeL_f hq.out]
  exact ⟨_, rfl, hown1, hb01⟩
open Go.RowKit
theorem knows_ix (p : RPl) (x : Int) : knowsB p x = true ↔ 0 ≤ idxF p.1 x := by
 unfold knowsB
 rw [List.any_eq_true]
 constructor
 ·rintro ⟨y, hy, e⟩
  have := of_decide_eq_true e
  subst this
  rw [idxF_mem hy]; omega
 ·intro h
  apply Classical.byContradiction
  intro hno
  have : idxF p.1 x = -1 := idxF_none (List.all_eq_true.2 (fun y hy => neB_t (fun e => hno ⟨y, hy, decide_eq_true e⟩)))
  omega
theorem playersB_fr {pl : List RPl} (h : playersB pl = true) : ∀ r ∈ pl, 0 ≤ r.2 ∧ r.2 ≤ 2 := fun r hr => by
 rw [playersB, Bool.and_eq_true] at h
 have := List.all_eq_true.1 h.1 r hr
 rw [playerB, Bool.and_eq_true] at this
 exact inB_iff.1 this.2
def RetCast (b : Bool) (w : World) (e : Ending) (w' : World) : Prop := ∃ vo, e = .returned (.tuple #[vo, .bool b]) ∧ Below w.heap.size w w'
structure Hands (pl : List RPl) (ld fr : List Int) : Prop where
 l1 : ld.length = pl.length
 l2 : fr.length = pl.length
 at_ : ∀ p (h : p < pl.length) (h1 : p < ld.length) (h2 : p < fr.length), fr[p] = pl[p].2 - ld[p] ∧ 0 ≤ fr[p] ∧ 0 ≤ ld[p] ∧ pl[p].2 ≤ 2
theorem Hands.start {pl : List RPl} (h : ∀ r ∈ pl, 0 ≤ r.2 ∧ r.2 ≤ 2) : Hands pl (zeroL pl.length) (pl.map (·.2)) := by
 refine ⟨by simp [zeroL], by simp, fun p h0 h1 h2 => ?_⟩
 have := h _ (List.getElem_mem h0)
 simp [zeroL]
 omega
theorem Hands.can {pl : List RPl} {ld fr : List Int} (h : Hands pl ld fr) {k : Nat} (hk : k < pl.length) (hf : k < fr.length) (x : Int) : canAt pl x ld k = (decide (fr[k] ≠ 0) && knowsB pl[k] x) := by
 have h1 := h.l1
 have := h.at_ k hk (by omega) hf
 rw [canAt_eq hk (by omega)]
 congr 1
 simp only [decide_eq_decide]
 omega
theorem Hands.less {pl : List RPl} {ld fr : List Int} (h : Hands pl ld fr) {k : Nat} (hf : k < fr.length) (h0 : fr[k] ≠ 0) : Hands pl (bump ld k) (fr.set k (fr[k] - 1)) := by
 have h1 := h.l1
 have h2 := h.l2
 have hb := bump_eq (ld := ld) (p := k) (by omega)
 refine ⟨by rw [bump_len]; exact h1, by simpa using h2, fun p hp h3 h4 => ?_⟩
 have hp' := h.at_ p hp (by omega) (by omega)
 rw [List.getElem_set]
 have e : (bump ld k)[p] = if k = p then ld[k]'(by omega) + 1 else ld[p]'(by omega) := by simp only [hb, List.getElem_set]
 rw [e]
 by_cases hkp : k = p
 ·subst hkp; rw [if_pos rfl, if_pos rfl]; omega
 ·rw [if_neg hkp, if_neg hkp]; exact hp'
theorem set_back {fr : List Int} {k : Nat} (hk : k < fr.length) (x : Int) : (fr.set k x).set k fr[k] = fr := by rw [List.set_set, List.set_getElem_self]
theorem row_len0 (l : List Int) : (l.flatMap cInt).length = l.length * 1 := by rw [Nat.mul_one]; exact row_len' l
 where row_len' : ∀ l : List Int, (l.flatMap cInt).length = l.length
 | [] => rfl
 | a :: l => by rw [List.flatMap_cons, List.length_append, row_len' l, List.length_cons]; show 1 + l.length = _; omega
abbrev BX (gc gp gk gl gf gr go gF : Nat) : List Nat := [gc, gp, gk, gl, gf, gr, go, gF]
structure CS0 (w0 w : World) (gc gp gk gl gf gr go gF : Nat) (vp vk vl vf vr : Value) (fr : List Int) (fd : Bool) : Prop where
 base : ∀ b ∈ BX gc gp gk gl gf gr go gF, w0.heap.size ≤ b
 nd : (BX gc gp gk gl gf gr go gF).Nodup
 below : Below w0.heap.size w0 w
 bp : Loc w gp [vp]
 bk : Loc w gk [vk]
 bl : Loc w gl [vl]
 bf : Loc w gf [vf]
 br : Loc w gr [vr]
 bo : ∃ vo, Loc w go [vo]
 bF : Loc w gF [.bool fd]
 free : w.ownsRow w0.heap.size 3 1 vf fr.length (fr.flatMap cInt)
 apf : ∀ b ∈ vf.ownBlock.toList, b ∉ BX gc gp gk gl gf gr go gF
structure CS (w0 w : World) (gc gp gk gl gf gr go gF : Nat) (vp vk vl vf vr : Value) (cast fr : List Int) (fd : Bool) : Prop where
 rest : CS0 w0 w gc gp gk gl gf gr go gF vp vk vl vf vr fr fd
 cst : ∃ vc, Loc w gc [vc] ∧ w.ownsRow w0.heap.size 3 1 vc cast.length (cast.flatMap cInt) ∧ ∀ b ∈ vc.ownBlock.toList, b ∉ BX gc gp gk gl gf gr go gF ++ vf.ownBlock.toList
theorem loc_lt {w : World} {b : Nat} {v : Value} (h : Loc w b [v]) : b < w.heap.size := World.block_lt_of_cell? w _ (h 0 v rfl).1
section
variable {w0 w w' : World} {gc gp gk gl gf gr go gF : Nat} {vp vk vl vf vr : Value} {cast fr : List Int} {fd : Bool}
theorem CS0.chg (h : CS0 w0 w gc gp gk gl gf gr go gF vp vk vl vf vr fr fd) {S : List Nat} (hc : Chg S w w') (hS : ∀ b ∈ S, w0.heap.size ≤ b) (hn : ∀ b ∈ [gp, gk, gl, gf, gr, go, gF], b ∉ S) (hf : ∀ b ∈ vf.ownBlock.toList, b ∉ S) : CS0 w0 w' gc gp gk gl gf gr go gF vp vk vl vf vr fr fd := by
 obtain ⟨vo, h4⟩ := h.bo
 exact ⟨h.base, h.nd, Below.chg h.below hc h.below.size hS, h.bp.chg hc (hn _ (by simp)), h.bk.chg hc (hn _ (by simp)), h.bl.chg hc (hn _ (by simp)), h.bf.chg hc (hn _ (by simp)), h.br.chg hc (hn _ (by simp)), ⟨vo, h4.chg hc (hn _ (by simp))⟩, h.bF.chg hc (hn _ (by simp)), own_chg h.free hc hf, h.apf⟩
theorem CS.keep (h : CS w0 w gc gp gk gl gf gr go gF vp vk vl vf vr cast fr fd) (hb : Below w.heap.size w w') : CS w0 w' gc gp gk gl gf gr go gF vp vk vl vf vr cast fr fd := by
 obtain ⟨vc, h1, h2, h3⟩ := h.cst
 exact ⟨h.rest.chg (Chg.of_below hb []) (by simp) (by simp) (by simp), vc, h1.below hb, own_below h2 hb, h3⟩
theorem CS.drewN (h : CS w0 w gc gp gk gl gf gr go gF vp vk vl vf vr cast fr fd) (n : Nat) : CS w0 (w.drewN n) gc gp gk gl gf gr go gF vp vk vl vf vr cast fr fd := by
 obtain ⟨vc, h1, h2, h3⟩ := h.cst
 let c0 := Chg.refl [] w
 exact ⟨h.rest.chg (S := []) (w' := w.drewN n) ⟨c0.os, c0.tape, c0.output, c0.size, c0.block⟩ (by simp) (by simp) (by simp), vc, h1.drewN n, h2, h3⟩
theorem CS.free_at (h : CS w0 w gc gp gk gl gf gr go gF vp vk vl vf vr cast fr fd) {k : Nat} (hk : k < fr.length) :
  ∃ g c, vf = .slice (some ⟨g, 0, none⟩) fr.length c ∧ w.cell? ⟨g, k, none⟩ = some (.int .i64 fr[k]) ∧ w.frozen? ⟨g, k, none⟩ = false ∧ ∀ x, CS w0 (w.setCell ⟨g, k, none⟩ (.int .i64 x)) gc gp gk gl gf gr go gF vp vk vl vf vr cast (fr.set k x) fd := by
 obtain ⟨h, vc, h1, h2, h3⟩ := h
 have hf := h.free
 obtain ⟨g, c, rfl⟩ := own_form hf (by omega)
 obtain ⟨vo, h4⟩ := h.bo
 have hg : g ∉ BX gc gp gk gl gf gr go gF := h.apf g (by simp [Value.ownBlock])
 refine ⟨g, c, rfl, row_cell hf hk, hf.frozenAt k, fun x => ?_⟩
 have hch : Chg [g] w (w.setCell ⟨g, k, none⟩ (.int .i64 x)) := chg_set (Chg.refl _ _) (by simp)
 have hn : ∀ b ∈ BX gc gp gk gl gf gr go gF, b ∉ [g] := fun b hb hb' => by simp at hb'; subst hb'; exact hg hb
 refine ⟨⟨h.base, h.nd, h.below.setCell (own_lt hf g (by simp [Value.ownBlock])).1 _,
  h.bp.chg hch (hn _ (by simp)), h.bk.chg hch (hn _ (by simp)), h.bl.chg hch (hn _ (by simp)), h.bf.chg hch (hn _ (by simp)), h.br.chg hch (hn _ (by simp)), ⟨vo, h4.chg hch (hn _ (by simp))⟩, h.bF.chg hch (hn _ (by simp)), ?_, h.apf⟩,
  vc, h1.chg hch (hn _ (by simp)), own_chg h2 hch (fun b hb hb' => h3 b hb (by simp at hb'; subst hb'; simp [Value.ownBlock])), h3⟩
 have := row_stored hf k x
 rw [List.length_set]; exact this
theorem CS0.put {vc vc' : Value} {cast' : List Int} (h : CS0 w0 w gc gp gk gl gf gr go gF vp vk vl vf vr fr fd) (h1 : Loc w gc [vc]) (hown : w.ownsRow w0.heap.size 3 1 vc' cast'.length (cast'.flatMap cInt)) (hap : ∀ b ∈ vc'.ownBlock.toList, b ∉ BX gc gp gk gl gf gr go gF ++ vf.ownBlock.toList) :
  CS w0 (w.setCell ⟨gc, 0, none⟩ vc') gc gp gk gl gf gr go gF vp vk vl vf vr cast' fr fd := by
 have hch : Chg [gc] w (w.setCell ⟨gc, 0, none⟩ vc') := chg_set (Chg.refl _ _) (by simp)
 have hn : ∀ b ∈ [gp, gk, gl, gf, gr, go, gF], b ∉ [gc] := fun b hb hb' => by
  have := h.nd
  rw [List.nodup_cons] at this
  simp at hb'
  subst hb'
  exact this.1 hb
 exact ⟨h.chg hch (fun b hb => by simp at hb; subst hb; exact h.base b (by simp)) hn (fun b hb hb' => h.apf b hb (by simp at hb'; subst hb'; simp)),
  vc', h1.set (i := 0) (v := vc) rfl, own_chg hown hch (fun b hb hb' => hap b hb (by simp at hb'; subst hb'; simp)), hap⟩
theorem CS0.grown {vc : Value} {n : Nat} {xs : List Value} (h : CS0 w0 w gc gp gk gl gf gr go gF vp vk vl vf vr fr fd) (hL : Loc w gc [vc]) (ho : w.ownsRow w0.heap.size 3 1 vc n xs) (hap : ∀ b ∈ vc.ownBlock.toList, b ∉ BX gc gp gk gl gf gr go gF ++ vf.ownBlock.toList) (hg : w.grownBy w' vc.ownBlock) {v' : Value}
  (hat : v'.ownBlock = vc.ownBlock ∨ v'.ownBlock = some w.heap.size) :
  (∀ c', w'.ownsRow w0.heap.size 3 1 v' c'.length (List.flatMap cInt c') → CS w0 (w'.setCell ⟨gc, 0, none⟩ v') gc gp gk gl gf gr go gF vp vk vl vf vr c' fr fd) ∧ Loc w' gc [vc] := by
 have hch := Chg.of_grown hg
 have hn : ∀ b ∈ BX gc gp gk gl gf gr go gF, b ∉ vc.ownBlock.toList := fun b hb hb' => hap b hb' (List.mem_append_left _ hb)
 have hF : ∀ b ∈ vf.ownBlock.toList, b ∉ vc.ownBlock.toList := fun b hb hb' => hap b hb' (List.mem_append_right _ hb)
 obtain ⟨vo, h4⟩ := h.bo
 have hap' : ∀ b ∈ v'.ownBlock.toList, b ∉ BX gc gp gk gl gf gr go gF ++ vf.ownBlock.toList := fun b hb hb' => by
  rcases hat with e | e
  ·rw [e] at hb; exact hap b hb hb'
  ·rw [e] at hb
   have e2 : b = w.heap.size := by simpa using hb
   subst e2
   have hlt : w.heap.size < w.heap.size := by
    rcases List.mem_append.1 hb' with h5 | h5
    ·simp only [List.mem_cons, List.not_mem_nil, or_false] at h5
     rcases h5 with e | e | e | e | e | e | e | e
     ·have := loc_lt hL; omega
     ·have := loc_lt h.bp; omega
     ·have := loc_lt h.bk; omega
     ·have := loc_lt h.bl; omega
     ·have := loc_lt h.bf; omega
     ·have := loc_lt h.br; omega
     ·have := loc_lt h4; omega
     ·have := loc_lt h.bF; omega
    ·exact (own_lt h.free _ h5).2
   omega
 have hL' := hL.chg hch (hn _ (by simp))
 exact ⟨fun c' hc' => CS0.put (h.chg hch (fun b hb => (own_lt ho b hb).1) (fun b hb => hn b (List.mem_cons_of_mem _ hb)) hF) hL' hc' hap', hL'⟩
theorem CS.pop {k : Int} (h : CS w0 w gc gp gk gl gf gr go gF vp vk vl vf vr (cast ++ [k]) fr fd) : ∃ g c, Loc w gc [.slice (some ⟨g, 0, none⟩) (cast.length + 1) c] ∧ cast.length + 1 ≤ c ∧ CS w0 (w.setCell ⟨gc, 0, none⟩ (.slice (some ⟨g, 0, none⟩) cast.length c)) gc gp gk gl gf gr go gF vp vk vl vf vr cast fr fd := by
 obtain ⟨h, vc, h1, h2, h3⟩ := h
 have hl : (cast ++ [k]).length = cast.length + 1 := by simp
 rw [hl] at h2
 obtain ⟨g, c, rfl⟩ := own_form h2 (by omega)
 obtain ⟨A', c', e, hle, _⟩ := (RdS.of_own h2).form
 injection e with _ _ e3
 subst e3
 refine ⟨g, c, h1, hle, h.put h1 ?_ h3⟩
 have := own_prefix h2 (m := cast.length) (by omega) (by omega)
 rw [List.flatMap_append, show cast.length * 1 = (cast.flatMap cInt).length from (row_len0 cast).symm, List.take_left'] at this
 ·exact this
 ·rfl
theorem CS.found {v : Value} (h : CS w0 w gc gp gk gl gf gr go gF vp vk vl vf vr cast fr fd) : CS w0 ((w.setCell ⟨go, 0, none⟩ v).setCell ⟨gF, 0, none⟩ (.bool true)) gc gp gk gl gf gr go gF vp vk vl vf vr cast fr true := by
 obtain ⟨h, vc, h1, h2, h3⟩ := h
 obtain ⟨vo, h4⟩ := h.bo
 have hch : Chg [go, gF] w ((w.setCell ⟨go, 0, none⟩ v).setCell ⟨gF, 0, none⟩ (.bool true)) := chg_set (chg_set (Chg.refl _ _) (by simp)) (by simp)
 have hnd := h.nd
 simp only [BX, List.nodup_cons, List.mem_cons, List.not_mem_nil, or_false, not_or] at hnd
 obtain ⟨n1, n2, n3, n4, n5, n6, n7, _⟩ := hnd
 have hL : Loc ((w.setCell ⟨go, 0, none⟩ v).setCell ⟨gF, 0, none⟩ (.bool true)) go [v] := (h4.set (i := 0) (v := vo) (u := v) rfl).far n7
 have hL2 : Loc ((w.setCell ⟨go, 0, none⟩ v).setCell ⟨gF, 0, none⟩ (.bool true)) gF [.bool true] := (h.bF.far (g := go) (i := 0) (u := v) (fun e => n7 e.symm)).set (i := 0) (v := .bool fd) rfl
 have nm : ∀ b, b ≠ go → b ≠ gF → b ∉ [go, gF] := fun b h1 h2 hb => by
  rcases List.mem_cons.1 hb with e | e
  ·exact h1 e
  ·exact h2 (List.mem_singleton.1 e)
 have hsub : ∀ b ∈ [go, gF], b ∈ BX gc gp gk gl gf gr go gF := fun b hb => by
  rcases List.mem_cons.1 hb with e | e
  ·subst e; simp
  ·rw [List.mem_singleton.1 e]; simp
 exact ⟨⟨h.base, h.nd, Below.chg h.below hch h.below.size (fun b hb => h.base b (hsub b hb)), h.bp.chg hch (nm _ n2.2.2.2.2.1 n2.2.2.2.2.2), h.bk.chg hch (nm _ n3.2.2.2.1 n3.2.2.2.2), h.bl.chg hch (nm _ n4.2.2.1 n4.2.2.2), h.bf.chg hch (nm _ n5.2.1 n5.2.2), h.br.chg hch (nm _ n6.1 n6.2), ⟨v, hL⟩, hL2,
  own_chg h.free hch (fun b hb hb' => h.apf b hb (hsub b hb')), h.apf⟩, vc, h1.chg hch (nm _ n1.2.2.2.2.2.1 n1.2.2.2.2.2.2), own_chg h2 hch (fun b hb hb' => h3 b hb (List.mem_append_left _ (hsub b hb'))), h3⟩
end
open Go.RowKit
theorem quietL1 {P : Program} {f : FuncId} {args : Array Value} {w : World} {n : Nat} {v : Value}
  (h : Calls P f args (w.drewN n) fun e w' => e = .returned v ∧ w.drewN n = w') : Calls P f args (w.drewN n) fun e w'' => e = .returned v ∧ ∃ m, w'' = w.drewN m :=
 h.mono fun _ _ ⟨he, hm⟩ => ⟨he, n, hm.symm⟩
set_option maxHeartbeats 1000000 in
theorem castF_any {w0 w : World} {gc gp gk gl gf gr go gF : Nat} {vp vl vf : Value} {cast fr : List Int} {fd : Bool} (A : Option Addr) (n c : Nat) (h : CS w0 w gc gp gk gl gf gr go gF vp (.func (.func 172) #[] #[.pointer (some ⟨go, 0, none⟩), .pointer (some ⟨gF, 0, none⟩)]) vl vf (.func (.func 177) #[] #[.pointer (some ⟨gc, 0, none⟩), .pointer (some ⟨gp, 0, none⟩), .pointer (some ⟨gk, 0, none⟩), .pointer (some ⟨gl, 0, none⟩), .pointer (some ⟨gf, 0, none⟩), .pointer (some ⟨gr, 0, none⟩)]) cast fr fd) :
  Calls Tryz.prog 172 #[.slice A n c, .pointer (some ⟨go, 0, none⟩), .pointer (some ⟨gF, 0, none⟩)] w fun e w' => e = .returned (.bool false) ∧ CS w0 w' gc gp gk gl gf gr go gF vp (.func (.func 172) #[] #[.pointer (some ⟨go, 0, none⟩), .pointer (some ⟨gF, 0, none⟩)]) vl vf (.func (.func 177) #[] #[.pointer (some ⟨gc, 0, none⟩), .pointer (some ⟨gp, 0, none⟩), .pointer (some ⟨gk, 0, none⟩), .pointer (some ⟨gl, 0, none⟩), .pointer (some ⟨gf, 0, none⟩), .pointer (some ⟨gr, 0, none⟩)]) cast fr true := by
 have H := Lib.hid (h.found (v := .slice A n c))
 obtain ⟨vo, h4⟩ := h.rest.bo
 have b0 := (h4 0 _ rfl).1
 have f0 := (h4 0 _ rfl).2
 have hnd := h.rest.nd
 simp only [BX, List.nodup_cons, List.mem_cons, List.not_mem_nil, or_false, not_or] at hnd
 have hne : ¬ go = gF := hnd.2.2.2.2.2.2.1
 have hne' : ¬ gF = go := fun e => hne e.symm
 have b1 := (h.rest.bF 0 _ rfl).1
 have f1 := (h.rest.bF 0 _ rfl).2
 clear h h4 hnd
 go_enter Tryz.func172, Tryz.ntmps172
 go_wp2_with fail
 go_ret
 exact ⟨rfl, H.out⟩
theorem act68cr {a : Act} (h : a.tmps.size = 68) (hd : a.defers = []) : ∃ x0 x1 x2 x3 x4 x5 x6 x7 x8 x9 x10 x11 x12 x13 x14 x15 x16 x17 x18 x19 x20 x21 x22 x23 x24 x25 x26 x27 x28 x29 x30 x31 x32 x33 x34 x35 x36 x37 x38 x39 x40 x41 x42 x43 x44 x45 x46 x47 x48 x49 x50 x51 x52 x53 x54 x55 x56 x57 x58 x59 x60 x61 x62 x63 x64 x65 x66 x67 : Value, a = ⟨#[x0, x1, x2, x3, x4, x5, x6, x7, x8, x9, x10, x11, x12, x13, x14, x15, x16, x17, x18, x19, x20, x21, x22, x23, x24, x25, x26, x27, x28, x29, x30, x31, x32, x33, x34, x35, x36, x37, x38, x39, x40, x41, x42, x43, x44, x45, x46, x47, x48, x49, x50, x51, x52, x53, x54, x55, x56, x57, x58, x59, x60, x61, x62, x63, x64, x65, x66, x67], []⟩ := by
 obtain ⟨⟨l⟩, d⟩ := a
 subst hd
 match l, h with
 | x0 :: x1 :: x2 :: x3 :: x4 :: x5 :: x6 :: x7 :: x8 :: x9 :: x10 :: x11 :: x12 :: x13 :: x14 :: x15 :: x16 :: x17 :: x18 :: x19 :: x20 :: x21 :: x22 :: x23 :: x24 :: x25 :: x26 :: x27 :: x28 :: x29 :: x30 :: x31 :: x32 :: x33 :: x34 :: x35 :: x36 :: x37 :: x38 :: x39 :: x40 :: x41 :: x42 :: x43 :: x44 :: x45 :: x46 :: x47 :: x48 :: x49 :: x50 :: x51 :: x52 :: x53 :: x54 :: x55 :: x56 :: x57 :: x58 :: x59 :: x60 :: x61 :: x62 :: x63 :: x64 :: x65 :: x66 :: x67 :: [], _ => exact ⟨x0, x1, x2, x3, x4, x5, x6, x7, x8, x9, x10, x11, x12, x13, x14, x15, x16, x17, x18, x19, x20, x21, x22, x23, x24, x25, x26, x27, x28, x29, x30, x31, x32, x33, x34, x35, x36, x37, x38, x39, x40, x41, x42, x43, x44, x45, x46, x47, x48, x49, x50, x51, x52, x53, x54, x55, x56, x57, x58, x59, x60, x61, x62, x63, x64, x65, x66, x67, rfl⟩
def pcr (vk : Value) (vc : Value) (B n : Nat) (xs : List Value) (i : Nat) (v : Value) (_ : Nat → Nat) (w : World) : Prop :=
 match i with
 | 0 => v = vk
 | 1 => v = vc
 | 2 => ∃ A c, v = .slice A n c ∧ w.ownsRow B 3 1 (.slice A n c) n xs
 | _ => True
set_option maxHeartbeats 8000000 in
set_option maxRecDepth 100000 in
theorem castR_any (w0 : World) (vp vl vf : Value) (ps0 : List Int) (pl : List RPl) (hp : RdL cInt 1 w0 vp ps0) (hl : RdPls w0 vl pl) (hp7 : ps0.length ≤ 7) (hl6 : pl.length ≤ 6) (gc gp gk gl gf gr go gF : Nat) : ∀ (ps cast fr ld : List Int) (w : World), Hid (ps0.drop cast.length = ps ∧ cast.length ≤ ps0.length) → Hands pl ld fr → CS w0 w gc gp gk gl gf gr go gF vp (.func (.func 172) #[] #[.pointer (some ⟨go, 0, none⟩), .pointer (some ⟨gF, 0, none⟩)]) vl vf (.func (.func 177) #[] #[.pointer (some ⟨gc, 0, none⟩), .pointer (some ⟨gp, 0, none⟩), .pointer (some ⟨gk, 0, none⟩), .pointer (some ⟨gl, 0, none⟩), .pointer (some ⟨gf, 0, none⟩), .pointer (some ⟨gr, 0, none⟩)]) cast fr false →
  Calls Tryz.prog 177 #[.pointer (some ⟨gc, 0, none⟩), .pointer (some ⟨gp, 0, none⟩), .pointer (some ⟨gk, 0, none⟩), .pointer (some ⟨gl, 0, none⟩), .pointer (some ⟨gf, 0, none⟩), .pointer (some ⟨gr, 0, none⟩)] w fun e w' => e = .returned (.bool (!canS pl ps ld)) ∧ CS w0 w' gc gp gk gl gf gr go gF vp (.func (.func 172) #[] #[.pointer (some ⟨go, 0, none⟩), .pointer (some ⟨gF, 0, none⟩)]) vl vf (.func (.func 177) #[] #[.pointer (some ⟨gc, 0, none⟩), .pointer (some ⟨gp, 0, none⟩), .pointer (some ⟨gk, 0, none⟩), .pointer (some ⟨gl, 0, none⟩), .pointer (some ⟨gf, 0, none⟩), .pointer (some ⟨gr, 0, none⟩)]) cast fr (canS pl ps ld) := by
 intro ps
 obtain ⟨i0, hi0, hz0, hz1, hz2⟩ := info_parts infoInt
 induction ps with
 | nil =>
  intro cast fr ld w hps hhd hC
  have hlen : cast.length = ps0.length := by
   have h1 := congrArg List.length hps.out.1
   have h2 := hps.out.2
   simp at h1
   omega
  have hbe : ((cast.length : Int) == (ps0.length : Int)) = true := by rw [beq_iff_eq]; omega
  have hc7 : cast.length ≤ 7 := by omega
  clear hlen hps
  show Calls Tryz.prog 177 _ w fun e w' => e = .returned (.bool false) ∧ CS w0 w' gc gp gk gl gf gr go gF vp (.func (.func 172) #[] #[.pointer (some ⟨go, 0, none⟩), .pointer (some ⟨gF, 0, none⟩)]) vl vf (.func (.func 177) #[] #[.pointer (some ⟨gc, 0, none⟩), .pointer (some ⟨gp, 0, none⟩), .pointer (some ⟨gk, 0, none⟩), .pointer (some ⟨gl, 0, none⟩), .pointer (some ⟨gf, 0, none⟩), .pointer (some ⟨gr, 0, none⟩)]) cast fr true
  obtain ⟨vc, Lc, Oc, _⟩ := hC.cst
  have hpw := hp.below hC.rest.below
  have Ocr : RdL cInt 1 w vc cast := RdS.of_own Oc
  obtain ⟨Ac, cc, rfl, _, _⟩ := Ocr.form
  obtain ⟨Ap, cp, rfl, _, _⟩ := hpw.form
  have c0 := (Lc 0 _ rfl).1
  have p0 := (hC.rest.bp 0 _ rfl).1
  have k0 := (hC.rest.bk 0 _ rfl).1
  go_enter Tryz.func177, Tryz.ntmps177
  go_upto_region 2 with (fail)
  refine region_made (n := 68) 3 (by kernel_rfl) rfl (by kernel_rfl) (fun w' => Below w.heap.size w w') (fun _ => 0) (pcr (.func (.func 172) #[] #[.pointer (some ⟨go, 0, none⟩), .pointer (some ⟨gF, 0, none⟩)]) (.slice Ac cast.length cc) w.heap.size cast.length (cast.flatMap cInt)) (Below.refl _ _).drew ?_ ?_ ?_
  ·intro i v gh gh' w1 w2 hp hJ hb' hg
   match i, hp with
   | 0, hp => exact hp
   | 1, hp => exact hp
   | 2, ⟨A', c', hv, ho⟩ => exact ⟨A', c', hv, own_below ho hb'⟩
   | _ + 3, _ => trivial
  ·refine ⟨?_, ?_, ?_, trivial⟩
   all_goals
    intro a gh w5 hag hJ hd
    have ag0 : a.tmps.getD 0 undef = .pointer (some ⟨gc, 0, none⟩) := hag.kept 0 (by kernel_rfl)
    have ag2 : a.tmps.getD 2 undef = .pointer (some ⟨gk, 0, none⟩) := hag.kept 2 (by kernel_rfl)
    clear hag
   ·have k1 := carry hJ k0
    go_wp2_with fail
    exact ⟨rfl, _, rfl, rfl, hJ, Below.refl _ _⟩
   ·have c1 := carry hJ c0
    go_wp2_with fail
    exact ⟨rfl, _, rfl, rfl, hJ, Below.refl _ _⟩
   ·have e1 : a.tmps.getD 16 undef = .slice Ac cast.length cc := hd 1 (by kernel_rfl) _ rfl
    go_wp2_with fail
    refine (copyOf_any _ cast w5 (Ocr.below hJ) (by omega)).mono ?_
    rintro e w6 ⟨v5, rfl, own5, hb5⟩
    obtain ⟨A5, c5, rfl, _, _⟩ := (RdS.of_own own5).form
    go_wp2_with fail
    exact ⟨rfl, _, rfl, ⟨A5, c5, rfl, own_mono own5 hJ.size⟩, bl_trans hJ hb5, hb5⟩
  ·intro a gh w5 hag hJ hd
   obtain ⟨x0, x1, x2, x3, x4, x5, x6, x7, x8, x9, x10, x11, x12, x13, x14, x15, x16, x17, x18, x19, x20, x21, x22, x23, x24, x25, x26, x27, x28, x29, x30, x31, x32, x33, x34, x35, x36, x37, x38, x39, x40, x41, x42, x43, x44, x45, x46, x47, x48, x49, x50, x51, x52, x53, x54, x55, x56, x57, x58, x59, x60, x61, x62, x63, x64, x65, x66, x67, rfl⟩ := act68cr hag.size hag.defers
   have ag0 : x0 = .pointer (some ⟨gc, 0, none⟩) := hag.kept 0 (by kernel_rfl)
   have ag1 : x1 = .pointer (some ⟨gp, 0, none⟩) := hag.kept 1 (by kernel_rfl)
   have ag2 : x2 = .pointer (some ⟨gk, 0, none⟩) := hag.kept 2 (by kernel_rfl)
   have ag3 : x3 = .pointer (some ⟨gl, 0, none⟩) := hag.kept 3 (by kernel_rfl)
   have ag4 : x4 = .pointer (some ⟨gf, 0, none⟩) := hag.kept 4 (by kernel_rfl)
   have ag5 : x5 = .pointer (some ⟨gr, 0, none⟩) := hag.kept 5 (by kernel_rfl)
   have ag7 : x7 = undef := hag.kept 7 (by kernel_rfl)
   have ag8 : x8 = undef := hag.kept 8 (by kernel_rfl)
   have ag9 : x9 = undef := hag.kept 9 (by kernel_rfl)
   clear hag
   subst ag0 ag1 ag2 ag3 ag4 ag5 ag7 ag8 ag9
   have e1 : x15 = .func (.func 172) #[] #[.pointer (some ⟨go, 0, none⟩), .pointer (some ⟨gF, 0, none⟩)] := hd 0 (by kernel_rfl) _ rfl
   obtain ⟨A5, c5, e2, own5⟩ : ∃ A c, x17 = .slice A cast.length c ∧ w5.ownsRow w.heap.size 3 1 (.slice A cast.length c) cast.length (cast.flatMap cInt) := hd 2 (by kernel_rfl) _ rfl
   subst e1 e2
   change wpList _ _ _ [_, _] _ _
   have hC5 := hC.keep hJ
   clear hC hJ hd c0 p0 k0
   go_wp2_with fail
   refine (castF_any _ _ _ hC5).mono ?_
   rintro e w6 ⟨rfl, hC6⟩
   go_wp2_with fail
   go_ret
   exact ⟨rfl, hC6⟩
 | cons x ps ih =>
  intro cast fr ld w hps hhd hC
  have hcp : cast.length < ps0.length := by
   have h1 := congrArg List.length hps.out.1
   simp at h1
   omega
  have hdr := hps.out.1
  rw [List.drop_eq_getElem_cons hcp] at hdr
  injection hdr with hdr1 hdr2
  have hpx : ∀ h : cast.length < ps0.length, ps0[cast.length] = x := fun _ => hdr1
  have Hps2 := Lib.hid hdr2
  clear hdr1 hdr2
  have hHD := Lib.hid hhd
  obtain ⟨vc, Lc, Oc, _⟩ := hC.cst
  have hpw := hp.below hC.rest.below
  obtain ⟨Ac, cc, rfl, _, _⟩ := (RdS.of_own Oc).form
  obtain ⟨Ap, cp, rfl, _, _⟩ := hpw.form
  obtain ⟨Al, cl, rfl, _, _⟩ := hl.form
  have c0 := (Lc 0 _ rfl).1
  have p0 := (hC.rest.bp 0 _ rfl).1
  have l0 := (hC.rest.bl 0 _ rfl).1
  have hne : ((cast.length : Int) == (ps0.length : Int)) = false := by rw [beq_eq_false_iff_ne]; omega
  have Hpx := Lib.hid hpx
  have HI := Lib.hid ih
  clear ih Lc Oc hpw hps hpx
  go_enter Tryz.func177, Tryz.ntmps177
  go_wp2_with fail
  go_loopw [7, 8, 9, 21] (fun _ _ _ i wr => ∃ k : Nat, k ≤ pl.length ∧ i = .int .i64 k ∧ Hid (TriedF pl x ps ld k) ∧ CS w0 wr gc gp gk gl gf gr go gF (.slice Ap ps0.length cp) (.func (.func 172) #[] #[.pointer (some ⟨go, 0, none⟩), .pointer (some ⟨gF, 0, none⟩)]) (.slice Al pl.length cl) vf (.func (.func 177) #[] #[.pointer (some ⟨gc, 0, none⟩), .pointer (some ⟨gp, 0, none⟩), .pointer (some ⟨gk, 0, none⟩), .pointer (some ⟨gl, 0, none⟩), .pointer (some ⟨gf, 0, none⟩), .pointer (some ⟨gr, 0, none⟩)]) cast fr false) (fun _ _ _ i _ => pl.length - (intOf i).toNat)
  case atStart => exact ⟨0, Nat.zero_le _, rfl, TriedF.zero _ _ _ _, hC⟩
  case round =>
   obtain ⟨k, hk, rfl, htr, hCr⟩ := hrel
   clear hC c0 p0 l0
   by_cases hlt : k < pl.length
   ·have hlr := hl.below hCr.rest.below
    obtain ⟨g, off, u, rfl, hg, k0, k1, hru⟩ := hlr.cell hlt
    have hkf : k < fr.length := by have := hHD.out.l2; omega
    have HCN := Lib.hid (hHD.out.can hlt hkf x)
    have HKN := Lib.hid (knows_ix pl[k] x)
    obtain ⟨Au, cu, rfl, _, _⟩ := hru.form
    generalize hqk : pl[k] = q at *
    obtain ⟨r, f⟩ := q
    simp only at k0 k1 hru HKN
    go_upto_region 6 with (fail)
    have hal : Below wr.heap.size wr (wr.alloc (.cells #[.slice Au r.length cu, .int .i64 f] 105)) := (Below.refl _ _).alloc (Nat.le_refl _) _
    have Lq : Loc (wr.alloc (.cells #[.slice Au r.length cu, .int .i64 f] 105)) wr.heap.size [.slice Au r.length cu, .int .i64 f] := Loc.new wr #[.slice Au r.length cu, .int .i64 f] 105
    obtain ⟨gq, hgq⟩ : ∃ g, wr.heap.size = g := ⟨_, rfl⟩
    rw [hgq] at Lq
    have hC1 := hCr.keep hal
    have hru1 := hru.below hal
    clear k0 k1 hlr hCr hru
    generalize (wr.alloc (.cells #[.slice Au r.length cu, .int .i64 f] 105)) = W1 at *
    rw [hgq]
    clear hal hgq hg
    obtain ⟨vc1, Lc1, Oc1, _⟩ := hC1.cst
    obtain ⟨Ac1, cc1, rfl, _, _⟩ := (RdS.of_own Oc1).form
    obtain ⟨gv, cv, hvf, v0, vf0, HST⟩ := hC1.free_at hkf
    subst hvf
    have hpw := hp.below hC1.rest.below
    obtain ⟨gx, ox, rfl, hgx, hcx⟩ := hpw.cell (k := cast.length) cInt_len (by omega) hcp
    have x0 := hcx 0 _ rfl
    simp only [Nat.add_zero, Nat.mul_one] at x0
    rw [Hpx.out hcp] at x0
    clear hcx
    have b0 := (Lc1 0 _ rfl).1
    have b1 := (hC1.rest.bp 0 _ rfl).1
    have b2 := (hC1.rest.bl 0 _ rfl).1
    have b3 := (hC1.rest.bf 0 _ rfl).1
    have b5 := (Lq 0 _ rfl).1
    have b6 := (Lq 1 _ rfl).1
    have hix := idxF_le (l := r) (n := x)
    have HX : Hid (∀ n : Nat, Calls Tryz.prog 134 #[.slice Au r.length cu, .int .i64 x] (W1.drewN n) fun e w'' => e = .returned (.int .i64 (idxF r x)) ∧ ∃ m, w'' = W1.drewN m) := fun n => quietL1 (indexOf_any _ r x (W1.drewN n) hru1)
    obtain ⟨fk, hfk⟩ : ∃ fk, fr[k] = fk := ⟨_, rfl⟩
    have HAT := Lib.hid (fun h1 => hHD.out.at_ k hlt h1 hkf)
    rw [hfk] at v0 HCN HAT
    have HFK := Lib.hid hfk
    have hfb : 0 ≤ fk ∧ fk ≤ 2 := by have := HAT.out (by have := hHD.out.l1; omega); omega
    clear hfk Lq hru1 HST hqk
    generalize idxF r x = ix at *
    have hcl : ((cast.length : Nat) : Int) < ((ps0.length : Nat) : Int) := by omega
    by_cases hz : fk = 0
    ·have hzf : (fk == 0) = true := by rw [beq_iff_eq]; exact hz
     have HN := Lib.hid (htr.out.no (show canAt pl x ld k = false by rw [HCN.out, hz]; rfl))
     clear hz
     go_wp2_with fail
     go_quiet (fail)
     rename_i nq
     have hC2 := hC1.drewN nq
     clear b0 b1 b2 b3 b5 b6 v0 vf0 x0
     generalize W1.drewN nq = W2 at *
     go_wp2_with fail
     go_roundw
     case rel => exact ⟨k + 1, by omega, by go_num, HN.out, hC2⟩
     case measure => simp [intOf]; omega
    ·have hzf : (fk == 0) = false := by rw [beq_eq_false_iff_ne]; exact hz
     have Hz := Lib.hid hz
     clear hz
     by_cases hi : ix < 0
     ·have hi1 : decide (ix < 0) = true := decide_eq_true hi
      have HN := Lib.hid (htr.out.no (show canAt pl x ld k = false by rw [HCN.out, Bool.eq_false_iff.2 (fun e => absurd (HKN.out.1 e) (by omega)), Bool.and_false]))
      go_wp2_with fail
      go_quiet ((go_at_call 134; exact HX.out _))
      rename_i nq
      have hC2 := hC1.drewN nq
      clear b0 b1 b2 b3 b5 b6 v0 vf0 x0
      generalize W1.drewN nq = W2 at *
      go_wp2_with fail
      go_roundw
      case rel => exact ⟨k + 1, by omega, by go_num, HN.out, hC2⟩
      case measure => simp [intOf]; omega
     ·have hi1 : decide (ix < 0) = false := decide_eq_false hi
      have HCT := Lib.hid (show canAt pl x ld k = true by rw [HCN.out, HKN.out.2 (by omega), decide_eq_true Hz.out]; rfl)
      have HLS : Hid (Hands pl (bump ld k) (fr.set k (fk - 1))) := by have := hHD.out.less hkf (by rw [HFK.out]; exact Hz.out); rw [HFK.out] at this; exact this
      clear hix
      go_wp2_with fail
      go_quiet ((go_at_call 134; exact HX.out _))
      rename_i nq
      have hC2 := hC1.drewN nq
      clear b0 b1 b2 b3 b5 b6 v0 vf0 x0 HX Lc1 Oc1 hpw hC1
      generalize W1.drewN nq = W2 at *
      -- a hand is taken
      obtain ⟨gv', cv', e, v0, vf0, HST⟩ := hC2.free_at hkf
      injection e with e1 e2 e3
      injection e1 with e1
      injection e1 with e1
      subst e1 e3
      clear e2
      rw [HFK.out] at v0
      have b3 := (hC2.rest.bf 0 _ rfl).1
      have hw1 : IntKind.i64.wrap (fk - 1) = fk - 1 := IntWalk.i64_in _ (by omega)
      go_upto_region 8 with (fail)
      have hC3 := HST (fk - 1)
      clear HST v0 vf0 b3 hC2 hw1
      generalize W2.setCell ⟨gv, k, none⟩ (.int .i64 (fk - 1)) = W3 at *
      -- the cast grows
      obtain ⟨vc3, Lc3, Oc3, Ap3⟩ := hC3.cst
      obtain ⟨Ac3, cc3, rfl, _, _⟩ := (RdS.of_own Oc3).form
      have b0 := (Lc3 0 _ rfl).1
      have hal : Below W3.heap.size W3 (W3.alloc (.cells #[.int .i64 k] 3)) := (Below.refl _ _).alloc (Nat.le_refl _) _
      have hC4 := hC3.keep hal
      have hZ4 := hC4.rest.below.size
      have Lc4 := Lc3.below hal
      have Oc4 := own_below Oc3 hal
      go_wp2_with (at_builtin; refine wpList_appendB _ rfl (.tmp 48) (.tmp 50) _ rfl w0.heap.size 3 i0 _ 1 8 Tryz.underlying26 hi0 hz0 hz1 hz2 rfl (by omega) _ cast.length (cast.flatMap cInt) rfl Oc4 _ 1 [.int .i64 k] rfl (rdS_new W3 #[.int .i64 k] _ 1 1 rfl (by simp [maxLen])) (by simp [Value.oneCell']) (by simp [maxLen]; omega) (by omega) hZ4 ?_; intro v5 w5 own5 gr5 at5; obtain ⟨HG5, Lc5⟩ := hC4.rest.grown Lc4 Oc4 Ap3 gr5 at5; have b5 := (Lc5 0 _ rfl).1; have f5 := (Lc5 0 _ rfl).2; obtain ⟨A5, c5, rfl, _, _⟩ := (RdS.of_own own5).form; have hC5 := HG5 (cast ++ [(k : Int)]) (by rw [List.length_append, List.flatMap_append]; exact own5); have b4 := (hC5.rest.br 0 _ rfl).1)
      clear HG5 gr5 at5 Lc5 Oc4 Lc4 hC4 hC3 hal b0 Lc3 Oc3 Ap3 own5
      clear b5 f5
      generalize w5.setCell ⟨gc, 0, none⟩ (.slice A5 (cast.length + 1) c5) = W6 at *
      have hI := HI.out (cast ++ [(k : Int)]) (fr.set k (fk - 1)) (bump ld k) W6 (show Hid (_ ∧ _) from ⟨by rw [List.length_append]; exact Hps2.out, by simp; omega⟩) HLS.out hC5
      obtain ⟨cb, hcb⟩ : ∃ cb, canS pl ps (bump ld k) = cb := ⟨_, rfl⟩
      rw [hcb] at hI
      have HCB := Lib.hid hcb
      clear hcb hC5
      refine hI.mono ?_
      rintro e W7 ⟨rfl, hC7⟩
      clear hI b4
      -- the cast's last is taken away
      obtain ⟨g7, c7, L7, hle7, hC8⟩ := hC7.pop
      have b7 := (L7 0 _ rfl).1
      have f7 := (L7 0 _ rfl).2
      obtain ⟨n7, hn7⟩ : ∃ n, cast.length + 1 = n := ⟨_, rfl⟩
      rw [hn7] at b7 hle7
      have hw1 : IntKind.i64.wrap ((n7 : Int) - 1) = (n7 : Int) - 1 := IntWalk.i64_in _ (by omega)
      have hw2 : (0 : Int) ≤ (n7 : Int) - 1 := by omega
      have hw3 : ((n7 : Int) - 1).toNat = cast.length := by omega
      have hw4 : ¬ (n7 : Int) - 1 < 0 := by omega
      have hw5 : (n7 : Int) - 1 ≤ (c7 : Int) := by omega
      have hw6 : (1 : Int) ≤ (n7 : Int) := by omega
      go_upto_region 11 with (fail)
      clear hw1 hw2 hw3 hw4 hw5 hw6 b7 f7 L7 hC7
      generalize W7.setCell ⟨gc, 0, none⟩ (.slice (some ⟨g7, 0, none⟩) cast.length c7) = W8 at *
      clear hn7 hle7
      -- the hand is free again
      obtain ⟨gv2, cv2, e, v0, vf0, HST⟩ := hC8.free_at (k := k) (by simp; omega)
      injection e with e1 e2 e3
      injection e1 with e1
      injection e1 with e1
      subst e1 e3
      clear e2
      rw [List.getElem_set_self] at v0
      have b3 := (hC8.rest.bf 0 _ rfl).1
      have hC9 := HST fk
      have hsb := set_back hkf (fk - 1)
      rw [HFK.out] at hsb
      rw [hsb] at hC9
      obtain ⟨f1, hf1⟩ : ∃ f1, fk - 1 = f1 := ⟨_, rfl⟩
      have hw1 : IntKind.i64.wrap (f1 + 1) = fk := by rw [IntWalk.i64_in _ (by omega)]; omega
      rw [hf1] at v0
      clear HST hC8 hsb hf1
      go_upto_region 12 with (fail)
      clear v0 vf0 b3 hw1
      generalize W8.setCell ⟨gv, k, none⟩ (.int .i64 fk) = W9 at *
      cases cb
      ·have HN := Lib.hid (htr.out.sub HCB.out)
       go_wp2_with fail
       go_roundw
       case rel => exact ⟨k + 1, by omega, by go_num, HN.out, hC9⟩
       case measure => simp [intOf]; omega
      ·have HY := Lib.hid (canS_t hlt HCT.out HCB.out)
       go_wp2_with fail
       go_ret
       exact ⟨by rw [HY.out]; rfl, by rw [HY.out]; exact hC9⟩
   ·obtain rfl : k = pl.length := by omega
    have HE := Lib.hid htr.out.end_
    have l0 := (hCr.rest.bl 0 _ rfl).1
    go_wp2_with fail
    go_ret
    exact ⟨by rw [HE.out]; rfl, by rw [HE.out]; exact hCr⟩
open Go.RowKit
structure CP (w0 w : World) (gx : Nat) (bxs : List (Nat × Value)) (vc vf : Value) (fr : List Int) : Prop where
 base : ∀ b ∈ gx :: bxs.map (·.1), w0.heap.size ≤ b
 nd : (gx :: bxs.map (·.1)).Nodup
 below : Below w0.heap.size w0 w
 at_ : ∀ p ∈ bxs, Loc w p.1 [p.2]
 box : Loc w gx [vf]
 own : w.ownsRow w0.heap.size 3 1 vf fr.length (fr.flatMap cInt)
 ap : ∀ b ∈ vf.ownBlock.toList, b ∉ gx :: bxs.map (·.1)
 emp : w.ownsRow w0.heap.size 3 1 vc 0 []
 ap2 : ∀ b ∈ vc.ownBlock.toList, b ∉ gx :: bxs.map (·.1) ∧ b ∉ vf.ownBlock.toList
section
variable {w0 w w' : World} {gx : Nat} {bxs : List (Nat × Value)} {vc vf : Value} {fr : List Int}
theorem CP.keep (h : CP w0 w gx bxs vc vf fr) (hb : Below w.heap.size w w') : CP w0 w' gx bxs vc vf fr :=
 ⟨h.base, h.nd, h.below.trans (hb.mono h.below.size), fun p hp => (h.at_ p hp).below hb, h.box.below hb, own_below h.own hb, h.ap, own_below h.emp hb, h.ap2⟩
theorem CP.grow (h : CP w0 w gx bxs vc vf fr) (hg : w.grownBy w' vf.ownBlock) {v' : Value} (hat : v'.ownBlock = vf.ownBlock ∨ v'.ownBlock = some w.heap.size) :
  Loc w' gx [vf] ∧ ∀ f', w'.ownsRow w0.heap.size 3 1 v' f'.length (List.flatMap cInt f') → CP w0 (w'.setCell ⟨gx, 0, none⟩ v') gx bxs vc v' f' := by
 have hch := Chg.of_grown hg
 have hn : ∀ b ∈ gx :: bxs.map (·.1), b ∉ vf.ownBlock.toList := fun b hb hb' => h.ap b hb' hb
 have hlt : ∀ b ∈ gx :: bxs.map (·.1), b < w.heap.size := fun b hb => by
  rcases List.mem_cons.1 hb with rfl | hb
  ·exact loc_lt h.box
  ·obtain ⟨p, hp, rfl⟩ := List.mem_map.1 hb
   exact loc_lt (h.at_ p hp)
 have hap' : ∀ b ∈ v'.ownBlock.toList, b ∉ gx :: bxs.map (·.1) := fun b hb hb' => by
  rcases hat with e | e
  ·rw [e] at hb; exact h.ap b hb hb'
  ·rw [e] at hb
   have e2 : b = w.heap.size := by simpa using hb
   have := hlt b hb'
   omega
 have hL' := h.box.chg hch (hn _ (by simp))
 have hb : Below w0.heap.size w0 w' := Below.chg h.below hch h.below.size (fun b hb => (own_lt h.own b hb).1)
 refine ⟨hL', fun f' hf' => ?_⟩
 have hset : Chg [gx] w' (w'.setCell ⟨gx, 0, none⟩ v') := chg_set (Chg.refl _ _) (by simp)
 have h1 : ∀ p ∈ bxs, p.1 ∉ [gx] := fun p hp hb' => by
  have := h.nd
  rw [List.nodup_cons] at this
  have e := List.mem_singleton.1 hb'
  exact this.1 (e ▸ List.mem_map.2 ⟨p, hp, rfl⟩)
 refine ⟨h.base, h.nd, hb.setCell (h.base gx (by simp)) _, fun p hp => ((h.at_ p hp).chg hch (hn _ (List.mem_cons_of_mem _ (List.mem_map.2 ⟨p, hp, rfl⟩)))).chg hset (h1 p hp), hL'.set (i := 0) (v := vf) rfl, own_chg hf' hset (fun b hb hb' => hap' b hb (by rw [List.mem_singleton.1 hb']; simp)), hap',
  own_chg (own_chg h.emp hch (fun b hb => (h.ap2 b hb).2)) hset (fun b hb hb' => (h.ap2 b hb).1 (by rw [List.mem_singleton.1 hb']; simp)), fun b hb => ⟨(h.ap2 b hb).1, fun hb' => ?_⟩⟩
 rcases hat with e | e
 ·rw [e] at hb'; exact (h.ap2 b hb).2 hb'
 ·rw [e] at hb'
  have e2 : b = w.heap.size := by simpa using hb'
  have := (own_lt h.emp b hb).2
  omega
end
set_option maxHeartbeats 8000000 in
set_option maxRecDepth 100000 in
theorem castings_any (w0 w : World) (vp vl : Value) (ps0 : List Int) (pl : List RPl) (hp : RdL cInt 1 w0 vp ps0) (hl : RdPls w0 vl pl) (hp7 : ps0.length ≤ 7) (hl6 : pl.length ≤ 6) (hfr : ∀ r ∈ pl, 0 ≤ r.2 ∧ r.2 ≤ 2) (go gF : Nat) (hb : Below w0.heap.size w0 w) (hgo : w0.heap.size ≤ go) (hgF : w0.heap.size ≤ gF) (hne : go ≠ gF) (vo : Value) (Lo : Loc w go [vo]) (LF : Loc w gF [.bool false]) :
  Calls Tryz.prog 171 #[vl, vp, .func (.func 172) #[] #[.pointer (some ⟨go, 0, none⟩), .pointer (some ⟨gF, 0, none⟩)]] w fun e w' => e = .returned (.tuple #[]) ∧ (∃ vo, Loc w' go [vo]) ∧ Loc w' gF [.bool (canS pl ps0 (zeroL pl.length))] ∧ Below w0.heap.size w0 w' := by
 obtain ⟨i0, hi0, hz0, hz1, hz2⟩ := info_parts infoInt
 have hpw := hp.below hb
 have hlw := hl.below hb
 obtain ⟨Ap, cp, rfl, _, _⟩ := hpw.form
 obtain ⟨Al, cl, rfl, _, _⟩ := hlw.form
 have hgol := loc_lt Lo
 have hgFl := loc_lt LF
 have hz := hb.size
 have a0 : Below w.heap.size w (w.alloc (.cells #[.slice Al pl.length cl] 33)) := (Below.refl _ _).alloc (Nat.le_refl _) _
 have hbW : Below w.heap.size w (((((((w.alloc (.cells #[.slice Al pl.length cl] 33)).alloc (.cells #[.slice Ap ps0.length cp] 26)).alloc (.cells #[.func (.func 172) #[] #[.pointer (some ⟨go, 0, none⟩), .pointer (some ⟨gF, 0, none⟩)]] 103)).alloc (.cells #[] 3)).alloc (.cells #[] 3)).alloc (.cells #[.slice (some ⟨w.heap.size + 1 + 1 + 1, 0, none⟩) 0 0] 26)).alloc (.cells #[.slice (some ⟨w.heap.size + 1 + 1 + 1 + 1, 0, none⟩) 0 0] 26)) := by (repeat' (with_reducible first | exact Below.refl _ _ | assumption | refine qS ?_ _ | refine qA ?_ _ | refine qD ?_ | refine qN ?_ _))
 have L1 : Loc (((((((w.alloc (.cells #[.slice Al pl.length cl] 33)).alloc (.cells #[.slice Ap ps0.length cp] 26)).alloc (.cells #[.func (.func 172) #[] #[.pointer (some ⟨go, 0, none⟩), .pointer (some ⟨gF, 0, none⟩)]] 103)).alloc (.cells #[] 3)).alloc (.cells #[] 3)).alloc (.cells #[.slice (some ⟨w.heap.size + 1 + 1 + 1, 0, none⟩) 0 0] 26)).alloc (.cells #[.slice (some ⟨w.heap.size + 1 + 1 + 1 + 1, 0, none⟩) 0 0] 26)) w.heap.size [.slice Al pl.length cl] := (((((((Loc.new w #[.slice Al pl.length cl] 33).alloc _).alloc _).alloc _).alloc _).alloc _).alloc _)
 have L2 : Loc (((((((w.alloc (.cells #[.slice Al pl.length cl] 33)).alloc (.cells #[.slice Ap ps0.length cp] 26)).alloc (.cells #[.func (.func 172) #[] #[.pointer (some ⟨go, 0, none⟩), .pointer (some ⟨gF, 0, none⟩)]] 103)).alloc (.cells #[] 3)).alloc (.cells #[] 3)).alloc (.cells #[.slice (some ⟨w.heap.size + 1 + 1 + 1, 0, none⟩) 0 0] 26)).alloc (.cells #[.slice (some ⟨w.heap.size + 1 + 1 + 1 + 1, 0, none⟩) 0 0] 26)) (w.heap.size + 1) [.slice Ap ps0.length cp] := by have := ((((((Loc.new (w.alloc (.cells #[.slice Al pl.length cl] 33)) #[.slice Ap ps0.length cp] 26).alloc (.cells #[.func (.func 172) #[] #[.pointer (some ⟨go, 0, none⟩), .pointer (some ⟨gF, 0, none⟩)]] 103)).alloc (.cells #[] 3)).alloc (.cells #[] 3)).alloc (.cells #[.slice (some ⟨w.heap.size + 1 + 1 + 1, 0, none⟩) 0 0] 26)).alloc (.cells #[.slice (some ⟨w.heap.size + 1 + 1 + 1 + 1, 0, none⟩) 0 0] 26)); simpa using this
 have L3 : Loc (((((((w.alloc (.cells #[.slice Al pl.length cl] 33)).alloc (.cells #[.slice Ap ps0.length cp] 26)).alloc (.cells #[.func (.func 172) #[] #[.pointer (some ⟨go, 0, none⟩), .pointer (some ⟨gF, 0, none⟩)]] 103)).alloc (.cells #[] 3)).alloc (.cells #[] 3)).alloc (.cells #[.slice (some ⟨w.heap.size + 1 + 1 + 1, 0, none⟩) 0 0] 26)).alloc (.cells #[.slice (some ⟨w.heap.size + 1 + 1 + 1 + 1, 0, none⟩) 0 0] 26)) (w.heap.size + 1 + 1) [.func (.func 172) #[] #[.pointer (some ⟨go, 0, none⟩), .pointer (some ⟨gF, 0, none⟩)]] := by have := (((((Loc.new ((w.alloc (.cells #[.slice Al pl.length cl] 33)).alloc (.cells #[.slice Ap ps0.length cp] 26)) #[.func (.func 172) #[] #[.pointer (some ⟨go, 0, none⟩), .pointer (some ⟨gF, 0, none⟩)]] 103).alloc (.cells #[] 3)).alloc (.cells #[] 3)).alloc (.cells #[.slice (some ⟨w.heap.size + 1 + 1 + 1, 0, none⟩) 0 0] 26)).alloc (.cells #[.slice (some ⟨w.heap.size + 1 + 1 + 1 + 1, 0, none⟩) 0 0] 26)); simpa using this
 have L6 : Loc (((((((w.alloc (.cells #[.slice Al pl.length cl] 33)).alloc (.cells #[.slice Ap ps0.length cp] 26)).alloc (.cells #[.func (.func 172) #[] #[.pointer (some ⟨go, 0, none⟩), .pointer (some ⟨gF, 0, none⟩)]] 103)).alloc (.cells #[] 3)).alloc (.cells #[] 3)).alloc (.cells #[.slice (some ⟨w.heap.size + 1 + 1 + 1, 0, none⟩) 0 0] 26)).alloc (.cells #[.slice (some ⟨w.heap.size + 1 + 1 + 1 + 1, 0, none⟩) 0 0] 26)) (w.heap.size + 1 + 1 + 1 + 1 + 1) [.slice (some ⟨w.heap.size + 1 + 1 + 1, 0, none⟩) 0 0] := by have := ((Loc.new (((((w.alloc (.cells #[.slice Al pl.length cl] 33)).alloc (.cells #[.slice Ap ps0.length cp] 26)).alloc (.cells #[.func (.func 172) #[] #[.pointer (some ⟨go, 0, none⟩), .pointer (some ⟨gF, 0, none⟩)]] 103)).alloc (.cells #[] 3)).alloc (.cells #[] 3)) #[.slice (some ⟨w.heap.size + 1 + 1 + 1, 0, none⟩) 0 0] 26).alloc (.cells #[.slice (some ⟨w.heap.size + 1 + 1 + 1 + 1, 0, none⟩) 0 0] 26)); simpa using this
 have L7 : Loc (((((((w.alloc (.cells #[.slice Al pl.length cl] 33)).alloc (.cells #[.slice Ap ps0.length cp] 26)).alloc (.cells #[.func (.func 172) #[] #[.pointer (some ⟨go, 0, none⟩), .pointer (some ⟨gF, 0, none⟩)]] 103)).alloc (.cells #[] 3)).alloc (.cells #[] 3)).alloc (.cells #[.slice (some ⟨w.heap.size + 1 + 1 + 1, 0, none⟩) 0 0] 26)).alloc (.cells #[.slice (some ⟨w.heap.size + 1 + 1 + 1 + 1, 0, none⟩) 0 0] 26)) (w.heap.size + 1 + 1 + 1 + 1 + 1 + 1) [.slice (some ⟨w.heap.size + 1 + 1 + 1 + 1, 0, none⟩) 0 0] := by have := (Loc.new ((((((w.alloc (.cells #[.slice Al pl.length cl] 33)).alloc (.cells #[.slice Ap ps0.length cp] 26)).alloc (.cells #[.func (.func 172) #[] #[.pointer (some ⟨go, 0, none⟩), .pointer (some ⟨gF, 0, none⟩)]] 103)).alloc (.cells #[] 3)).alloc (.cells #[] 3)).alloc (.cells #[.slice (some ⟨w.heap.size + 1 + 1 + 1, 0, none⟩) 0 0] 26)) #[.slice (some ⟨w.heap.size + 1 + 1 + 1 + 1, 0, none⟩) 0 0] 26); simpa using this
 have O1 : (((((((w.alloc (.cells #[.slice Al pl.length cl] 33)).alloc (.cells #[.slice Ap ps0.length cp] 26)).alloc (.cells #[.func (.func 172) #[] #[.pointer (some ⟨go, 0, none⟩), .pointer (some ⟨gF, 0, none⟩)]] 103)).alloc (.cells #[] 3)).alloc (.cells #[] 3)).alloc (.cells #[.slice (some ⟨w.heap.size + 1 + 1 + 1, 0, none⟩) 0 0] 26)).alloc (.cells #[.slice (some ⟨w.heap.size + 1 + 1 + 1 + 1, 0, none⟩) 0 0] 26)).ownsRow w0.heap.size 3 1 (.slice (some ⟨w.heap.size + 1 + 1 + 1, 0, none⟩) 0 0) 0 [] := by
  have := (((World.ownsRow_made (size := 1) (e := 3) (((w.alloc (.cells #[.slice Al pl.length cl] 33)).alloc (.cells #[.slice Ap ps0.length cp] 26)).alloc (.cells #[.func (.func 172) #[] #[.pointer (some ⟨go, 0, none⟩), .pointer (some ⟨gF, 0, none⟩)]] 103)) #[] 0 (Nat.le_refl _) (by simp [maxLen]) rfl).alloc (.cells #[] 3)).alloc (.cells #[.slice (some ⟨w.heap.size + 1 + 1 + 1, 0, none⟩) 0 0] 26)).alloc (.cells #[.slice (some ⟨w.heap.size + 1 + 1 + 1 + 1, 0, none⟩) 0 0] 26)
  exact own_mono (by simpa using this) (by omega)
 have O2 : (((((((w.alloc (.cells #[.slice Al pl.length cl] 33)).alloc (.cells #[.slice Ap ps0.length cp] 26)).alloc (.cells #[.func (.func 172) #[] #[.pointer (some ⟨go, 0, none⟩), .pointer (some ⟨gF, 0, none⟩)]] 103)).alloc (.cells #[] 3)).alloc (.cells #[] 3)).alloc (.cells #[.slice (some ⟨w.heap.size + 1 + 1 + 1, 0, none⟩) 0 0] 26)).alloc (.cells #[.slice (some ⟨w.heap.size + 1 + 1 + 1 + 1, 0, none⟩) 0 0] 26)).ownsRow w0.heap.size 3 1 (.slice (some ⟨w.heap.size + 1 + 1 + 1 + 1, 0, none⟩) 0 0) 0 [] := by
  have := ((World.ownsRow_made (size := 1) (e := 3) ((((w.alloc (.cells #[.slice Al pl.length cl] 33)).alloc (.cells #[.slice Ap ps0.length cp] 26)).alloc (.cells #[.func (.func 172) #[] #[.pointer (some ⟨go, 0, none⟩), .pointer (some ⟨gF, 0, none⟩)]] 103)).alloc (.cells #[] 3)) #[] 0 (Nat.le_refl _) (by simp [maxLen]) rfl).alloc (.cells #[.slice (some ⟨w.heap.size + 1 + 1 + 1, 0, none⟩) 0 0] 26)).alloc (.cells #[.slice (some ⟨w.heap.size + 1 + 1 + 1 + 1, 0, none⟩) 0 0] 26)
  exact own_mono (by simpa using this) (by omega)
 have hC : CP w0 (((((((w.alloc (.cells #[.slice Al pl.length cl] 33)).alloc (.cells #[.slice Ap ps0.length cp] 26)).alloc (.cells #[.func (.func 172) #[] #[.pointer (some ⟨go, 0, none⟩), .pointer (some ⟨gF, 0, none⟩)]] 103)).alloc (.cells #[] 3)).alloc (.cells #[] 3)).alloc (.cells #[.slice (some ⟨w.heap.size + 1 + 1 + 1, 0, none⟩) 0 0] 26)).alloc (.cells #[.slice (some ⟨w.heap.size + 1 + 1 + 1 + 1, 0, none⟩) 0 0] 26)) (w.heap.size + 1 + 1 + 1 + 1 + 1) [(w.heap.size, .slice Al pl.length cl), (w.heap.size + 1, .slice Ap ps0.length cp), (w.heap.size + 1 + 1, .func (.func 172) #[] #[.pointer (some ⟨go, 0, none⟩), .pointer (some ⟨gF, 0, none⟩)]), (w.heap.size + 1 + 1 + 1 + 1 + 1 + 1, .slice (some ⟨w.heap.size + 1 + 1 + 1 + 1, 0, none⟩) 0 0), (go, vo), (gF, .bool false)] (.slice (some ⟨w.heap.size + 1 + 1 + 1 + 1, 0, none⟩) 0 0) (.slice (some ⟨w.heap.size + 1 + 1 + 1, 0, none⟩) 0 0) [] := by
  refine ⟨fun b hb => ?_, by simp; omega, hb.trans (hbW.mono hz), fun p hp => ?_, L6, O1, fun b hb => ?_, O2, fun b hb => ?_⟩
  ·simp at hb; omega
  ·simp only [List.mem_cons, List.not_mem_nil, or_false] at hp
   rcases hp with rfl | rfl | rfl | rfl | rfl | rfl
   ·exact L1
   ·exact L2
   ·exact L3
   ·exact L7
   ·exact Lo.below hbW
   ·exact LF.below hbW
  ·simp [Value.ownBlock] at hb; subst hb; simp; omega
  ·simp [Value.ownBlock] at hb; subst hb; simp [Value.ownBlock]; omega
 clear L1 L2 L3 L6 L7 O1 O2 hbW a0
 go_enter Tryz.func171, Tryz.ntmps171
 go_upto_region 2 with (fail)
 generalize ((((((w.alloc (.cells #[.slice Al pl.length cl] 33)).alloc (.cells #[.slice Ap ps0.length cp] 26)).alloc (.cells #[.func (.func 172) #[] #[.pointer (some ⟨go, 0, none⟩), .pointer (some ⟨gF, 0, none⟩)]] 103)).alloc (.cells #[] 3)).alloc (.cells #[] 3)).alloc (.cells #[.slice (some ⟨w.heap.size + 1 + 1 + 1, 0, none⟩) 0 0] 26)).alloc (.cells #[.slice (some ⟨w.heap.size + 1 + 1 + 1 + 1, 0, none⟩) 0 0] 26) = W at *
 generalize w.heap.size + 1 + 1 + 1 + 1 + 1 + 1 = gc at *
 generalize w.heap.size + 1 + 1 + 1 + 1 + 1 = gf at *
 generalize w.heap.size + 1 + 1 + 1 + 1 = x2 at *
 generalize w.heap.size + 1 + 1 + 1 = x1 at *
 generalize w.heap.size + 1 + 1 = gk at *
 generalize w.heap.size + 1 = gp at *
 generalize w.heap.size = gl at *
 have l0 := (hC.at_ (gl, .slice Al pl.length cl) (by simp) 0 _ rfl).1
 go_wp2_with fail
 go_loopw [9, 15] (fun _ i wr => ∃ (k : Nat) (vf : Value), k ≤ pl.length ∧ i = .int .i64 k ∧ CP w0 wr gf [(gl, .slice Al pl.length cl), (gp, .slice Ap ps0.length cp), (gk, .func (.func 172) #[] #[.pointer (some ⟨go, 0, none⟩), .pointer (some ⟨gF, 0, none⟩)]), (gc, .slice (some ⟨x2, 0, none⟩) 0 0), (go, vo), (gF, .bool false)] (.slice (some ⟨x2, 0, none⟩) 0 0) vf ((pl.map (·.2)).take k)) (fun _ i _ => pl.length - (intOf i).toNat)
 case atStart => exact ⟨0, _, Nat.zero_le _, rfl, hC⟩
 case round =>
  obtain ⟨k, vf, hk, rfl, hCr⟩ := hrel
  clear hC l0
  by_cases hlt : k < pl.length
  ·have hlr := hl.below hCr.below
   obtain ⟨g, off, u, rfl, hg, k0, k1, hru⟩ := hlr.cell hlt
   obtain ⟨Au, cu, rfl, _, _⟩ := hru.form
   have Hsn : Hid ((pl.map (·.2)).take (k + 1) = (pl.map (·.2)).take k ++ [pl[k].2]) := by
    show _ = _
    rw [List.take_add_one, List.getElem?_map, List.getElem?_eq_getElem hlt]; rfl
   have hfl : ((pl.map (·.2)).take k).length ≤ 6 := by simp; omega
   generalize (pl.map (·.2)).take k = fr at *
   generalize pl[k] = q at *
   obtain ⟨r, f⟩ := q
   simp only at k0 k1 hru Hsn
   obtain ⟨Af, cf, rfl, _, _⟩ := (RdS.of_own hCr.own).form
   have hal : Below wr.heap.size wr (wr.alloc (.cells #[.slice Au r.length cu, .int .i64 f] 105)) := (Below.refl _ _).alloc (Nat.le_refl _) _
   have Lq : Loc (wr.alloc (.cells #[.slice Au r.length cu, .int .i64 f] 105)) wr.heap.size [.slice Au r.length cu, .int .i64 f] := Loc.new wr #[.slice Au r.length cu, .int .i64 f] 105
   have hC1 := hCr.keep hal
   go_upto_region 5 with (fail)
   obtain ⟨gq, hgq⟩ : ∃ g, wr.heap.size = g := ⟨_, rfl⟩
   rw [hgq] at Lq
   clear k0 k1 hlr hru hCr
   generalize (wr.alloc (.cells #[.slice Au r.length cu, .int .i64 f] 105)) = W1 at *
   rw [hgq]
   clear hal hgq hg
   have b0 := (hC1.box 0 _ rfl).1
   have q1 := (Lq 1 _ rfl).1
   have hal : Below W1.heap.size W1 (W1.alloc (.cells #[.int .i64 f] 3)) := (Below.refl _ _).alloc (Nat.le_refl _) _
   have hC2 := hC1.keep hal
   have hZ2 := hC2.below.size
   go_wp2_with (at_builtin; refine wpList_appendB _ rfl (.tmp 19) (.tmp 22) _ rfl w0.heap.size 3 i0 _ 1 8 Tryz.underlying26 hi0 hz0 hz1 hz2 rfl (by omega) _ fr.length (fr.flatMap cInt) rfl hC2.own _ 1 [.int .i64 f] rfl (rdS_new W1 #[.int .i64 f] _ 1 1 rfl (by simp [maxLen])) (by simp [Value.oneCell']) (by simp [maxLen]; omega) (by omega) hZ2 ?_; intro v5 w5 own5 gr5 at5; obtain ⟨Lc5, HG5⟩ := hC2.grow gr5 at5; have b5 := (Lc5 0 _ rfl).1; have f5 := (Lc5 0 _ rfl).2; obtain ⟨A5, c5, rfl, _, _⟩ := (RdS.of_own own5).form; have HC5 := Lib.hid (HG5 (fr ++ [f]) (by rw [List.length_append, List.flatMap_append]; exact own5)))
   go_roundw
   case rel => exact ⟨k + 1, _, by omega, by go_num, by rw [Hsn.out]; exact HC5.out⟩
   case measure => simp [intOf]; omega
  ·obtain rfl : k = pl.length := by omega
   rw [List.take_of_length_le (by simp)] at hCr
   go_upto_region 8 with (fail)
   have hal : Below wr.heap.size wr (wr.alloc (.cells #[.nilFunc] 160)) := (Below.refl _ _).alloc (Nat.le_refl _) _
   have Lr : Loc (wr.alloc (.cells #[.nilFunc] 160)) wr.heap.size [.nilFunc] := Loc.new wr #[.nilFunc] 160
   have hC1 := hCr.keep hal
   have hzr := hCr.below.size
   have hlt1 : ∀ b ∈ gf :: [gl, gp, gk, gc, go, gF], b < wr.heap.size := fun b hb => by
    rcases List.mem_cons.1 hb with rfl | hb
    ·exact loc_lt hCr.box
    ·obtain ⟨p, hp, e⟩ := List.mem_map.1 (show b ∈ [(gl, .slice Al pl.length cl), (gp, .slice Ap ps0.length cp), (gk, .func (.func 172) #[] #[.pointer (some ⟨go, 0, none⟩), .pointer (some ⟨gF, 0, none⟩)]), (gc, .slice (some ⟨x2, 0, none⟩) 0 0), (go, vo), (gF, .bool false)].map (·.1) from hb)
     rw [← e]; exact loc_lt (hCr.at_ p hp)
   have hvl1 : ∀ b ∈ vf.ownBlock.toList, b < wr.heap.size := fun b hb => (own_lt hCr.own b hb).2
   have hx2 : x2 < wr.heap.size := (own_lt hCr.emp x2 (by simp [Value.ownBlock])).2
   obtain ⟨gr, hgr⟩ : ∃ g, wr.heap.size = g := ⟨_, rfl⟩
   rw [hgr] at Lr hlt1 hvl1 hx2 hzr
   clear hCr
   generalize (wr.alloc (.cells #[.nilFunc] 160)) = W1 at *
   rw [hgr]
   clear hal hgr
   have r0 := (Lr 0 _ rfl).1
   have r1 := (Lr 0 _ rfl).2
   have hsf := fun (a : Addr) (f : Fn) (x y : Array Value) (m : Mode) (w : World) => run_store Tryz.prog w a (.func f x y) m rfl
   have hchR : Chg [gr] W1 (W1.setCell ⟨gr, 0, none⟩ (.func (.func 177) #[] #[.pointer (some ⟨gc, 0, none⟩), .pointer (some ⟨gp, 0, none⟩), .pointer (some ⟨gk, 0, none⟩), .pointer (some ⟨gl, 0, none⟩), .pointer (some ⟨gf, 0, none⟩), .pointer (some ⟨gr, 0, none⟩)])) := chg_set (Chg.refl _ _) (by simp)
   have hno : ∀ b ∈ gf :: [gl, gp, gk, gc, go, gF], b ∉ [gr] := fun b hb hb' => by have := hlt1 b hb; rw [List.mem_singleton.1 hb'] at this; omega
   have hCS : CS w0 (W1.setCell ⟨gr, 0, none⟩ (.func (.func 177) #[] #[.pointer (some ⟨gc, 0, none⟩), .pointer (some ⟨gp, 0, none⟩), .pointer (some ⟨gk, 0, none⟩), .pointer (some ⟨gl, 0, none⟩), .pointer (some ⟨gf, 0, none⟩), .pointer (some ⟨gr, 0, none⟩)])) gc gp gk gl gf gr go gF (.slice Ap ps0.length cp) (.func (.func 172) #[] #[.pointer (some ⟨go, 0, none⟩), .pointer (some ⟨gF, 0, none⟩)]) (.slice Al pl.length cl) vf (.func (.func 177) #[] #[.pointer (some ⟨gc, 0, none⟩), .pointer (some ⟨gp, 0, none⟩), .pointer (some ⟨gk, 0, none⟩), .pointer (some ⟨gl, 0, none⟩), .pointer (some ⟨gf, 0, none⟩), .pointer (some ⟨gr, 0, none⟩)]) [] (pl.map (·.2)) false := by
    have hnd := hC1.nd
    have hlg : gl < gr ∧ gp < gr ∧ gk < gr ∧ gc < gr ∧ go < gr ∧ gF < gr ∧ gf < gr := ⟨hlt1 _ (by simp), hlt1 _ (by simp), hlt1 _ (by simp), hlt1 _ (by simp), hlt1 _ (by simp), hlt1 _ (by simp), hlt1 _ (by simp)⟩
    simp only [List.map_cons, List.map_nil, List.nodup_cons, List.mem_cons, List.not_mem_nil, or_false, not_or] at hnd
    refine ⟨⟨fun b hb => ?_, ?_, hC1.below.setCell hzr _, ((hC1.at_ (gp, _) (by simp)).chg hchR (hno _ (by simp))), ((hC1.at_ (gk, _) (by simp)).chg hchR (hno _ (by simp))), ((hC1.at_ (gl, _) (by simp)).chg hchR (hno _ (by simp))), hC1.box.chg hchR (hno _ (by simp)), Lr.set (i := 0) (v := .nilFunc) rfl, ⟨vo, (hC1.at_ (go, vo) (by simp)).chg hchR (hno _ (by simp))⟩, (hC1.at_ (gF, .bool false) (by simp)).chg hchR (hno _ (by simp)), own_chg hC1.own hchR (fun b hb hb' => by have := hvl1 b hb; rw [List.mem_singleton.1 hb'] at this; omega), fun b hb => ?_⟩, .slice (some ⟨x2, 0, none⟩) 0 0, (hC1.at_ (gc, .slice (some ⟨x2, 0, none⟩) 0 0) (by simp)).chg hchR (hno _ (by simp)), own_chg hC1.emp hchR (fun b hb hb' => by simp [Value.ownBlock] at hb; have := List.mem_singleton.1 hb'; omega), fun b hb => ?_⟩
    ·by_cases hbr : b = gr
     ·rw [hbr]; exact hzr
     ·exact hC1.base b (by simp at hb ⊢; omega)
    ·simp only [BX, List.nodup_cons, List.mem_cons, List.not_mem_nil, or_false, not_or, List.nodup_nil, and_true, not_false_eq_true]
     omega
    ·have h1 := hC1.ap b hb
     have h2 := hvl1 b hb
     simp at h1 ⊢
     omega
    ·have h1 := (hC1.ap2 b hb).1
     have h2 := (hC1.ap2 b hb).2
     have h3 : b < gr := by simp [Value.ownBlock] at hb; omega
     rw [List.mem_append]
     rintro (h4 | h4)
     ·simp at h1 h4; omega
     ·exact h2 h4
   have b3 := (hCS.rest.br 0 _ rfl).1
   clear hC1 Lr hlt1 hvl1 hno
   go_upto_region 9 with (fail)
   clear hsf r0 r1
   generalize W1.setCell ⟨gr, 0, none⟩ (.func (.func 177) #[] #[.pointer (some ⟨gc, 0, none⟩), .pointer (some ⟨gp, 0, none⟩), .pointer (some ⟨gk, 0, none⟩), .pointer (some ⟨gl, 0, none⟩), .pointer (some ⟨gf, 0, none⟩), .pointer (some ⟨gr, 0, none⟩)]) = W2 at *
   have hHR := castR_any w0 _ _ _ ps0 pl hp hl hp7 hl6 gc gp gk gl gf gr go gF ps0 [] (pl.map (·.2)) (zeroL pl.length) W2 (show Hid (_ ∧ _) from ⟨rfl, Nat.zero_le _⟩) (Hands.start hfr) hCS
   clear hCS
   obtain ⟨cb, hcb⟩ : ∃ cb, canS pl ps0 (zeroL pl.length) = cb := ⟨_, rfl⟩
   rw [hcb] at hHR
   have HCB := Lib.hid hcb
   clear hcb
   go_wp2_with fail
   refine hHR.mono ?_
   rintro e W3 ⟨rfl, hC3⟩
   go_wp2_with fail
   first | go_end0 | go_ret
   exact ⟨rfl, hC3.rest.bo, by rw [HCB.out]; exact hC3.rest.bF, hC3.rest.below⟩
theorem arePuppets_any (v : Value) (l : List Int) (w : World) (h : RdL cInt 1 w v l) :
  Calls Tryz.prog 170 #[v] w fun e w' => e = .returned (.bool (strictB l 0 6)) ∧ Below w.heap.size w w' := by
 obtain ⟨A, c, rfl, h1, h2⟩ := h.form
 have hC := isStrict_any (.slice A l.length c) l 0 6 w h
 generalize strictB l 0 6 = b at *
 go_enter Tryz.func170, Tryz.ntmps170
 go_wp2_with fail
 refine hC.mono ?_
 rintro e w1 ⟨rfl, hb⟩
 go_wp2_with fail
 go_ret
 exact ⟨rfl, hb⟩
set_option maxHeartbeats 4000000 in
set_option maxRecDepth 100000 in
theorem implFirstCasting_any (v1 v2 : Value) (ps : List Int) (pl : List RPl) (w : World) (hl : RdPls w v1 pl) (hp : RdL cInt 1 w v2 ps) :
  Calls Tryz.prog 147 #[v1, v2] w (RetCast (canF pl ps) w) := by
 have hl0 := hl
 have hp0 := hp
 obtain ⟨Al, cl, rfl, _, _⟩ := hl.form
 obtain ⟨Ap, cp, rfl, _, _⟩ := hp.form
 go_enter Tryz.func147, Tryz.ntmps147
 go_wp2_with fail
 refine twoB (implPlayersOk_any _ pl _ hl) (fun w1 hq hb1 => ?_) (fun w1 hq hb1 => ?_)
 ·have hp1 := hp.below hb1
  have hl1 := hl.below hb1
  obtain ⟨h6, h1, _⟩ := playersB_sz hq.out
  have Hfr := Lib.hid (playersB_fr hq.out)
  go_wp2_with fail
  refine twoB (arePuppets_any _ ps _ hp1) (fun w2 hs hb2 => ?_) (fun w2 hs hb2 => ?_)
  ·have h7 := strict_len (m := 6) hs.out
   have HF := Lib.hid (canF_t hq.out hs.out)
   have hb02 := bl_trans hb1 hb2
   have ha : Below w2.heap.size w2 ((w2.alloc (.cells #[.slice none 0 0] 26)).alloc (.cells #[.bool false] 4)) := by (repeat' (with_reducible first | exact Below.refl _ _ | assumption | refine qS ?_ _ | refine qA ?_ _ | refine qD ?_ | refine qN ?_ _))
   have La : Loc ((w2.alloc (.cells #[.slice none 0 0] 26)).alloc (.cells #[.bool false] 4)) w2.heap.size [.slice none 0 0] := (Loc.new w2 #[.slice none 0 0] 26).alloc _
   have Lb : Loc ((w2.alloc (.cells #[.slice none 0 0] 26)).alloc (.cells #[.bool false] 4)) (w2.heap.size + 1) [.bool false] := by have := Loc.new (w2.alloc (.cells #[.slice none 0 0] 26)) #[.bool false] 4; simpa using this
   have hb03 := bl_trans hb02 ha
   have hz := hb02.size
   have hC := castings_any w ((w2.alloc (.cells #[.slice none 0 0] 26)).alloc (.cells #[.bool false] 4)) _ _ ps pl hp0 hl0 (by omega) h6 Hfr.out w2.heap.size (w2.heap.size + 1) hb03 hz (by omega) (by omega) _ La Lb
   clear ha La Lb hb1 hb2 hp1 hl1 hp hl
   obtain ⟨cb, hcb⟩ : ∃ cb, canS pl ps (zeroL pl.length) = cb := ⟨_, rfl⟩
   rw [hcb] at hC HF
   clear hcb
   go_wp2_with fail
   refine hC.mono ?_
   rintro e w3 ⟨rfl, ⟨vo, Lo⟩, LF, hb⟩
   have b0 := (Lo 0 _ rfl).1
   have b1 := (LF 0 _ rfl).1
   clear hC
   go_wp2_with fail
   go_quiet (fail)
   rename_i nq
   go_wp2_with fail
   go_ret2
   rw [HF.out]
   exact ⟨_, rfl, below_drewN hb _⟩
  ·have HF := Lib.hid (canF_f2 (pl := pl) hs.out)
   have hb02 := bl_trans hb1 hb2
   go_wp2_with fail
   go_ret2
   rw [HF.out]
   exact ⟨_, rfl, hb02⟩
 ·have HF := Lib.hid (canF_f1 (ps := ps) hq.out)
  go_wp2_with fail
  go_ret2
  rw [HF.out]
  exact ⟨_, rfl, hb1⟩
set_option maxHeartbeats 4000000 in
theorem canPlay_any (v1 v2 : Value) (ps : List Int) (pl : List RPl) (w : World) (hl : RdPls w v1 pl) (hp : RdL cInt 1 w v2 ps) :
  Calls Tryz.prog 106 #[v1, v2] w fun e w' => e = .returned (.bool (canF pl ps)) ∧ Below w.heap.size w w' := by
 have hC := implFirstCasting_any v1 v2 ps pl w hl hp
 obtain ⟨Al, cl, rfl, _, _⟩ := hl.form
 obtain ⟨Ap, cp, rfl, _, _⟩ := hp.form
 generalize canF pl ps = cb at *
 go_enter Tryz.func106, Tryz.ntmps106
 go_wp2_with fail
 refine hC.mono ?_
 rintro e w1 ⟨vo, rfl, hb⟩
 go_wp2_with fail
 go_ret
 exact ⟨rfl, hb⟩
open Go.RowKit
def SeaPost (w0 : World) (vd : Value) (ld : List Int) (b : Bool) (w : World) (e : Ending) (w' : World) : Prop := ∃ vx, e = .returned (.tuple #[vx, .bool b]) ∧ w'.ownsRow w0.heap.size 3 1 vd ld.length (ld.flatMap cInt) ∧ Chg vd.ownBlock.toList w w'
theorem act83ls {a : Act} (h : a.tmps.size = 83) (hd : a.defers = []) : ∃ x0 x1 x2 x3 x4 x5 x6 x7 x8 x9 x10 x11 x12 x13 x14 x15 x16 x17 x18 x19 x20 x21 x22 x23 x24 x25 x26 x27 x28 x29 x30 x31 x32 x33 x34 x35 x36 x37 x38 x39 x40 x41 x42 x43 x44 x45 x46 x47 x48 x49 x50 x51 x52 x53 x54 x55 x56 x57 x58 x59 x60 x61 x62 x63 x64 x65 x66 x67 x68 x69 x70 x71 x72 x73 x74 x75 x76 x77 x78 x79 x80 x81 x82 : Value, a = ⟨#[x0, x1, x2, x3, x4, x5, x6, x7, x8, x9, x10, x11, x12, x13, x14, x15, x16, x17, x18, x19, x20, x21, x22, x23, x24, x25, x26, x27, x28, x29, x30, x31, x32, x33, x34, x35, x36, x37, x38, x39, x40, x41, x42, x43, x44, x45, x46, x47, x48, x49, x50, x51, x52, x53, x54, x55, x56, x57, x58, x59, x60, x61, x62, x63, x64, x65, x66, x67, x68, x69, x70, x71, x72, x73, x74, x75, x76, x77, x78, x79, x80, x81, x82], []⟩ := by
 obtain ⟨⟨l⟩, d⟩ := a
 subst hd
 match l, h with
 | x0 :: x1 :: x2 :: x3 :: x4 :: x5 :: x6 :: x7 :: x8 :: x9 :: x10 :: x11 :: x12 :: x13 :: x14 :: x15 :: x16 :: x17 :: x18 :: x19 :: x20 :: x21 :: x22 :: x23 :: x24 :: x25 :: x26 :: x27 :: x28 :: x29 :: x30 :: x31 :: x32 :: x33 :: x34 :: x35 :: x36 :: x37 :: x38 :: x39 :: x40 :: x41 :: x42 :: x43 :: x44 :: x45 :: x46 :: x47 :: x48 :: x49 :: x50 :: x51 :: x52 :: x53 :: x54 :: x55 :: x56 :: x57 :: x58 :: x59 :: x60 :: x61 :: x62 :: x63 :: x64 :: x65 :: x66 :: x67 :: x68 :: x69 :: x70 :: x71 :: x72 :: x73 :: x74 :: x75 :: x76 :: x77 :: x78 :: x79 :: x80 :: x81 :: x82 :: [], _ => exact ⟨x0, x1, x2, x3, x4, x5, x6, x7, x8, x9, x10, x11, x12, x13, x14, x15, x16, x17, x18, x19, x20, x21, x22, x23, x24, x25, x26, x27, x28, x29, x30, x31, x32, x33, x34, x35, x36, x37, x38, x39, x40, x41, x42, x43, x44, x45, x46, x47, x48, x49, x50, x51, x52, x53, x54, x55, x56, x57, x58, x59, x60, x61, x62, x63, x64, x65, x66, x67, x68, x69, x70, x71, x72, x73, x74, x75, x76, x77, x78, x79, x80, x81, x82, rfl⟩
def pls (gv ldn cd k g off pln cl gx ox psn cp cl0 : Nat) (lk f x : Int) (Au : Option Addr) (n cu : Nat) (kn : Bool) (i : Nat) (v : Value) (_ : Nat → Nat) (_ : World) : Prop :=
 match i with
 | 0 => v = .slice (some ⟨gv, 0, none⟩) ldn cd
 | 1 => v = .int .i64 k
 | 2 => v = .pointer (some ⟨gv, k, none⟩)
 | 3 => v = .int .i64 lk
 | 4 => v = .slice (some ⟨g, off, none⟩) pln cl
 | 5 => v = .int .i64 k
 | 6 => v = .pointer (some ⟨g, (off + k * 2), none⟩)
 | 7 => v = .pointer (some ⟨g, (off + k * 2 + 1), none⟩)
 | 8 => v = .int .i64 f
 | 9 => v = .bool false
 | 10 => v = .bool false
 | 11 => v = .slice (some ⟨g, off, none⟩) pln cl
 | 12 => v = .int .i64 k
 | 13 => v = .pointer (some ⟨g, (off + k * 2), none⟩)
 | 14 => v = .agg #[.slice Au n cu, .int .i64 f]
 | 15 => v = .slice (some ⟨gx, ox, none⟩) psn cp
 | 16 => v = .int .i64 cl0
 | 17 => v = .pointer (some ⟨gx, (ox + cl0), none⟩)
 | 18 => v = .int .i64 x
 | 19 => v = .bool kn
 | 20 => v = .bool (!kn)
 | _ => True
set_option maxHeartbeats 8000000 in
set_option maxRecDepth 100000 in
theorem search_any (w0 : World) (vp vl : Value) (ps0 : List Int) (pl : List RPl) (hp : RdL cInt 1 w0 vp ps0) (hl : RdPls w0 vl pl) (hp7 : ps0.length ≤ 7) (hl6 : pl.length ≤ 6) : ∀ (ps cast fr ld : List Int) (vc vd : Value) (w : World), Hid (ps0.drop cast.length = ps ∧ cast.length ≤ ps0.length) → Hands pl ld fr → Below w0.heap.size w0 w → w.ownsRow w0.heap.size 3 1 vd ld.length (ld.flatMap cInt) → w.ownsRow 0 3 1 vc cast.length (cast.flatMap cInt) → Apart vc vd →
  Calls Tryz.prog 161 #[vl, vp, vc, vd] w (SeaPost w0 vd ld (canS pl ps ld) w) := by
 intro ps
 obtain ⟨i0, hi0, hz0, hz1, hz2⟩ := info_parts infoInt
 induction ps with
 | nil =>
  intro cast fr ld vc vd w hps hhd hb hown hcast hap
  have hlen : cast.length = ps0.length := by
   have h1 := congrArg List.length hps.out.1
   have h2 := hps.out.2
   simp at h1
   omega
  have hbe : ((cast.length : Int) == (ps0.length : Int)) = true := by rw [beq_iff_eq]; omega
  have hc7 : cast.length ≤ 7 := by omega
  have hz := hb.size
  clear hlen hps hhd
  show Calls Tryz.prog 161 _ w (SeaPost w0 vd ld true w)
  obtain ⟨Ac, cc, rfl, _, _⟩ := (RdS.of_own hcast).form
  obtain ⟨Ad, cd, rfl, _, _⟩ := (RdS.of_own hown).form
  obtain ⟨Ap, cp, rfl, _, _⟩ := (hp.below hb).form
  obtain ⟨Al, cl, rfl, _, _⟩ := (hl.below hb).form
  go_enter Tryz.func161, Tryz.ntmps161
  go_wp2_with (at_builtin; refine wpList_append_empty _ rfl (.tmp 20) (.tmp 21) _ rfl w0.heap.size 3 i0 _ 1 8 Tryz.underlying26 hi0 hz0 hz1 hz2 rfl (by omega) w.heap.size rfl (own_mono (World.ownsRow_made (size := 1) (e := 3) w #[] 0 (Nat.le_refl _) (by simp [maxLen]) rfl) (by omega)) _ cast.length (cast.flatMap cInt) rfl (RdS.of_own (own_below hcast ((Below.refl _ _).alloc (Nat.le_refl _) _))) (oneCell_flat cInt_one cast) (by simp [maxLen]; omega) (by omega) (by simp <;> omega) ?_; intro v5 w5 own5 hb5 in5)
  obtain ⟨A5, c5, rfl, _, _⟩ := (RdS.of_own own5).form
  have hb6 : Below w.heap.size w w5 := bl_alloc hb5
  go_wp2_with fail
  go_ret2
  exact ⟨_, rfl, own_below hown hb6, Chg.of_below hb6 _⟩
 | cons x ps ih =>
  intro cast fr ld vc vd w hps hhd hb hown hcast hap
  have hcp : cast.length < ps0.length := by
   have h1 := congrArg List.length hps.out.1
   simp at h1
   omega
  have hdr := hps.out.1
  rw [List.drop_eq_getElem_cons hcp] at hdr
  injection hdr with hdr1 hdr2
  have hpx : ∀ h : cast.length < ps0.length, ps0[cast.length] = x := fun _ => hdr1
  have Hps2 := Lib.hid hdr2
  clear hdr1 hdr2
  have hHD := Lib.hid hhd
  obtain ⟨Ac, cc, rfl, _, _⟩ := (RdS.of_own hcast).form
  obtain ⟨Ad, cd, rfl, _, _⟩ := (RdS.of_own hown).form
  obtain ⟨Ap, cp, rfl, _, _⟩ := (hp.below hb).form
  obtain ⟨Al, cl, rfl, _, _⟩ := (hl.below hb).form
  have hne : ((cast.length : Int) == (ps0.length : Int)) = false := by rw [beq_eq_false_iff_ne]; omega
  have Hpx := Lib.hid hpx
  have HI := Lib.hid ih
  have Hap := Lib.hid hap
  clear ih hps hpx hap
  go_enter Tryz.func161, Tryz.ntmps161
  go_wp2_with fail
  go_loopw [11, 12, 13] (fun i _ _ wr => ∃ k : Nat, k ≤ pl.length ∧ i = .int .i64 k ∧ Hid (TriedF pl x ps ld k) ∧ Below w0.heap.size w0 wr ∧ wr.ownsRow w0.heap.size 3 1 (.slice Ad ld.length cd) ld.length (ld.flatMap cInt) ∧ wr.ownsRow 0 3 1 (.slice Ac cast.length cc) cast.length (cast.flatMap cInt) ∧ Chg (Value.slice Ad ld.length cd).ownBlock.toList w wr) (fun i _ _ _ => pl.length - (intOf i).toNat)
  case atStart => exact ⟨0, Nat.zero_le _, rfl, TriedF.zero _ _ _ _, hb, hown, hcast, Chg.refl _ _⟩
  case round =>
   obtain ⟨k, hk, rfl, htr, hbr, ho, hca, hch⟩ := hrel
   clear hb hown hcast
   by_cases hlt : k < pl.length
   ·have hlr := hl.below hbr
    have hzr := hbr.size
    obtain ⟨g, off, u, rfl, hg, k0, k1, hru⟩ := hlr.cell hlt
    have hkl : k < ld.length := by have := hHD.out.l1; omega
    have hkf : k < fr.length := by have := hHD.out.l2; omega
    obtain ⟨gv, cv, e⟩ := own_form ho (by omega)
    injection e with e1 e2 e3
    subst e1 e3
    clear e2
    have HCN := Lib.hid (canAt_eq (pl := pl) (x := x) hlt hkl)
    obtain ⟨Au, cu, rfl, _, _⟩ := hru.form
    have HAT := Lib.hid (hHD.out.at_ k hlt hkl hkf)
    have v0 := row_cell ho hkl
    have vf0 := ho.frozenAt k
    obtain ⟨lk, hlk⟩ : ∃ lk, ld[k] = lk := ⟨_, rfl⟩
    have HBU := Lib.hid (bump_eq (ld := ld) (p := k) hkl)
    have HUB := Lib.hid (unbump (ld := ld) (p := k) hkl)
    rw [hlk] at v0 HCN HAT HBU HUB
    have HLK := Lib.hid hlk
    clear hlk
    generalize hqk : pl[k] = q at *
    obtain ⟨r, f⟩ := q
    simp only at k0 k1 hru HCN HAT
    have hlb : 0 ≤ lk ∧ lk ≤ 2 := by have := HAT.out; omega
    have hpw := hp.below hbr
    obtain ⟨gx, ox, rfl, hgx, hcx⟩ := hpw.cell (k := cast.length) cInt_len (by omega) hcp
    have x0 := hcx 0 _ rfl
    simp only [Nat.add_zero, Nat.mul_one] at x0
    rw [Hpx.out hcp] at x0
    clear hcx hpw hqk
    have hcl : ((cast.length : Nat) : Int) < ((ps0.length : Nat) : Int) := by omega
    obtain ⟨kn, hkn⟩ : ∃ kn, knowsB (r, f) x = kn := ⟨_, rfl⟩
    rw [hkn] at HCN
    have HKW : Hid (∀ w, RdL cInt 1 w (.slice Au r.length cu) r → Calls Tryz.prog 150 #[.agg #[.slice Au r.length cu, .int .i64 f], .int .i64 x] w fun e w' => e = .returned (.bool kn) ∧ Below w.heap.size w w') := fun w h => by rw [← hkn]; exact l13Knows_any _ r f x w h
    clear hkn hlr
    by_cases hge : f ≤ lk
    ·have hd : decide (f ≤ lk) = true := decide_eq_true hge
     have HN := Lib.hid (htr.out.no (show canAt pl x ld k = false by rw [HCN.out, decide_eq_false (by omega)]; rfl))
     go_wp2_with fail
     go_quiet (fail)
     rename_i nq
     have ho2 : (wr.drewN nq).ownsRow w0.heap.size 3 1 (.slice (some ⟨gv, 0, none⟩) ld.length cd) ld.length (ld.flatMap cInt) := ho
     have hca2 : (wr.drewN nq).ownsRow 0 3 1 (.slice Ac cast.length cc) cast.length (cast.flatMap cInt) := hca
     have hbr2 := below_drewN hbr nq
     have hch2 := chg_drewN hch nq
     clear k0 k1 v0 vf0 x0 hru ho hca hbr hch
     generalize wr.drewN nq = W2 at *
     go_wp2_with fail
     go_roundw
     case rel => exact ⟨k + 1, by omega, by go_num, HN.out, hbr2, ho2, hca2, hch2⟩
     case measure => simp [intOf]; omega
    ·have hd : decide (f ≤ lk) = false := decide_eq_false hge
     have hd' : decide (lk < f) = true := decide_eq_true (by omega)
     go_upto_region 7 with (fail)
     refine region_guardedL (n := 83) 21 (by kernel_rfl) rfl (by kernel_rfl) [10] (by kernel_rfl) (fun j => if j = 10 then false else false) (fun w' => Below wr.heap.size wr w') (fun _ => 0) (pls gv ld.length cd k g off pl.length cl gx ox ps0.length cp cast.length lk f x Au r.length cu kn) ⟨fun _ _ _ h => h, trivial⟩ (Below.refl _ _).drew ?_ ?_ ?_
     ·intro i v gh gh' w1 w2 hp hJ hb' hg
      match i, hp with
      | 0, hp => exact hp
      | 1, hp => exact hp
      | 2, hp => exact hp
      | 3, hp => exact hp
      | 4, hp => exact hp
      | 5, hp => exact hp
      | 6, hp => exact hp
      | 7, hp => exact hp
      | 8, hp => exact hp
      | 9, hp => exact hp
      | 10, hp => exact hp
      | 11, hp => exact hp
      | 12, hp => exact hp
      | 13, hp => exact hp
      | 14, hp => exact hp
      | 15, hp => exact hp
      | 16, hp => exact hp
      | 17, hp => exact hp
      | 18, hp => exact hp
      | 19, hp => exact hp
      | 20, hp => exact hp
      | _ + 21, _ => trivial
     ·refine ⟨?_, ?_, ?_, ?_, ?_, ?_, ?_, ?_, ?_, ?_, ?_, ?_, ?_, ?_, ?_, ?_, ?_, ?_, ?_, ?_, ?_, trivial⟩
      ·intro a gh w5 hag hJ hd
       dsimp only [bareO]
       have ag3 : a.tmps.getD 3 undef = .slice (some ⟨gv, 0, none⟩) ld.length cd := hag.kept 3 (by kernel_rfl)
       clear hag
       go_wp2_with fail
       exact ⟨rfl, _, rfl, rfl, hJ, Below.refl _ _⟩
      ·intro a gh w5 hag hJ hd
       dsimp only [bareO]
       have ag11 : a.tmps.getD 11 undef = .int .i64 k := hag.kept 11 (by kernel_rfl)
       clear hag
       go_wp2_with fail
       exact ⟨rfl, _, rfl, rfl, hJ, Below.refl _ _⟩
      ·intro a gh w5 hag hJ hd
       dsimp only [bareO]
       clear hag
       have e0 : a.tmps.getD 29 undef = .slice (some ⟨gv, 0, none⟩) ld.length cd := hd 0 (by kernel_rfl) _ rfl
       have e1 : a.tmps.getD 30 undef = .int .i64 k := hd 1 (by kernel_rfl) _ rfl
       go_wp2_with fail
       exact ⟨rfl, _, rfl, rfl, hJ, Below.refl _ _⟩
      ·intro a gh w5 hag hJ hd
       dsimp only [bareO]
       clear hag
       have e0 : a.tmps.getD 31 undef = .pointer (some ⟨gv, k, none⟩) := hd 2 (by kernel_rfl) _ rfl
       have k0 := carry hJ v0
       go_wp2_with fail
       exact ⟨rfl, _, rfl, rfl, hJ, Below.refl _ _⟩
      ·intro a gh w5 hag hJ hd
       dsimp only [bareO]
       have ag0 : a.tmps.getD 0 undef = .slice (some ⟨g, off, none⟩) pl.length cl := hag.kept 0 (by kernel_rfl)
       clear hag
       go_wp2_with fail
       exact ⟨rfl, _, rfl, rfl, hJ, Below.refl _ _⟩
      ·intro a gh w5 hag hJ hd
       dsimp only [bareO]
       have ag11 : a.tmps.getD 11 undef = .int .i64 k := hag.kept 11 (by kernel_rfl)
       clear hag
       go_wp2_with fail
       exact ⟨rfl, _, rfl, rfl, hJ, Below.refl _ _⟩
      ·intro a gh w5 hag hJ hd
       dsimp only [bareO]
       clear hag
       have e0 : a.tmps.getD 33 undef = .slice (some ⟨g, off, none⟩) pl.length cl := hd 4 (by kernel_rfl) _ rfl
       have e1 : a.tmps.getD 34 undef = .int .i64 k := hd 5 (by kernel_rfl) _ rfl
       go_wp2_with fail
       exact ⟨rfl, _, rfl, rfl, hJ, Below.refl _ _⟩
      ·intro a gh w5 hag hJ hd
       dsimp only [bareO]
       clear hag
       have e0 : a.tmps.getD 35 undef = .pointer (some ⟨g, (off + k * 2), none⟩) := hd 6 (by kernel_rfl) _ rfl
       go_wp2_with fail
       exact ⟨rfl, _, rfl, rfl, hJ, Below.refl _ _⟩
      ·intro a gh w5 hag hJ hd
       dsimp only [bareO]
       clear hag
       have e0 : a.tmps.getD 36 undef = .pointer (some ⟨g, (off + k * 2 + 1), none⟩) := hd 7 (by kernel_rfl) _ rfl
       have k0 := carry hJ k1
       go_wp2_with fail
       exact ⟨rfl, _, rfl, rfl, hJ, Below.refl _ _⟩
      ·intro a gh w5 hag hJ hd
       dsimp only [bareO]
       clear hag
       have e0 : a.tmps.getD 32 undef = .int .i64 lk := hd 3 (by kernel_rfl) _ rfl
       have e1 : a.tmps.getD 37 undef = .int .i64 f := hd 8 (by kernel_rfl) _ rfl
       go_wp2_with fail
       exact ⟨rfl, _, rfl, rfl, hJ, Below.refl _ _⟩
      ·intro a gh w5 hag hJ hd
       dsimp only [bareO]
       clear hag
       have e0 : a.tmps.getD 38 undef = .bool false := hd 9 (by kernel_rfl) _ rfl
       go_wp2_with fail
       exact ⟨rfl, _, rfl, rfl, hJ, Below.refl _ _⟩
      ·intro a gh w5 hag hJ hd
       dsimp only [bareO]
       have ag0 : a.tmps.getD 0 undef = .slice (some ⟨g, off, none⟩) pl.length cl := hag.kept 0 (by kernel_rfl)
       clear hag
       go_wp2_with fail
       exact ⟨rfl, _, rfl, rfl, hJ, Below.refl _ _⟩
      ·intro a gh w5 hag hJ hd
       dsimp only [bareO]
       have ag11 : a.tmps.getD 11 undef = .int .i64 k := hag.kept 11 (by kernel_rfl)
       clear hag
       go_wp2_with fail
       exact ⟨rfl, _, rfl, rfl, hJ, Below.refl _ _⟩
      ·intro a gh w5 hag hJ hd
       dsimp only [bareO]
       clear hag
       have e0 : a.tmps.getD 40 undef = .slice (some ⟨g, off, none⟩) pl.length cl := hd 11 (by kernel_rfl) _ rfl
       have e1 : a.tmps.getD 41 undef = .int .i64 k := hd 12 (by kernel_rfl) _ rfl
       go_wp2_with fail
       exact ⟨rfl, _, rfl, rfl, hJ, Below.refl _ _⟩
      ·intro a gh w5 hag hJ hd
       dsimp only [bareO]
       clear hag
       have e0 : a.tmps.getD 42 undef = .pointer (some ⟨g, (off + k * 2), none⟩) := hd 13 (by kernel_rfl) _ rfl
       have k2 := carry hJ k0
       have k3 := carry hJ k1
       go_wp2_with fail
       exact ⟨rfl, _, rfl, rfl, hJ, Below.refl _ _⟩
      ·intro a gh w5 hag hJ hd
       dsimp only [bareO]
       have ag1 : a.tmps.getD 1 undef = .slice (some ⟨gx, ox, none⟩) ps0.length cp := hag.kept 1 (by kernel_rfl)
       clear hag
       go_wp2_with fail
       exact ⟨rfl, _, rfl, rfl, hJ, Below.refl _ _⟩
      ·intro a gh w5 hag hJ hd
       dsimp only [bareO]
       have ag10 : a.tmps.getD 10 undef = .int .i64 cast.length := hag.kept 10 (by kernel_rfl)
       clear hag
       go_wp2_with fail
       exact ⟨rfl, _, rfl, rfl, hJ, Below.refl _ _⟩
      ·intro a gh w5 hag hJ hd
       dsimp only [bareO]
       clear hag
       have e0 : a.tmps.getD 44 undef = .slice (some ⟨gx, ox, none⟩) ps0.length cp := hd 15 (by kernel_rfl) _ rfl
       have e1 : a.tmps.getD 45 undef = .int .i64 cast.length := hd 16 (by kernel_rfl) _ rfl
       go_wp2_with fail
       exact ⟨rfl, _, rfl, rfl, hJ, Below.refl _ _⟩
      ·intro a gh w5 hag hJ hd
       dsimp only [bareO]
       clear hag
       have e0 : a.tmps.getD 46 undef = .pointer (some ⟨gx, (ox + cast.length), none⟩) := hd 17 (by kernel_rfl) _ rfl
       have k2 := carry hJ x0
       go_wp2_with fail
       exact ⟨rfl, _, rfl, rfl, hJ, Below.refl _ _⟩
      ·intro a gh w5 hag hJ hd
       dsimp only [bareO]
       clear hag
       have e0 : a.tmps.getD 43 undef = .agg #[.slice Au r.length cu, .int .i64 f] := hd 14 (by kernel_rfl) _ rfl
       have e1 : a.tmps.getD 47 undef = .int .i64 x := hd 18 (by kernel_rfl) _ rfl
       go_wp2_with fail
       refine (HKW.out w5 (hru.below hJ)).mono ?_
       rintro e w6 ⟨rfl, hb6⟩
       go_wp2_with fail
       exact ⟨rfl, _, rfl, rfl, bl_trans hJ hb6, hb6⟩
      ·intro a gh w5 hag hJ hd
       dsimp only [bareO]
       clear hag
       have e0 : a.tmps.getD 48 undef = .bool kn := hd 19 (by kernel_rfl) _ rfl
       go_wp2_with fail
       exact ⟨rfl, _, rfl, rfl, hJ, Below.refl _ _⟩
     ·intro a gh w5 hag hJ hd
      obtain ⟨x0, x1, x2, x3, x4, x5, x6, x7, x8, x9, x10, x11, x12, x13, x14, x15, x16, x17, x18, x19, x20, x21, x22, x23, x24, x25, x26, x27, x28, x29, x30, x31, x32, x33, x34, x35, x36, x37, x38, x39, x40, x41, x42, x43, x44, x45, x46, x47, x48, x49, x50, x51, x52, x53, x54, x55, x56, x57, x58, x59, x60, x61, x62, x63, x64, x65, x66, x67, x68, x69, x70, x71, x72, x73, x74, x75, x76, x77, x78, x79, x80, x81, x82, rfl⟩ := act83ls hag.size hag.defers
      have ag0 : x0 = .slice (some ⟨g, off, none⟩) pl.length cl := hag.kept 0 (by kernel_rfl)
      have ag1 : x1 = .slice (some ⟨gx, ox, none⟩) ps0.length cp := hag.kept 1 (by kernel_rfl)
      have ag2 : x2 = .slice Ac cast.length cc := hag.kept 2 (by kernel_rfl)
      have ag3 : x3 = .slice (some ⟨gv, 0, none⟩) ld.length cd := hag.kept 3 (by kernel_rfl)
      have ag4 : x4 = undef := hag.kept 4 (by kernel_rfl)
      have ag5 : x5 = undef := hag.kept 5 (by kernel_rfl)
      have ag6 : x6 = undef := hag.kept 6 (by kernel_rfl)
      have ag7 : x7 = undef := hag.kept 7 (by kernel_rfl)
      have ag8 : x8 = u8 := hag.kept 8 (by kernel_rfl)
      have ag9 : x9 = u9 := hag.kept 9 (by kernel_rfl)
      have ag10 : x10 = .int .i64 cast.length := hag.kept 10 (by kernel_rfl)
      have ag11 : x11 = .int .i64 k := hag.kept 11 (by kernel_rfl)
      have ag14 : x14 = .slice Ac cast.length cc := hag.kept 14 (by kernel_rfl)
      have ag15 : x15 = .int .i64 cast.length := hag.kept 15 (by kernel_rfl)
      have ag16 : x16 = .int .i64 cast.length := hag.kept 16 (by kernel_rfl)
      have ag17 : x17 = .slice (some ⟨gx, ox, none⟩) ps0.length cp := hag.kept 17 (by kernel_rfl)
      have ag18 : x18 = .int .i64 ps0.length := hag.kept 18 (by kernel_rfl)
      have ag19 : x19 = .bool false := hag.kept 19 (by kernel_rfl)
      have ag20 : x20 = undef := hag.kept 20 (by kernel_rfl)
      have ag21 : x21 = undef := hag.kept 21 (by kernel_rfl)
      have ag22 : x22 = undef := hag.kept 22 (by kernel_rfl)
      have ag82 : x82 = undef := hag.kept 82 (by kernel_rfl)
      clear hag
      subst ag0 ag1 ag2 ag3 ag4 ag5 ag6 ag7 ag8 ag9 ag10 ag11 ag14 ag15 ag16 ag17 ag18 ag19 ag20 ag21 ag22 ag82
      obtain e1 : x39 = .bool false := hd 10 (by kernel_rfl) _ rfl
      obtain e2 : x49 = .bool (!kn) := hd 20 (by kernel_rfl) _ rfl
      subst e1 e2
      change wpList _ _ _ [_] _ _
      have ho2 := own_below ho hJ
      have hca2 := own_below hca hJ
      have hbr2 := hbr.trans (hJ.mono hzr)
      have hch2 := hch.trans (Chg.of_below hJ _)
      have hz5 := hbr2.size
      have v1 := carry hJ v0
      have vf1 := carryF hJ v0 vf0
      clear hJ hd k0 k1 v0 vf0 x0 hru ho hca hbr hch hzr hg hgx
      cases kn
      ·have HN := Lib.hid (htr.out.no (show canAt pl x ld k = false by rw [HCN.out, Bool.and_false]))
       go_wp2_with fail
       go_roundw
       case rel => exact ⟨k + 1, by omega, by go_num, HN.out, hbr2, ho2, hca2, hch2⟩
       case measure => simp [intOf]; omega
      ·have HCT := Lib.hid (show canAt pl x ld k = true by rw [HCN.out, hd']; rfl)
       have hw1 : IntKind.i64.wrap (lk + 1) = lk + 1 := IntWalk.i64_in _ (by omega)
       have hd5 : ∀ b ∈ (Value.slice (some ⟨gv, 0, none⟩) ld.length cd).ownBlock.toList, b = gv := fun b hb => by simpa [Value.ownBlock] using hb
       have hgv := own_lt ho2 gv (by simp [Value.ownBlock])
       have HLS : Hid (Hands pl (bump ld k) (fr.set k (fr[k] - 1))) := hHD.out.less hkf (by have := HAT.out; omega)
       go_upto_region 9 with (fail)
       have hch6 : Chg (Value.slice (some ⟨gv, 0, none⟩) ld.length cd).ownBlock.toList w5 (w5.setCell ⟨gv, k, none⟩ (.int .i64 (lk + 1))) := chg_set (Chg.refl _ _) (by simp [Value.ownBlock])
       have ho6 : (w5.setCell ⟨gv, k, none⟩ (.int .i64 (lk + 1))).ownsRow w0.heap.size 3 1 (.slice (some ⟨gv, 0, none⟩) ld.length cd) (bump ld k).length ((bump ld k).flatMap cInt) := by rw [bump_len, HBU.out]; exact row_stored ho2 k (lk + 1)
       have hca6 := own_chg hca2 hch6 Hap.out
       have hbr6 := Below.chg hbr2 hch6 hz5 (fun b hb => by rw [hd5 b hb]; exact hgv.1)
       have hz6 := hch6.size
       clear hw1 v1 vf1
       generalize w5.setCell ⟨gv, k, none⟩ (.int .i64 (lk + 1)) = W6 at *
       go_wp2_with (at_builtin; first | (refine wpList_append_empty _ rfl (.tmp 62) (.tmp 63) _ rfl W6.heap.size 3 i0 _ 1 8 Tryz.underlying26 hi0 hz0 hz1 hz2 rfl (by omega) W6.heap.size rfl (own_mono (World.ownsRow_made (size := 1) (e := 3) W6 #[] 0 (Nat.le_refl _) (by simp [maxLen]) rfl) (by omega)) _ cast.length (cast.flatMap cInt) rfl (RdS.of_own (own_below hca6 ((Below.refl _ _).alloc (Nat.le_refl _) _))) (oneCell_flat cInt_one cast) (by simp [maxLen]; omega) (by omega) (by simp <;> omega) ?_; intro v7 v7w own7 hb7 in7; obtain ⟨A7, c7, rfl, _, _⟩ := (RdS.of_own own7).form; have hb7' : Below W6.heap.size W6 v7w := bl_alloc hb7; have hz7 := hb7'.size) | (refine wpList_appendB _ rfl (.tmp 64) (.tmp 66) _ rfl W6.heap.size 3 i0 _ 1 8 Tryz.underlying26 hi0 hz0 hz1 hz2 rfl (by omega) _ cast.length (cast.flatMap cInt) rfl (own_below own7 ((Below.refl _ _).alloc (Nat.le_refl _) _)) _ 1 [.int .i64 k] rfl (rdS_new v7w #[.int .i64 k] _ 1 1 rfl (by simp [maxLen])) (by simp [Value.oneCell']) (by simp [maxLen]; omega) (by omega) (by simp; omega) ?_; intro v8 w8 own8 gr8 at8; obtain ⟨A8, c8, rfl, _, _⟩ := (RdS.of_own own8).form))
       have hb8 : Below W6.heap.size W6 w8 := (hb7'.alloc (by omega) _).trans (below_own (own_below own7 ((Below.refl _ _).alloc (Nat.le_refl _) _)) gr8 (by simp; omega))
       have ho8 := own_below ho6 hb8
       have hbr8 := hbr6.trans (hb8.mono (by omega))
       have own8' : w8.ownsRow 0 3 1 (.slice A8 (cast.length + 1) c8) (cast ++ [(k : Int)]).length ((cast ++ [(k : Int)]).flatMap cInt) := by rw [List.length_append, List.flatMap_append]; exact own_mono own8 (Nat.zero_le _)
       have hap8 : Apart (.slice A8 (cast.length + 1) c8) (.slice (some ⟨gv, 0, none⟩) ld.length cd) := fun b hb hb' => by have := (own_lt own8 b hb).1; rw [hd5 b hb'] at this; omega
       have hI := HI.out (cast ++ [(k : Int)]) (fr.set k (fr[k] - 1)) (bump ld k) _ _ w8 (show Hid (_ ∧ _) from ⟨by rw [List.length_append]; exact Hps2.out, by simp; omega⟩) HLS.out hbr8 ho8 own8' hap8
       obtain ⟨cb, hcb⟩ : ∃ cb, canS pl ps (bump ld k) = cb := ⟨_, rfl⟩
       rw [hcb] at hI
       have HCB := Lib.hid hcb
       clear hcb own8 own8' hap8 ho8 gr8 at8 own7 in7 hb7 hb7'
       refine hI.mono ?_
       rintro e w9 ⟨vx, rfl, ho9, hch9⟩
       rw [bump_len] at ho9
       have hc9 := row_cell ho9 (k := k) (by rw [bump_len]; exact hkl)
       have hf9 := ho9.frozenAt k
       have hbk : (bump ld k)[k]'(by rw [bump_len]; exact hkl) = lk + 1 := by simp only [HBU.out, List.getElem_set_self]
       rw [hbk] at hc9
       obtain ⟨l1, hl1⟩ : ∃ l1, lk + 1 = l1 := ⟨_, rfl⟩
       rw [hl1] at hc9
       have hw1 : IntKind.i64.wrap (l1 - 1) = lk := by rw [IntWalk.i64_in _ (by omega)]; omega
       clear hI hl1 hbk
       have HO10 := Lib.hid (row_stored ho9 k lk)
       rw [HUB.out] at HO10
       have HC10 : Hid (Chg (Value.slice (some ⟨gv, 0, none⟩) ld.length cd).ownBlock.toList w5 (w9.setCell ⟨gv, k, none⟩ (.int .i64 lk))) := chg_set (hch6.trans ((Chg.of_below hb8 _).trans hch9)) (by simp [Value.ownBlock])
       clear ho9 hch9 hch6 hb8 hca6 ho6 hbr6 hbr8
       go_upto_region 11 with (fail)
       have ho10 := HO10.out
       have hc10 := HC10.out
       clear HO10 HC10 hc9 hf9 hw1
       generalize w9.setCell ⟨gv, k, none⟩ (.int .i64 lk) = W10 at *
       have hca10 := own_chg hca2 hc10 Hap.out
       have hbr10 := Below.chg hbr2 hc10 hz5 (fun b hb => by rw [hd5 b hb]; exact hgv.1)
       have hch10 := hch2.trans hc10
       cases cb
       ·have HN := Lib.hid (htr.out.sub HCB.out)
        go_wp2_with fail
        go_roundw
        case rel => exact ⟨k + 1, by omega, by go_num, HN.out, hbr10, ho10, hca10, hch10⟩
        case measure => simp [intOf]; omega
       ·have HY := Lib.hid (canS_t hlt HCT.out HCB.out)
        go_wp2_with fail
        go_ret2
        rw [HY.out]
        exact ⟨_, rfl, ho10, hch10⟩
   ·obtain rfl : k = pl.length := by omega
    have HE := Lib.hid htr.out.end_
    go_wp2_with fail
    go_ret2
    rw [HE.out]
    exact ⟨_, rfl, own_below ho ((Below.refl _ _).alloc (Nat.le_refl _) _), hch.alloc _⟩
open Go.RowKit
set_option maxHeartbeats 4000000 in
set_option maxRecDepth 100000 in
theorem specFirstCasting_any (v1 v2 : Value) (ps : List Int) (pl : List RPl) (w : World) (hl : RdPls w v1 pl) (hp : RdL cInt 1 w v2 ps) :
  Calls Tryz.prog 130 #[v1, v2] w (RetCast (canF pl ps) w) := by
 have hl0 := hl
 have hp0 := hp
 obtain ⟨i0, hi0, hz0, hz1, hz2⟩ := info_parts infoInt
 obtain ⟨Al, cl, rfl, _, _⟩ := hl.form
 obtain ⟨Ap, cp, rfl, _, _⟩ := hp.form
 go_enter Tryz.func130, Tryz.ntmps130
 go_wp2_with fail
 refine twoB (specPlayersOk_any _ pl _ hl) (fun w1 hq hb1 => ?_) (fun w1 hq hb1 => ?_)
 ·have hp1 := hp.below hb1
  obtain ⟨h6, h1, _⟩ := playersB_sz hq.out
  have Hfr := Lib.hid (playersB_fr hq.out)
  obtain ⟨sb, hsb⟩ : ∃ sb, strictB ps 0 6 = sb := ⟨_, rfl⟩
  have hC := l11Rising_q _ ps 6 w1 hp1
  have hC' : Calls Tryz.prog 88 #[.slice Ap ps.length cp, .int .i64 6] w1 fun e w' => e = .returned (.bool sb) ∧ ∃ d, w' = w1.drewN d := by rw [← hsb]; exact hC
  have HSB := Lib.hid hsb
  clear hC hsb
  go_wp2_with fail
  refine hC'.mono ?_
  rintro e w2 ⟨rfl, d, rfl⟩
  have hb2 : Below w.heap.size w (w1.drewN d) := below_drewN hb1 d
  clear hC' hp1 hp hl hb1
  generalize w1.drewN d = W at *
  cases sb
  ·have HF := Lib.hid (canF_f2 (pl := pl) HSB.out)
   go_wp2_with fail
   go_ret2
   rw [HF.out]
   exact ⟨_, rfl, hb2.alloc hb2.size _⟩
  ·have h7 := strict_len (m := 6) HSB.out
   have HF := Lib.hid (canF_t hq.out HSB.out)
   have hz := hb2.size
   have hca : (W.alloc (.cells #[] 3)).ownsRow W.heap.size 3 1 (.slice (some ⟨W.heap.size, 0, none⟩) 0 0) 0 [] := World.ownsRow_made (size := 1) (e := 3) W #[] 0 (Nat.le_refl _) (by simp [maxLen]) rfl
   go_wp2_with (at_make; refine wpList_make_full _ rfl _ _ _ rfl (W.heap.size + 1) 3 i0 _ 1 Tryz.underlying26 hi0 hz0 hz1 _ _ _ _ pl.length rfl rfl rfl rfl (by rw [hz2]; omega) (by simp [maxLen]; omega) (by simp) ?_; intro w3 hown hgr)
   have hsz : (W.alloc (.cells #[] 3)).heap.size = W.heap.size + 1 := by simp
   rw [row_made, Nat.mul_one, hsz] at hown
   have hb3 : Below W.heap.size W w3 := ((Below.refl _ _).alloc (Nat.le_refl _) _).grown hgr (by simp) (by simp)
   have hb03 := hb2.trans (hb3.mono hz)
   have hca3 : w3.ownsRow 0 3 1 (.slice (some ⟨W.heap.size, 0, none⟩) 0 0) ([] : List Int).length (([] : List Int).flatMap cInt) := own_mono (own_below hca ((Below.refl _ _).grown hgr (Nat.le_refl _) (by simp))) (Nat.zero_le _)
   have hap : Apart (.slice (some ⟨W.heap.size, 0, none⟩) 0 0) (.slice (some ⟨W.heap.size + 1, 0, none⟩) pl.length pl.length) := fun b hb hb' => by
    simp [Value.ownBlock] at hb hb'; omega
   have hI := search_any w _ _ ps pl hp0 hl0 (by omega) h6 ps [] (pl.map (·.2)) (zeroL pl.length) (.slice (some ⟨W.heap.size, 0, none⟩) 0 0) (.slice (some ⟨W.heap.size + 1, 0, none⟩) pl.length pl.length) w3 (show Hid (_ ∧ _) from ⟨rfl, Nat.zero_le _⟩) (Hands.start Hfr.out) hb03 (by rw [show (zeroL pl.length).length = pl.length by simp [zeroL]]; exact own_mono hown (by omega)) hca3 hap
   obtain ⟨cb, hcb⟩ : ∃ cb, canS pl ps (zeroL pl.length) = cb := ⟨_, rfl⟩
   rw [hcb] at hI HF
   clear hcb
   refine hI.mono ?_
   rintro e w4 ⟨vx, rfl, ho4, hch4⟩
   have hb4 := Below.chg hb03 hch4 hb03.size (fun b hb => by simp [Value.ownBlock] at hb; omega)
   clear hI hca3 hown hgr ho4
   go_wp2_with fail
   go_ret2
   rw [HF.out]
   exact ⟨_, rfl, hb4⟩
 ·have HF := Lib.hid (canF_f1 (ps := ps) hq.out)
  go_wp2_with fail
  go_ret2
  rw [HF.out]
  exact ⟨_, rfl, hb1.alloc hb1.size _⟩
set_option maxHeartbeats 4000000 in
theorem l17Can_any (v1 v2 : Value) (ps : List Int) (pl : List RPl) (w : World) (hl : RdPls w v1 pl) (hp : RdL cInt 1 w v2 ps) :
  Calls Tryz.prog 78 #[v1, v2] w fun e w' => e = .returned (.bool (canF pl ps)) ∧ Below w.heap.size w w' := by
 have hC := specFirstCasting_any v1 v2 ps pl w hl hp
 obtain ⟨Al, cl, rfl, _, _⟩ := hl.form
 obtain ⟨Ap, cp, rfl, _, _⟩ := hp.form
 generalize canF pl ps = cb at *
 go_enter Tryz.func78, Tryz.ntmps78
 go_wp2_with fail
 refine hC.mono ?_
 rintro e w1 ⟨vo, rfl, hb⟩
 go_wp2_with fail
 go_ret
 exact ⟨rfl, hb⟩
end Go.Proofs.YtlhdeojkpmpecaaGreat
