/- FnVotes in plain words. No program in sight. -/
import Derived.Test.YtkejgogheonakaaV6
import Derived.Test.YtkejgogheonakaaW6
namespace Go.Proofs.Ytkejgogheonakaa
open Go.RowKit
theorem perm_vote {n : Nat} {l : List Int} (h : isPerm n l) : Vote n l := by
  refine ⟨isPerm_len h, ?_, fun x hx => ?_⟩
  · refine (List.Perm.nodup_iff h).2 ?_
    rw [List.nodup_iff_pairwise_ne, List.pairwise_map]
    exact List.Pairwise.imp (fun hab e => hab (by omega)) (List.nodup_iff_pairwise_ne.1 List.nodup_range)
  · have := (List.Perm.mem_iff h).1 hx
    obtain ⟨j, hj, rfl⟩ := List.mem_map.1 this
    have := List.mem_range.1 hj
    omega
theorem idx_ne {n : Nat} {v : List Int} (h : Vote n v) {i k : Nat} (hi : i < n) (hk : k < n) (hik : i ≠ k) : idxN v i ≠ idxN v k := by
  intro e
  have h1 := idxN_get (h.all hi)
  have h2 := idxN_get (h.all hk)
  have h3 : v[idxN v i]'(idxN_mem (h.all hi)) = v[idxN v k]'(idxN_mem (h.all hk)) := by congr 1
  rw [h1, h2] at h3
  omega
/-- For each pair each vote says who is before whom. -/
theorem bef_sum {n : Nat} {vv : List (List Int)} (h : ∀ v ∈ vv, Vote n v) {i k : Nat} (hi : i < n) (hk : k < n) (hik : i ≠ k) : befN vv i k + befN vv k i = vv.length := by
  induction vv with
  | nil => rfl
  | cons v vv ih =>
    have ih := ih (fun v hv => h v (List.mem_cons_of_mem _ hv))
    have hv := h v List.mem_cons_self
    have hne := idx_ne hv hi hk hik
    unfold befN at *
    rw [List.countP_cons, List.countP_cons, List.length_cons]
    have e1 : befP (i : Int) (k : Int) v = decide (idxN v i < idxN v k) := by unfold befP; rw [idxF_mem (hv.all hi), idxF_mem (hv.all hk)]; simp
    have e2 : befP (k : Int) (i : Int) v = decide (idxN v k < idxN v i) := by unfold befP; rw [idxF_mem (hv.all hi), idxF_mem (hv.all hk)]; simp
    rw [e1, e2]
    by_cases hlt : idxN v i < idxN v k
    · rw [decide_eq_true hlt, decide_eq_false (show ¬ idxN v k < idxN v i by omega)]; simp; omega
    · rw [decide_eq_false hlt, decide_eq_true (show idxN v k < idxN v i by omega)]; simp; omega
theorem votes_ok {n : Nat} {vv : List (List Int)} (h : ∀ v ∈ vv, isPerm n v) (hl : 1 ≤ vv.length ∧ vv.length ≤ 6) (hn : 1 ≤ n ∧ n ≤ 6) : votesB vv = true ∧ (vv.getD 0 []).length = n := by
  have h0 : (vv.getD 0 []).length = n := by rw [row0_len (by omega)]; exact isPerm_len (h _ (List.getElem_mem _))
  refine ⟨?_, h0⟩
  rw [votesB, h0, inB_iff.2 ⟨by omega, by omega⟩, Bool.and_true, List.all_eq_true]
  intro v hv
  have hp := perm_vote (h v hv)
  have ho : orderB v = true := (orderB_iff v).2 ⟨by rw [hp.len]; omega, hp.nodup, fun x hx => by have := hp.bd x hx; rw [hp.len]; omega⟩
  rw [voteB, ho, hp.len]; simp
/-- how many of the first m (but i) one vote puts behind i -/
def behTo (v : List Int) (i m : Nat) : Nat := (List.range m).countP (fun k : Nat => decide (idxN v i < idxN v (k : Int)))
/-- the sum of befN i k over k < m, k ≠ i -/
def befTo (vv : List (List Int)) (i : Nat) : Nat → Nat
  | 0 => 0
  | m + 1 => befTo vv i m + if m = i then 0 else befN vv i m
theorem befTo_behTo {n : Nat} {vv : List (List Int)} (h : ∀ v ∈ vv, Vote n v) {i : Nat} (hi : i < n) (m : Nat) (hm : m ≤ n) : befTo vv i m = (vv.map (fun v => behTo v i m)).sum := by
  induction m with
  | zero =>
    have : ∀ l : List (List Int), (l.map (fun v => behTo v i 0)).sum = 0 := by
      intro l
      induction l with
      | nil => rfl
      | cons a l ih => rw [List.map_cons, List.sum_cons, ih]; rfl
    rw [this]; rfl
  | succ m ih =>
    rw [befTo, ih (by omega)]
    have key : ∀ l : List (List Int), (∀ v ∈ l, Vote n v) → (l.map (fun v => behTo v i (m + 1))).sum = (l.map (fun v => behTo v i m)).sum + if m = i then 0 else befN l i m := by
      intro l
      induction l with
      | nil => intro _; simp [befN]
      | cons v l ihl =>
        intro hl
        have hv := hl v List.mem_cons_self
        rw [List.map_cons, List.map_cons, List.sum_cons, List.sum_cons, ihl (fun v hv => hl v (List.mem_cons_of_mem _ hv))]
        have e1 : befP (i : Int) (m : Int) v = decide (idxN v i < idxN v m) := by unfold befP; rw [idxF_mem (hv.all hi), idxF_mem (hv.all (show m < n by omega))]; simp
        have e2 : behTo v i (m + 1) = behTo v i m + if idxN v i < idxN v m then 1 else 0 := by
          unfold behTo
          rw [List.range_succ, List.countP_append, List.countP_cons, List.countP_nil]; simp
        rw [e2]
        by_cases hmi : m = i
        · subst hmi
          rw [if_pos rfl, if_pos rfl, if_neg (Nat.lt_irrefl _)]; omega
        · rw [if_neg hmi, if_neg hmi]
          unfold befN
          rw [List.countP_cons, e1]
          by_cases hlt : idxN v i < idxN v m
          · rw [if_pos hlt, decide_eq_true hlt]; simp; omega
          · rw [if_neg hlt, decide_eq_false hlt]; simp; omega
    exact (key vv h).symm
theorem cnt_gt (a n : Nat) : (List.range n).countP (fun j => decide (a < j)) = n - 1 - a := by
  induction n with
  | zero => simp
  | succ n ih =>
    rw [List.range_succ, List.countP_append, ih, List.countP_cons, List.countP_nil]
    by_cases h : a < n
    · rw [decide_eq_true h]; simp; omega
    · rw [decide_eq_false h]; simp; omega
theorem idx_perm {n : Nat} {v : List Int} (h : Vote n v) : ((List.range n).map (fun k : Nat => idxN v (k : Int))).Perm (List.range n) := by
  have hn : ((List.range n).map (fun k : Nat => idxN v (k : Int))).Nodup := by
    rw [List.nodup_iff_pairwise_ne, List.pairwise_map]
    refine List.Pairwise.imp_of_mem ?_ (List.nodup_iff_pairwise_ne.1 List.nodup_range)
    intro a b ha hb hab
    exact idx_ne h (List.mem_range.1 ha) (List.mem_range.1 hb) hab
  rw [List.perm_ext_iff_of_nodup hn List.nodup_range]
  intro j
  rw [List.mem_map, List.mem_range]
  constructor
  · rintro ⟨k, hk, rfl⟩
    exact h.idx_lt (List.mem_range.1 hk)
  · intro hj
    have hj' : j < v.length := by rw [h.len]; exact hj
    have hb := h.bd _ (List.getElem_mem hj')
    refine ⟨v[j].toNat, List.mem_range.2 (by omega), ?_⟩
    rw [show ((v[j].toNat : Nat) : Int) = v[j] by omega]
    exact idxN_nodup h.nodup hj'
theorem behTo_end {n : Nat} {v : List Int} (h : Vote n v) {i : Nat} : behTo v i n = n - 1 - idxN v i := by
  have h1 : behTo v i n = ((List.range n).map (fun k : Nat => idxN v (k : Int))).countP (fun j => decide (idxN v i < j)) := by
    unfold behTo
    rw [List.countP_map]; rfl
  rw [h1, List.Perm.countP_eq _ (idx_perm h), cnt_gt]
/-- Points are the sum of the preferences. -/
theorem pts_bef {n : Nat} {vv : List (List Int)} (h : ∀ v ∈ vv, Vote n v) {i : Nat} (hi : i < n) : ptsTo n vv i = (befTo vv i n : Nat) := by
  rw [befTo_behTo h hi n (Nat.le_refl _)]
  unfold ptsTo
  induction vv with
  | nil => rfl
  | cons v vv ih =>
    have hv := h v List.mem_cons_self
    rw [List.map_cons, List.map_cons, List.sum_cons, List.sum_cons, ih (fun v hv => h v (List.mem_cons_of_mem _ hv)), behTo_end hv]
    have := hv.idx_lt hi
    omega
def sumI (f : Nat → Int) : Nat → Int
  | 0 => 0
  | m + 1 => sumI f m + f m
theorem sumI_add (f g : Nat → Int) (m : Nat) : sumI (fun i => f i + g i) m = sumI f m + sumI g m := by
  induction m with
  | zero => rfl
  | succ m ih => unfold sumI; rw [ih]; omega
theorem sumI_list (f : Nat → Int) (m : Nat) : sumI f m = ((List.range m).map f).sum := by
  induction m with
  | zero => rfl
  | succ m ih => rw [List.range_succ, List.map_append, List.sum_append_int, ← ih]; simp [sumI]
theorem sumI_tri (n m : Nat) : 2 * sumI (fun j => (n : Int) - 1 - j) m = m * (2 * n - 1 - m) := by
  induction m with
  | zero => simp [sumI]
  | succ m ih =>
    unfold sumI
    rw [Int.mul_add, ih]
    have e : ((m + 1 : Nat) : Int) * (2 * n - 1 - ((m + 1 : Nat) : Int)) = (m : Int) * (2 * n - 1 - m) + 2 * ((n : Int) - 1 - m) := by
      rw [Int.natCast_add]
      simp only [Int.add_mul, Int.mul_sub, Int.mul_add, Int.one_mul, Int.mul_one, Int.natCast_one, Int.sub_mul]
      omega
    rw [e]
theorem perm_sumI {a b : List Int} (h : a.Perm b) : a.sum = b.sum := by
  induction h with
  | nil => rfl
  | cons x _ ih => rw [List.sum_cons, List.sum_cons, ih]
  | swap x y l => rw [List.sum_cons, List.sum_cons, List.sum_cons, List.sum_cons]; omega
  | trans _ _ h1 h2 => rw [h1, h2]
theorem idx_sum {n : Nat} {v : List Int} (h : Vote n v) : 2 * sumI (fun i => (n : Int) - 1 - idxN v (i : Int)) n = n * ((n : Int) - 1) := by
  have h1 : sumI (fun i => (n : Int) - 1 - idxN v (i : Int)) n = sumI (fun j => (n : Int) - 1 - j) n := by
    rw [sumI_list, sumI_list]
    have hp := (idx_perm h).map (fun j : Nat => (n : Int) - 1 - j)
    rw [List.map_map] at hp
    exact perm_sumI hp
  rw [h1, sumI_tri]
  congr 1
  omega
theorem pts_sum {n : Nat} {vv : List (List Int)} (h : ∀ v ∈ vv, Vote n v) : 2 * sumI (fun i => ptsTo n vv i) n = vv.length * (n * ((n : Int) - 1)) := by
  induction vv with
  | nil =>
    have : ∀ m, sumI (fun i => ptsTo n [] i) m = 0 := by
      intro m
      induction m with
      | zero => rfl
      | succ m ih => unfold sumI; rw [ih]; rfl
    rw [this]; simp
  | cons v vv ih =>
    have e : (fun i : Nat => ptsTo n (v :: vv) i) = (fun i : Nat => ((n : Int) - 1 - idxN v (i : Int)) + ptsTo n vv i) := by
      funext i
      unfold ptsTo
      rw [List.map_cons, List.sum_cons]
    rw [e, sumI_add, Int.mul_add, idx_sum (h v List.mem_cons_self), ih (fun v hv => h v (List.mem_cons_of_mem _ hv)), List.length_cons, Int.natCast_add, Int.add_mul]
    simp only [Int.natCast_one, Int.one_mul]
    omega
/-- how many of the first m (but i) are beaten by i -/
def beatTo (vv : List (List Int)) (i : Nat) : Nat → Nat
  | 0 => 0
  | m + 1 => beatTo vv i m + if m = i then 0 else if beatB vv i m = true then 1 else 0
theorem beatTo_all (vv : List (List Int)) (i m : Nat) : beatTo vv i m + (if i < m then 1 else 0) ≤ m ∧ (beatTo vv i m + (if i < m then 1 else 0) = m ↔ fbpTo vv i m = true) := by
  induction m with
  | zero => simp [beatTo, fbpTo]
  | succ m ih =>
    obtain ⟨h1, h2⟩ := ih
    rw [fbpTo_succ, beatTo, Bool.and_eq_true, ← h2]
    by_cases e : m = i
    · subst e
      rw [if_neg (Nat.lt_irrefl _)] at h1 ⊢
      rw [if_pos rfl, if_pos (Nat.lt_succ_self _), decide_eq_true rfl]
      simp only [Bool.true_or, and_true]
      omega
    · rw [if_neg e, decide_eq_false (show ¬ i = m from fun x => e x.symm), Bool.false_or]
      by_cases hb : beatB vv i m = true
      · rw [if_pos hb]
        by_cases hi : i < m
        · rw [if_pos hi] at h1 ⊢; rw [if_pos (show i < m + 1 by omega)]; simp only [hb, and_true]; omega
        · rw [if_neg hi] at h1 ⊢; rw [if_neg (show ¬ i < m + 1 by omega)]; simp only [hb, and_true]; omega
      · rw [if_neg hb]
        by_cases hi : i < m
        · rw [if_pos hi] at h1 ⊢; rw [if_pos (show i < m + 1 by omega)]; exact ⟨by omega, ⟨fun e => absurd e (by omega), fun e => absurd e.2 hb⟩⟩
        · rw [if_neg hi] at h1 ⊢; rw [if_neg (show ¬ i < m + 1 by omega)]; exact ⟨by omega, ⟨fun e => absurd e (by omega), fun e => absurd e.2 hb⟩⟩
theorem fbp_one {n : Nat} {vv : List (List Int)} (h : ∀ v ∈ vv, Vote n v) {i k : Nat} (hi : i < n) (hk : k < n) (h1 : fbpB vv n i = true) (h2 : fbpB vv n k = true) : i = k := by
  apply Classical.byContradiction
  intro hne
  have b1 := List.all_eq_true.1 h1 k (List.mem_range.2 hk)
  have b2 := List.all_eq_true.1 h2 i (List.mem_range.2 hi)
  rw [decide_eq_false hne, Bool.false_or] at b1
  rw [decide_eq_false (fun e => hne e.symm), Bool.false_or] at b2
  have c1 := of_decide_eq_true b1
  have c2 := of_decide_eq_true b2
  have := bef_sum h hi hk hne
  omega
/-- Whoever beats all others is the first by pairs, and nobody else. -/
theorem fbp_beats {n : Nat} {vv : List (List Int)} (h : ∀ v ∈ vv, Vote n v) (hv : votesB vv = true) (hn : (vv.getD 0 []).length = n) {i : Nat} (hi : i < n) : beatTo vv i n = n - 1 ↔ (i : Int) = fbpF vv := by
  have hb := (beatTo_all vv i n).2
  rw [if_pos hi] at hb
  have hb' : beatTo vv i n = n - 1 ↔ fbpB vv n i = true := by
    rw [show fbpB vv n i = fbpTo vv i n from rfl, ← hb]; omega
  rw [hb']
  by_cases hx : ∃ k, k < n ∧ fbpB vv n k = true
  · obtain ⟨k, hk, hkb⟩ := hx
    have hf : fbpF vv = k := fbpF_at hv hn hk (List.all_eq_true.2 (fun j hj => by
      have hj' := List.mem_range.1 hj
      cases e : fbpB vv n j
      · rfl
      · have := fbp_one h (show j < n by omega) hk e hkb; omega)) hkb
    rw [hf]
    constructor
    · intro hib
      have := fbp_one h hi hk hib hkb
      omega
    · intro e
      have : i = k := by omega
      rw [this]; exact hkb
  · have hf : fbpF vv = -1 := fbpF_none hn (List.all_eq_true.2 (fun j hj => by
      cases e : fbpB vv n j
      · rfl
      · exact absurd ⟨j, List.mem_range.1 hj, e⟩ hx))
    rw [hf]
    constructor
    · intro hib; exact absurd ⟨i, hi, hib⟩ hx
    · intro e; omega
theorem circ_small {vv : List (List Int)} {n : Nat} (hn : (vv.getD 0 []).length = n) (h2 : n ≤ 2) : circF vv = false := by
  refine circF_none hn ?_
  rw [List.any_eq_false]
  intro a ha
  unfold circ1
  rw [Bool.not_eq_true, List.any_eq_false]
  intro b hb
  rw [Bool.not_eq_true, List.any_eq_false]
  intro c hc
  rw [Bool.not_eq_true]
  have := List.mem_range.1 ha
  have := List.mem_range.1 hb
  have := List.mem_range.1 hc
  exact circP_f (by omega)
def circle3 : List (List Int) := [[0, 1, 2], [1, 2, 0], [2, 0, 1]]
theorem circle3_facts : circF circle3 = true ∧ fbpF circle3 = -1 := by decide
theorem sumI_bd {f : Nat → Int} {n : Nat} {B : Int} (h : ∀ i, i < n → 0 ≤ f i ∧ f i ≤ B) (m : Nat) (hm : m ≤ n) : 0 ≤ sumI f m ∧ sumI f m ≤ B * m := by
  induction m with
  | zero => simp [sumI]
  | succ m ih =>
    have := ih (by omega)
    have h2 := h m (by omega)
    unfold sumI
    rw [Int.natCast_add, Int.mul_add]
    simp only [Int.natCast_one, Int.mul_one]
    omega
theorem beatTo_le (vv : List (List Int)) (i m : Nat) : beatTo vv i m ≤ m := by have := (beatTo_all vv i m).1; omega
theorem befTo_le (vv : List (List Int)) (i m : Nat) (hl : vv.length ≤ 6) : befTo vv i m ≤ 6 * m := by
  induction m with
  | zero => simp [befTo]
  | succ m ih =>
    have := befN_le vv i m
    unfold befTo
    split <;> omega
theorem beatTo_t {vv : List (List Int)} {i m : Nat} (hne : m ≠ i) (h : (vv.length : Int) < 2 * (befN vv i m : Int)) : beatTo vv i (m + 1) = beatTo vv i m + 1 := by rw [beatTo, if_neg hne, if_pos (beatB_t h)]
theorem beatTo_f {vv : List (List Int)} {i m : Nat} (hne : m ≠ i) (h : ¬ (vv.length : Int) < 2 * (befN vv i m : Int)) : beatTo vv i (m + 1) = beatTo vv i m := by rw [beatTo, if_neg hne, if_neg (by rw [beatB_f h]; simp)]; omega
theorem beatTo_s {vv : List (List Int)} {i : Nat} : beatTo vv i (i + 1) = beatTo vv i i := by rw [beatTo, if_pos rfl]; omega
theorem befTo_s {vv : List (List Int)} {i : Nat} : befTo vv i (i + 1) = befTo vv i i := by rw [befTo, if_pos rfl]; omega
theorem befTo_t {vv : List (List Int)} {i m : Nat} (hne : m ≠ i) : befTo vv i (m + 1) = befTo vv i m + befN vv i m := by rw [befTo, if_neg hne]
end Go.Proofs.Ytkejgogheonakaa
