/- Plain law: with n - 1 limbs over n joints, 'all joints are reached' and 'no limb closes a circle' are one. No program in sight. -/
import Derived.Test.YtkejgogheonakaaA1
namespace Go.Proofs.Ytkejgogheonakaa

/-- A limb's two ends. -/
abbrev Edge := Nat × Nat
/-- Parts, relabelled: whoever was in part y is now in part x. -/
def relabel (p : Nat → Nat) (x y : Nat) : Nat → Nat := fun j => if p j = y then x else p j
def uniStep (p : Nat → Nat) (e : Edge) : Nat → Nat := relabel p (p e.1) (p e.2)
def uniFold (es : List Edge) (p : Nat → Nat) : Nat → Nat := es.foldl uniStep p
/-- No limb closes a circle. -/
def acyclic : List Edge → (Nat → Nat) → Bool
  | [], _ => true
  | e :: es, p => !(p e.1 == p e.2) && acyclic es (uniStep p e)

theorem uniStep_ends (p : Nat → Nat) (e : Edge) : uniStep p e e.1 = uniStep p e e.2 := by
  unfold uniStep relabel; split <;> simp_all
theorem uniStep_mono (p : Nat → Nat) (e : Edge) {a b : Nat} (h : p a = p b) : uniStep p e a = uniStep p e b := by
  unfold uniStep relabel; rw [h]
theorem uniFold_mono (es : List Edge) : ∀ (p : Nat → Nat) {a b : Nat}, p a = p b → uniFold es p a = uniFold es p b := by
  induction es with
  | nil => intro p a b h; exact h
  | cons e es ih => intro p a b h; exact ih _ (uniStep_mono p e h)
theorem uniFold_ends (es : List Edge) : ∀ (p : Nat → Nat) (e : Edge), e ∈ es → uniFold es p e.1 = uniFold es p e.2 := by
  induction es with
  | nil => intro p e h; simp at h
  | cons d es ih =>
    intro p e h
    rcases List.mem_cons.1 h with rfl | h
    · exact uniFold_mono es _ (uniStep_ends p e)
    · exact ih _ e h
/-- A set that is closed under the limbs is a union of parts. -/
theorem uniFold_closed (R : Nat → Prop) (es : List Edge) : ∀ (p : Nat → Nat), (∀ e ∈ es, (R e.1 ↔ R e.2)) → (∀ a b, p a = p b → (R a ↔ R b)) → ∀ a b, uniFold es p a = uniFold es p b → (R a ↔ R b) := by
  induction es with
  | nil => intro p _ h a b hab; exact h a b hab
  | cons e es ih =>
    intro p hc h
    refine ih _ (fun d hd => hc d (List.mem_cons_of_mem _ hd)) (fun a b hab => ?_)
    have he := hc e List.mem_cons_self
    unfold uniStep relabel at hab
    split at hab <;> split at hab
    · rename_i h1 h2; exact h a b (h1.trans h2.symm)
    · rename_i h1 h2
      exact (h a e.2 h1).trans (he.symm.trans (h e.1 b hab))
    · rename_i h1 h2
      exact (h a e.1 hab).trans (he.trans (h e.2 b h2.symm))
    · exact h a b hab

/-- The labels that occur among the first n joints. -/
def img (n : Nat) (p : Nat → Nat) : List Nat := (List.range n).filter (fun v => (List.range n).any (fun j => p j == v))
theorem mem_img {n : Nat} {p : Nat → Nat} {v : Nat} : v ∈ img n p ↔ v < n ∧ ∃ j, j < n ∧ p j = v := by
  unfold img
  rw [List.mem_filter, List.any_eq_true]
  simp
theorem img_nodup (n : Nat) (p : Nat → Nat) : (img n p).Nodup := List.Nodup.sublist List.filter_sublist List.nodup_range
theorem img_step {n : Nat} {p : Nat → Nat} {e : Edge} (h1 : e.1 < n) (h2 : e.2 < n) (hp : ∀ j, j < n → p j < n) (hne : p e.1 ≠ p e.2) :
    (img n (uniStep p e)).length + 1 = (img n p).length := by
  have hy : p e.2 ∈ img n p := mem_img.2 ⟨hp _ h2, e.2, h2, rfl⟩
  have hperm : (img n p).Perm (p e.2 :: img n (uniStep p e)) := by
    rw [List.perm_ext_iff_of_nodup (img_nodup _ _)]
    · intro v
      rw [List.mem_cons, mem_img, mem_img]
      constructor
      · rintro ⟨hv, j, hj, rfl⟩
        by_cases hc : p j = p e.2
        · exact .inl hc
        · exact .inr ⟨hv, j, hj, by unfold uniStep relabel; rw [if_neg hc]⟩
      · rintro (rfl | ⟨hv, j, hj, hjv⟩)
        · exact ⟨hp _ h2, e.2, h2, rfl⟩
        · unfold uniStep relabel at hjv
          split at hjv
          · exact ⟨hv, e.1, h1, hjv⟩
          · exact ⟨hv, j, hj, hjv⟩
    · rw [List.nodup_cons]
      refine ⟨fun hm => ?_, img_nodup _ _⟩
      obtain ⟨_, j, hj, hjv⟩ := mem_img.1 hm
      unfold uniStep relabel at hjv
      split at hjv
      · exact hne hjv
      · rename_i hc; exact hc hjv
  have := hperm.length_eq
  simp at this
  omega
theorem img_same {p : Nat → Nat} {e : Edge} (he : p e.1 = p e.2) : uniStep p e = p := by
  funext j; unfold uniStep relabel; split
  · rename_i h; rw [h, he]
  · rfl
theorem uniStep_lt {n : Nat} {p : Nat → Nat} {e : Edge} (h1 : e.1 < n) (hp : ∀ j, j < n → p j < n) : ∀ j, j < n → uniStep p e j < n := by
  intro j hj; unfold uniStep relabel; split
  · exact hp _ h1
  · exact hp _ hj
/-- The number of parts falls by one a limb, or a circle is closed. -/
theorem img_fold {n : Nat} (es : List Edge) : ∀ (p : Nat → Nat), (∀ e ∈ es, e.1 < n ∧ e.2 < n) → (∀ j, j < n → p j < n) →
    (img n p).length ≤ (img n (uniFold es p)).length + es.length ∧ (acyclic es p = true ↔ (img n (uniFold es p)).length + es.length = (img n p).length) := by
  induction es with
  | nil => intro p _ _; simp [uniFold, acyclic]
  | cons e es ih =>
    intro p he hp
    obtain ⟨h1, h2⟩ := he e List.mem_cons_self
    obtain ⟨i1, i2⟩ := ih (uniStep p e) (fun d hd => he d (List.mem_cons_of_mem _ hd)) (uniStep_lt h1 hp)
    have hf : uniFold (e :: es) p = uniFold es (uniStep p e) := rfl
    rw [hf, List.length_cons]
    unfold acyclic
    by_cases hc : p e.1 = p e.2
    · rw [img_same hc] at i1 i2 ⊢
      refine ⟨by omega, ?_⟩
      rw [hc]
      simp
      omega
    · have hs := img_step h1 h2 hp hc
      refine ⟨by omega, ?_⟩
      rw [Bool.and_eq_true, i2]
      constructor
      · rintro ⟨_, h⟩; omega
      · intro h; exact ⟨by simp [hc], by omega⟩
theorem img_id (n : Nat) : (img n id).length = n := by
  have : img n id = List.range n := by
    unfold img
    rw [List.filter_eq_self]
    intro v hv
    rw [List.any_eq_true]
    exact ⟨v, hv, by simp⟩
  rw [this, List.length_range]
/-- One part alone: all have one label. -/
theorem img_one {n : Nat} {p : Nat → Nat} (hn : 0 < n) (hp : ∀ j, j < n → p j < n) : (img n p).length = 1 ↔ ∀ j, j < n → p j = p 0 := by
  constructor
  · intro h j hj
    obtain ⟨x, hx⟩ := List.length_eq_one_iff.1 h
    have h1 : p j ∈ img n p := mem_img.2 ⟨hp _ hj, j, hj, rfl⟩
    have h2 : p 0 ∈ img n p := mem_img.2 ⟨hp _ hn, 0, hn, rfl⟩
    rw [hx] at h1 h2
    simp at h1 h2
    rw [h1, h2]
  · intro h
    have hall : ∀ v ∈ img n p, v = p 0 := by
      intro v hv
      obtain ⟨_, j, hj, rfl⟩ := mem_img.1 hv
      exact h j hj
    have h2 : p 0 ∈ img n p := mem_img.2 ⟨hp _ hn, 0, hn, rfl⟩
    have hnd := img_nodup n p
    match hi : img n p with
    | [] => rw [hi] at h2; simp at h2
    | [x] => rfl
    | x :: y :: r =>
      rw [hi] at hall hnd
      have e1 := hall x (by simp)
      have e2 := hall y (by simp)
      rw [e1, e2] at hnd
      simp at hnd
/-- The law: R holds 0 and is closed under n - 1 limbs, and whoever is in R is joined with 0: then R is all iff no circle is closed. -/
theorem tree_law {n : Nat} (hn : 0 < n) (es : List Edge) (hl : es.length + 1 = n) (he : ∀ e ∈ es, e.1 < n ∧ e.2 < n) (R : Nat → Prop)
    (h0 : R 0) (hc : ∀ e ∈ es, (R e.1 ↔ R e.2)) (hr : ∀ j, R j → ∀ p : Nat → Nat, (∀ e ∈ es, p e.1 = p e.2) → p j = p 0) :
    (∀ j, j < n → R j) ↔ acyclic es id = true := by
  obtain ⟨i1, i2⟩ := img_fold (n := n) es id he (fun j hj => hj)
  rw [img_id] at i1 i2
  have hfl : ∀ (es : List Edge) (p : Nat → Nat), (∀ e ∈ es, e.1 < n ∧ e.2 < n) → (∀ j, j < n → p j < n) → ∀ j, j < n → uniFold es p j < n := by
    intro es
    induction es with
    | nil => intro p _ hp; exact hp
    | cons e es ih => intro p he hp; exact ih _ (fun d hd => he d (List.mem_cons_of_mem _ hd)) (uniStep_lt (he e List.mem_cons_self).1 hp)
  have hone := img_one hn (hfl es id he (fun j hj => hj))
  have hpos : 0 < (img n (uniFold es id)).length := List.length_pos_of_mem (mem_img.2 ⟨hfl es id he (fun j hj => hj) 0 hn, 0, hn, rfl⟩)
  rw [i2, show (img n (uniFold es id)).length + es.length = n ↔ (img n (uniFold es id)).length = 1 by omega, hone]
  constructor
  · intro h j hj
    exact hr j (h j hj) _ (fun e hm => uniFold_ends es id e hm)
  · intro h j hj
    exact (uniFold_closed R es id hc (fun a b hab => by rw [show a = b from hab]) j 0 (h j hj)).2 h0
end Go.Proofs.Ytkejgogheonakaa
