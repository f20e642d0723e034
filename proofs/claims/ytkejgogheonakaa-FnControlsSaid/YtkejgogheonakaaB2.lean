/- Plain law of bodies: 'all joints are reached' by rounds over the limbs, and 'no limb closes a circle', are one. No program in sight. -/
import Derived.Test.YtkejgogheonakaaG1
import Derived.Test.YtkejgogheonakaaM1
namespace Go.Proofs.Ytkejgogheonakaa
open Go.RowKit

def limbE (t : Int × Int × Int) : Edge := (t.1.toNat, t.2.1.toNat)
def limbB (n : Int) (t : Int × Int × Int) : Bool := (inB t.1 0 (n - 1) && inB t.2.1 0 (n - 1)) && inB t.2.2 1 100
def treeB (l : List (Int × Int × Int)) : Bool := acyclic (l.map limbE) id
def bodyB (n : Int) (l : List (Int × Int × Int)) : Bool := (inB n 1 12 && decide ((l.length : Int) = n - 1)) && (l.all (limbB n) && treeB l)

def dGet (d : List Int) (k : Nat) : Int := d.getD k (-1)
def dSet1 (d : List Int) (a b : Nat) (len : Int) : List Int := if 0 ≤ dGet d a ∧ dGet d b < 0 then d.set b (dGet d a + len) else d
def dStep (d : List Int) (t : Int × Int × Int) : List Int := dSet1 (dSet1 d t.1.toNat t.2.1.toNat t.2.2) t.2.1.toNat t.1.toNat t.2.2
def dRound (l : List (Int × Int × Int)) (d : List Int) : List Int := l.foldl dStep d
def dRounds (l : List (Int × Int × Int)) (d : List Int) : Nat → List Int
  | 0 => d
  | k + 1 => dRound l (dRounds l d k)
def dist0 (n k : Nat) : List Int := (List.replicate n (-1)).set k 0
def distF (n : Nat) (l : List (Int × Int × Int)) (k : Nat) : List Int := dRounds l (dist0 n k) n
def knownB (x : Int) : Bool := decide (0 ≤ x)

theorem dGet_at {d : List Int} {k : Nat} (h : k < d.length) : dGet d k = d[k] := by unfold dGet; rw [List.getD_eq_getElem?_getD, List.getElem?_eq_getElem h]; rfl
theorem dGet_set {d : List Int} {b j : Nat} {x : Int} (hb : b < d.length) : dGet (d.set b x) j = if j = b then x else dGet d j := by
  unfold dGet
  rw [List.getD_eq_getElem?_getD, List.getD_eq_getElem?_getD, List.getElem?_set]
  by_cases h : b = j
  · subst h; simp [hb]
  · rw [if_neg h, if_neg (fun e => h e.symm)]
theorem dSet1_len (d : List Int) (a b : Nat) (len : Int) : (dSet1 d a b len).length = d.length := by unfold dSet1; split <;> simp
theorem dStep_len (d : List Int) (t : Int × Int × Int) : (dStep d t).length = d.length := by unfold dStep; rw [dSet1_len, dSet1_len]
theorem dRound_len (l : List (Int × Int × Int)) : ∀ d : List Int, (dRound l d).length = d.length := by
  induction l with
  | nil => intro d; rfl
  | cons t l ih => intro d; show (dRound l (dStep d t)).length = _; rw [ih, dStep_len]
theorem dRounds_len (l : List (Int × Int × Int)) (d : List Int) (k : Nat) : (dRounds l d k).length = d.length := by
  induction k with
  | zero => rfl
  | succ k ih => show (dRound l (dRounds l d k)).length = _; rw [dRound_len, ih]
/- bounds -/
def dBd (d : List Int) (B : Int) : Prop := ∀ x ∈ d, -1 ≤ x ∧ x ≤ B
theorem dBd_get {d : List Int} {B : Int} (h : dBd d B) (hB : -1 ≤ B) (k : Nat) : -1 ≤ dGet d k ∧ dGet d k ≤ B := by
  by_cases hk : k < d.length
  · rw [dGet_at hk]; exact h _ (List.getElem_mem hk)
  · unfold dGet; rw [List.getD_eq_getElem?_getD, List.getElem?_eq_none (by omega)]; simp; omega
theorem dSet1_bd {d : List Int} {a b : Nat} {len B : Int} (h : dBd d B) (hB : -1 ≤ B) (hl : 0 ≤ len ∧ len ≤ 100) : dBd (dSet1 d a b len) (B + 100) := by
  unfold dSet1
  split
  · intro x hx
    have hg := dBd_get h hB a
    rcases List.mem_or_eq_of_mem_set hx with h1 | rfl
    · have := h x h1; omega
    · omega
  · intro x hx; have := h x hx; omega
theorem dStep_bd {d : List Int} {t : Int × Int × Int} {B : Int} (h : dBd d B) (hB : -1 ≤ B) (hl : 0 ≤ t.2.2 ∧ t.2.2 ≤ 100) : dBd (dStep d t) (B + 200) := by
  have := dSet1_bd (a := t.2.1.toNat) (b := t.1.toNat) (dSet1_bd (a := t.1.toNat) (b := t.2.1.toNat) h hB hl) (by omega) hl
  rw [show B + 200 = B + 100 + 100 by omega]
  exact this
/- counts -/
theorem dSet1_cnt {d : List Int} {a b : Nat} {len : Int} (hb : b < d.length) (hl : 0 ≤ len) :
    (dSet1 d a b len = d ∧ (0 ≤ dGet d a → 0 ≤ dGet d b)) ∨ ((dSet1 d a b len).countP knownB = d.countP knownB + 1) := by
  unfold dSet1
  split
  · rename_i h
    right
    rw [List.countP_set hb]
    have h1 : knownB d[b] = false := by rw [← dGet_at hb]; unfold knownB; rw [decide_eq_false]; omega
    have h2 : knownB (dGet d a + len) = true := by unfold knownB; rw [decide_eq_true]; omega
    rw [h1, h2]; simp
  · rename_i h
    exact .inl ⟨rfl, fun ha => by omega⟩
theorem dStep_cnt {d : List Int} {t : Int × Int × Int} (ha : t.1.toNat < d.length) (hb : t.2.1.toNat < d.length) (hl : 0 ≤ t.2.2) :
    (dStep d t = d ∧ (0 ≤ dGet d t.1.toNat ↔ 0 ≤ dGet d t.2.1.toNat)) ∨ (d.countP knownB + 1 ≤ (dStep d t).countP knownB) := by
  unfold dStep
  rcases dSet1_cnt (a := t.1.toNat) hb hl with ⟨e1, h1⟩ | h1
  · rw [e1]
    rcases dSet1_cnt (a := t.2.1.toNat) ha hl with ⟨e2, h2⟩ | h2
    · exact .inl ⟨e2, h1, h2⟩
    · right; omega
  · right
    have ha' : t.1.toNat < (dSet1 d t.1.toNat t.2.1.toNat t.2.2).length := by rw [dSet1_len]; exact ha
    rcases dSet1_cnt (d := dSet1 d t.1.toNat t.2.1.toNat t.2.2) (a := t.2.1.toNat) ha' hl with ⟨e2, h2⟩ | h2
    · rw [e2]; omega
    · omega
theorem dRound_cnt (l : List (Int × Int × Int)) : ∀ d : List Int, (∀ t ∈ l, t.1.toNat < d.length ∧ t.2.1.toNat < d.length ∧ 0 ≤ t.2.2) →
    (dRound l d = d ∧ ∀ t ∈ l, (0 ≤ dGet d t.1.toNat ↔ 0 ≤ dGet d t.2.1.toNat)) ∨ (d.countP knownB + 1 ≤ (dRound l d).countP knownB) := by
  induction l with
  | nil => intro d _; exact .inl ⟨rfl, fun t h => by simp at h⟩
  | cons t l ih =>
    intro d h
    obtain ⟨ha, hb, hl⟩ := h t List.mem_cons_self
    have ih' := ih (dStep d t) (fun x hx => by rw [dStep_len]; exact h x (List.mem_cons_of_mem _ hx))
    show (dRound l (dStep d t) = d ∧ _) ∨ (_ ≤ (dRound l (dStep d t)).countP knownB)
    rcases dStep_cnt ha hb hl with ⟨e, he⟩ | he
    · rw [e] at ih' ⊢
      rcases ih' with ⟨e', h'⟩ | h'
      · refine .inl ⟨e', fun x hx => ?_⟩
        rcases List.mem_cons.1 hx with rfl | hx
        · exact he
        · exact h' x hx
      · exact .inr h'
    · right
      rcases ih' with ⟨e', _⟩ | h'
      · rw [e']; exact he
      · omega
theorem dRounds_cnt (l : List (Int × Int × Int)) (d : List Int) (h : ∀ t ∈ l, t.1.toNat < d.length ∧ t.2.1.toNat < d.length ∧ 0 ≤ t.2.2) (k : Nat) :
    (dRound l (dRounds l d k) = dRounds l d k ∧ ∀ t ∈ l, (0 ≤ dGet (dRounds l d k) t.1.toNat ↔ 0 ≤ dGet (dRounds l d k) t.2.1.toNat)) ∨ (d.countP knownB + k ≤ (dRounds l d k).countP knownB) := by
  induction k with
  | zero => right; exact Nat.le_refl _
  | succ k ih =>
    have hk := dRound_cnt l (dRounds l d k) (fun t ht => by rw [dRounds_len]; exact h t ht)
    show (dRound l (dRound l (dRounds l d k)) = _ ∧ _) ∨ (_ ≤ (dRound l (dRounds l d k)).countP knownB)
    rcases ih with ⟨e, he⟩ | hi
    · left
      refine ⟨?_, ?_⟩
      · rw [show dRounds l d (k + 1) = dRound l (dRounds l d k) from rfl, e, e]
      · rw [show dRounds l d (k + 1) = dRound l (dRounds l d k) from rfl, e]; exact he
    · rcases hk with ⟨e, he⟩ | hk
      · left
        refine ⟨?_, ?_⟩
        · rw [show dRounds l d (k + 1) = dRound l (dRounds l d k) from rfl, e, e]
        · rw [show dRounds l d (k + 1) = dRound l (dRounds l d k) from rfl, e]; exact he
      · right; omega
/- who is reached is joined with the start -/
def joined (es : List Edge) (k j : Nat) : Prop := ∀ p : Nat → Nat, (∀ e ∈ es, p e.1 = p e.2) → p j = p k
theorem dSet1_join {es : List Edge} {k : Nat} {d : List Int} {a b : Nat} {len : Int} (hb : b < d.length) (hab : joined es a b) (h : ∀ j, 0 ≤ dGet d j → joined es k j) : ∀ j, 0 ≤ dGet (dSet1 d a b len) j → joined es k j := by
  intro j hj
  unfold dSet1 at hj
  split at hj
  · rename_i hc
    rw [dGet_set hb] at hj
    by_cases e : j = b
    · subst e
      intro p hp
      rw [hab p hp]; exact h a hc.1 p hp
    · rw [if_neg e] at hj; exact h j hj
  · exact h j hj
theorem dStep_join {es : List Edge} {k : Nat} {d : List Int} {t : Int × Int × Int} (ha : t.1.toNat < d.length) (hb : t.2.1.toNat < d.length) (ht : limbE t ∈ es) (h : ∀ j, 0 ≤ dGet d j → joined es k j) : ∀ j, 0 ≤ dGet (dStep d t) j → joined es k j := by
  unfold dStep
  exact dSet1_join (by rw [dSet1_len]; exact ha) (fun p hp => hp _ ht) (dSet1_join hb (fun p hp => (hp _ ht).symm) h)
theorem dRound_join {es : List Edge} {k : Nat} (l : List (Int × Int × Int)) : ∀ d : List Int, (∀ t ∈ l, t.1.toNat < d.length ∧ t.2.1.toNat < d.length ∧ limbE t ∈ es) → (∀ j, 0 ≤ dGet d j → joined es k j) → ∀ j, 0 ≤ dGet (dRound l d) j → joined es k j := by
  induction l with
  | nil => intro d _ h; exact h
  | cons t l ih =>
    intro d hl h
    obtain ⟨ha, hb, ht⟩ := hl t List.mem_cons_self
    exact ih (dStep d t) (fun x hx => by rw [dStep_len]; exact hl x (List.mem_cons_of_mem _ hx)) (dStep_join ha hb ht h)
theorem dRounds_join {es : List Edge} {k : Nat} (l : List (Int × Int × Int)) (d : List Int) (hl : ∀ t ∈ l, t.1.toNat < d.length ∧ t.2.1.toNat < d.length ∧ limbE t ∈ es) (h : ∀ j, 0 ≤ dGet d j → joined es k j) (m : Nat) : ∀ j, 0 ≤ dGet (dRounds l d m) j → joined es k j := by
  induction m with
  | zero => exact h
  | succ m ih => exact dRound_join l _ (fun t ht => by rw [dRounds_len]; exact hl t ht) ih
/- who is known stays known -/
theorem dSet1_keep {d : List Int} {a b : Nat} {len : Int} (hb : b < d.length) (hl : 0 ≤ len) (j : Nat) (h : 0 ≤ dGet d j) : 0 ≤ dGet (dSet1 d a b len) j := by
  unfold dSet1
  split
  · rw [dGet_set hb]; split <;> omega
  · exact h
theorem dRound_keep (l : List (Int × Int × Int)) : ∀ d : List Int, (∀ t ∈ l, t.1.toNat < d.length ∧ t.2.1.toNat < d.length ∧ 0 ≤ t.2.2) → ∀ j, 0 ≤ dGet d j → 0 ≤ dGet (dRound l d) j := by
  induction l with
  | nil => intro d _ j h; exact h
  | cons t l ih =>
    intro d hl j h
    obtain ⟨ha, hb, ht⟩ := hl t List.mem_cons_self
    refine ih (dStep d t) (fun x hx => by rw [dStep_len]; exact hl x (List.mem_cons_of_mem _ hx)) j ?_
    unfold dStep
    exact dSet1_keep (by rw [dSet1_len]; exact ha) ht j (dSet1_keep hb ht j h)
theorem dRounds_keep (l : List (Int × Int × Int)) (d : List Int) (hl : ∀ t ∈ l, t.1.toNat < d.length ∧ t.2.1.toNat < d.length ∧ 0 ≤ t.2.2) (m j : Nat) (h : 0 ≤ dGet d j) : 0 ≤ dGet (dRounds l d m) j := by
  induction m with
  | zero => exact h
  | succ m ih => exact dRound_keep l _ (fun t ht => by rw [dRounds_len]; exact hl t ht) j ih
theorem dist0_len (n k : Nat) : (dist0 n k).length = n := by simp [dist0]
theorem dist0_get {n k : Nat} (hk : k < n) (j : Nat) : dGet (dist0 n k) j = if j = k then 0 else -1 := by
  unfold dist0
  rw [dGet_set (by simpa using hk)]
  congr 1
  unfold dGet
  rw [List.getD_eq_getElem?_getD, List.getElem?_replicate]
  split <;> rfl
theorem dist0_cnt {n k : Nat} (hk : k < n) : (dist0 n k).countP knownB = 1 := by
  unfold dist0
  rw [List.countP_set (by simpa using hk)]
  have h1 : (List.replicate n (-1 : Int)).countP knownB = 0 := by rw [List.countP_eq_zero]; intro a ha; rw [List.eq_of_mem_replicate ha]; decide
  rw [h1]; simp [knownB]
theorem distF_len (n : Nat) (l : List (Int × Int × Int)) (k : Nat) : (distF n l k).length = n := by unfold distF; rw [dRounds_len, dist0_len]
theorem distF_closed {n : Nat} {l : List (Int × Int × Int)} {k : Nat} (hk : k < n) (h : ∀ t ∈ l, t.1.toNat < n ∧ t.2.1.toNat < n ∧ 0 ≤ t.2.2) : ∀ t ∈ l, (0 ≤ dGet (distF n l k) t.1.toNat ↔ 0 ≤ dGet (distF n l k) t.2.1.toNat) := by
  rcases dRounds_cnt l (dist0 n k) (fun t ht => by rw [dist0_len]; exact h t ht) n with ⟨_, he⟩ | he
  · exact he
  · exfalso
    rw [dist0_cnt hk] at he
    have h1 : (distF n l k).countP knownB ≤ (distF n l k).length := List.countP_le_length
    rw [distF_len] at h1
    unfold distF at h1
    omega
theorem limbs_of {n : Nat} {l : List (Int × Int × Int)} (h : l.all (limbB n) = true) : ∀ t ∈ l, (0 ≤ t.1 ∧ t.1 ≤ (n : Int) - 1) ∧ (0 ≤ t.2.1 ∧ t.2.1 ≤ (n : Int) - 1) ∧ 1 ≤ t.2.2 ∧ t.2.2 ≤ 100 := by
  intro t ht
  have := List.all_eq_true.1 h t ht
  unfold limbB at this
  rw [Bool.and_eq_true, Bool.and_eq_true] at this
  exact ⟨inB_iff.1 this.1.1, inB_iff.1 this.1.2, inB_iff.1 this.2⟩
/-- The law: with n - 1 limbs all joints are reached iff no limb closes a circle. -/
theorem dist_tree {n : Nat} {l : List (Int × Int × Int)} (hn : 0 < n) (hl : l.length + 1 = n) (hb : l.all (limbB n) = true) : (∀ j, j < n → 0 ≤ dGet (distF n l 0) j) ↔ treeB l = true := by
  have hb' := limbs_of hb
  have hr : ∀ t ∈ l, t.1.toNat < n ∧ t.2.1.toNat < n ∧ 0 ≤ t.2.2 := fun t ht => by have := hb' t ht; omega
  refine tree_law hn (l.map limbE) (by simpa using hl) ?_ (fun j => 0 ≤ dGet (distF n l 0) j) ?_ ?_ ?_
  · intro e he
    obtain ⟨t, ht, rfl⟩ := List.mem_map.1 he
    exact ⟨(hr t ht).1, (hr t ht).2.1⟩
  · exact dRounds_keep l _ (fun t ht => by rw [dist0_len]; exact hr t ht) n 0 (by rw [dist0_get hn, if_pos rfl]; omega)
  · intro e he
    obtain ⟨t, ht, rfl⟩ := List.mem_map.1 he
    exact distF_closed hn hr t ht
  · intro j hj p hp
    refine dRounds_join (es := l.map limbE) (k := 0) l (dist0 n 0) (fun t ht => ?_) (fun i hi => ?_) n j hj p hp
    · rw [dist0_len]; exact ⟨(hr t ht).1, (hr t ht).2.1, List.mem_map.2 ⟨t, ht, rfl⟩⟩
    · rw [dist0_get hn] at hi
      by_cases e : i = 0
      · subst e; intro p _; rfl
      · rw [if_neg e] at hi; omega
theorem dist0_bd (n k : Nat) : dBd (dist0 n k) 0 := by
  intro x hx
  unfold dist0 at hx
  rcases List.mem_or_eq_of_mem_set hx with h1 | rfl
  · rw [List.eq_of_mem_replicate h1]; omega
  · omega
/-- A limb from a joint to itself closes a circle. -/
theorem acyclic_ne (es : List Edge) : ∀ p : Nat → Nat, acyclic es p = true → ∀ e ∈ es, e.1 ≠ e.2 := by
  induction es with
  | nil => intro p _ e h; simp at h
  | cons d es ih =>
    intro p h e he
    unfold acyclic at h
    rw [Bool.and_eq_true] at h
    rcases List.mem_cons.1 he with rfl | he
    · intro e'; rw [e'] at h; simp at h
    · exact ih _ h.2 e he
theorem dist_bd {l : List (Int × Int × Int)} (hl : ∀ t ∈ l, 0 ≤ t.2.2 ∧ t.2.2 ≤ 100) : ∀ (d : List Int) (B : Int), dBd d B → -1 ≤ B → dBd (dRound l d) (B + 200 * l.length) := by
  induction l with
  | nil => intro d B h _ x hx; have := h x hx; simp; omega
  | cons t l ih =>
    intro d B h hB
    have := ih (fun x hx => hl x (List.mem_cons_of_mem _ hx)) (dStep d t) (B + 200) (dStep_bd h hB (hl t List.mem_cons_self)) (by omega)
    rw [List.length_cons]
    rw [show B + 200 * ((l.length + 1 : Nat) : Int) = B + 200 + 200 * (l.length : Int) by omega]
    exact this
theorem dists_bd {l : List (Int × Int × Int)} (hl : ∀ t ∈ l, 0 ≤ t.2.2 ∧ t.2.2 ≤ 100) (hlen : l.length ≤ 11) (d : List Int) (hd : dBd d 0) (k : Nat) : dBd (dRounds l d k) (2200 * k) := by
  induction k with
  | zero => intro x hx; have := hd x hx; simp; omega
  | succ k ih =>
    intro x hx
    have := dist_bd hl (dRounds l d k) (2200 * k) ih (by omega) x hx
    omega
end Go.Proofs.Ytkejgogheonakaa
