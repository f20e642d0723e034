/- Several texts in one: Contracts of the small functions on plain numbers: within, l01In, ThreadOk, PullThread, eqThread, toThread. No conditions beside well-formed ints. Plain law: with n - 1 limbs over n joints, 'all joints are reached' and 'no limb closes a circle' are one. No program in sight. Plain lists of numbers: ascending, inserted, sorted. No program in sight. Words for memory: slices that can be read, slices that the call owns; lists of flat records in them. No program in sight. Plain law of bodies: 'all joints are reached' by rounds over the limbs, and 'no limb closes a circle', are one. No program in sight. More words for memory: records that are marked, one after the other; stores into a row. No program in sight. append onto a row of the call's own, from whatever slice that can be read. Over any program. Footprints: which blocks a value owns; a step that writes into the blocks of a footprint alone. No program in sight. Words for structs by value: sizes. No program in sight. Votes, in plain words: the place of a number in a list, points, who is before whom. No program in sight. -/
import Derived.Test.YtomghkfkbpkbdaaRows
import Derived.WalkKit
import Derived.WalkSpells
import Derived.WalkLawsBesides
import Derived.Lib.Hide
namespace Go.Proofs.Ytomghkfkbpkbdaa
open Go.RowKit

/-- An int of 64 bits. -/
def I64 (n : Int) : Prop := -9223372036854775808 ≤ n ∧ n ≤ 9223372036854775807

theorem bl_refl (w : World) : Below w.heap.size w w := Below.refl _ _
theorem bl_trans {a b c : World} (h : Below a.heap.size a b) (k : Below b.heap.size b c) : Below a.heap.size a c := h.trans (k.mono h.size)
theorem ret_bool {a b : Bool} (h : a = b) : Ending.returned (.bool a) = .returned (.bool b) := by rw [h]
theorem ret_int {a b : Int} (h : a = b) : Ending.returned (.int .i64 a) = .returned (.int .i64 b) := by rw [h]

def inB (n a b : Int) : Bool := decide (a ≤ n) && decide (n ≤ b)
theorem inB_iff {n a b : Int} : inB n a b = true ↔ a ≤ n ∧ n ≤ b := by simp [inB]
theorem inB_false {n a b : Int} : inB n a b = false ↔ ¬ (a ≤ n ∧ n ≤ b) := by rw [← inB_iff]; simp

theorem within_any (n a b : Int) (w : World) :
    Calls Try.prog 33 #[.int .i64 n, .int .i64 a, .int .i64 b] w fun e w' => e = .returned (.bool (inB n a b)) ∧ w = w' := by
  by_cases h1 : a ≤ n <;> by_cases h2 : n ≤ b
  all_goals
    have H : inB n a b = (decide (a ≤ n) && decide (n ≤ b)) := rfl
    simp only [h1, h2, decide_true, decide_false, Bool.and_self, Bool.and_true, Bool.and_false] at H
    have H' := Lib.hid H
    clear H
    go_enter Try.func33, Try.ntmps33
    go_wp2
    go_ret
    exact ⟨by rw [H'.out]; rfl, rfl⟩
theorem l01In_any (n a b : Int) (w : World) :
    Calls Try.prog 70 #[.int .i64 n, .int .i64 a, .int .i64 b] w fun e w' => e = .returned (.bool (inB n a b)) ∧ w = w' := by
  by_cases h1 : a ≤ n <;> by_cases h2 : n ≤ b
  all_goals
    have H : inB n a b = (decide (a ≤ n) && decide (n ≤ b)) := rfl
    simp only [h1, h2, decide_true, decide_false, Bool.and_self, Bool.and_true, Bool.and_false] at H
    have H' := Lib.hid H
    clear H
    go_enter Try.func70, Try.ntmps70
    go_wp2
    go_ret
    exact ⟨by rw [H'.out]; rfl, rfl⟩

/-- A contract of a Bool function, taken in two ways; the fact is hidden from the walk. -/
theorem two {P : Program} {f : FuncId} {args : Array Value} {w : World} {c : Bool} {R : Ending → World → Prop}
    (h : Calls P f args w fun e w' => e = .returned (.bool c) ∧ w = w')
    (k1 : Hid (c = true) → R (.returned (.bool true)) w) (k2 : Hid (c = false) → R (.returned (.bool false)) w) : Calls P f args w R := by
  refine h.mono ?_
  rintro e w' ⟨rfl, rfl⟩
  cases c
  · exact k2 rfl
  · exact k1 rfl
/-- The same, of a range: the bounds are laid as inequalities. -/
theorem twoI {P : Program} {f : FuncId} {args : Array Value} {w : World} {n a b : Int} {R : Ending → World → Prop}
    (h : Calls P f args w fun e w' => e = .returned (.bool (inB n a b)) ∧ w = w')
    (k1 : Hid (inB n a b = true) → a ≤ n → n ≤ b → R (.returned (.bool true)) w) (k2 : Hid (inB n a b = false) → R (.returned (.bool false)) w) : Calls P f args w R :=
  two h (fun hc => k1 hc (inB_iff.1 hc.out).1 (inB_iff.1 hc.out).2) k2
/-- The same, of one that makes memory. -/
theorem twoB {P : Program} {f : FuncId} {args : Array Value} {w : World} {c : Bool} {R : Ending → World → Prop}
    (h : Calls P f args w fun e w' => e = .returned (.bool c) ∧ Below w.heap.size w w')
    (k1 : ∀ w', Hid (c = true) → Below w.heap.size w w' → R (.returned (.bool true)) w') (k2 : ∀ w', Hid (c = false) → Below w.heap.size w w' → R (.returned (.bool false)) w') : Calls P f args w R := by
  refine h.mono ?_
  rintro e w' ⟨rfl, hb⟩
  cases c
  · exact k2 w' rfl hb
  · exact k1 w' rfl hb
theorem bcell {W w1 : World} (hb : Below W.heap.size W w1) : (∀ b o, b < W.heap.size → w1.cell? ⟨b, o, none⟩ = W.cell? ⟨b, o, none⟩) ∧ (∀ b o, b < W.heap.size → w1.frozen? ⟨b, o, none⟩ = W.frozen? ⟨b, o, none⟩) :=
  ⟨fun b o h => hb.cell (p := ⟨b, o, none⟩) h, fun b o h => hb.frozen (p := ⟨b, o, none⟩) h⟩
theorem carry {w w' : World} {b o : Nat} {v : Value} (hb : Below w.heap.size w w') (h : w.cell? ⟨b, o, none⟩ = some v) : w'.cell? ⟨b, o, none⟩ = some v :=
  (hb.cell (p := ⟨b, o, none⟩) (World.block_lt_of_cell? w _ h)).trans h
theorem cell_alloc {w : World} {p : Addr} {v : Value} (o : Obj) (h : w.cell? p = some v) : (w.alloc o).cell? p = some v := (World.cell?_alloc_lt w o p (World.block_lt_of_cell? w _ h)).trans h
theorem carryF {w w' : World} {b o : Nat} {v : Value} (hb : Below w.heap.size w w') (h : w.cell? ⟨b, o, none⟩ = some v) (hf : w.frozen? ⟨b, o, none⟩ = false) : w'.frozen? ⟨b, o, none⟩ = false :=
  (hb.frozen (p := ⟨b, o, none⟩) (World.block_lt_of_cell? w _ h)).trans hf
end Go.Proofs.Ytomghkfkbpkbdaa

namespace Go.Proofs.Ytomghkfkbpkbdaa

/-- A limb's two ends. -/
abbrev Edge := Nat × Nat
/-- Parts, relabelled: whoever was in part y is now in part x. -/
def relabel (p : Nat → Nat) (x y : Nat) : Nat → Nat := fun j => if p j = y then x else p j
def uniStep (p : Nat → Nat) (e : Edge) : Nat → Nat := relabel p (p e.1) (p e.2)
def uniFold (es : List Edge) (p : Nat → Nat) : Nat → Nat := es.foldl uniStep p
/-- No limb closes a circle. -/
def acyclic : List Edge → (Nat → Nat) → Bool
  | [], _ => true
  | e :: es, p => !(p e.1 == p e.2) && acyclic es (uniStep p e)

theorem uniStep_ends (p : Nat → Nat) (e : Edge) : uniStep p e e.1 = uniStep p e e.2 := by
  unfold uniStep relabel; split <;> simp_all
theorem uniStep_mono (p : Nat → Nat) (e : Edge) {a b : Nat} (h : p a = p b) : uniStep p e a = uniStep p e b := by
  unfold uniStep relabel; rw [h]
theorem uniFold_mono (es : List Edge) : ∀ (p : Nat → Nat) {a b : Nat}, p a = p b → uniFold es p a = uniFold es p b := by
  induction es with
  | nil => intro p a b h; exact h
  | cons e es ih => intro p a b h; exact ih _ (uniStep_mono p e h)
theorem uniFold_ends (es : List Edge) : ∀ (p : Nat → Nat) (e : Edge), e ∈ es → uniFold es p e.1 = uniFold es p e.2 := by
  induction es with
  | nil => intro p e h; simp at h
  | cons d es ih =>
    intro p e h
    rcases List.mem_cons.1 h with rfl | h
    · exact uniFold_mono es _ (uniStep_ends p e)
    · exact ih _ e h
/-- A set that is closed under the limbs is a union of parts. -/
theorem uniFold_closed (R : Nat → Prop) (es : List Edge) : ∀ (p : Nat → Nat), (∀ e ∈ es, (R e.1 ↔ R e.2)) → (∀ a b, p a = p b → (R a ↔ R b)) → ∀ a b, uniFold es p a = uniFold es p b → (R a ↔ R b) := by
  induction es with
  | nil => intro p _ h a b hab; exact h a b hab
  | cons e es ih =>
    intro p hc h
    refine ih _ (fun d hd => hc d (List.mem_cons_of_mem _ hd)) (fun a b hab => ?_)
    have he := hc e List.mem_cons_self
    unfold uniStep relabel at hab
    split at hab <;> split at hab
    · rename_i h1 h2; exact h a b (h1.trans h2.symm)
    · rename_i h1 h2
      exact (h a e.2 h1).trans (he.symm.trans (h e.1 b hab))
    · rename_i h1 h2
      exact (h a e.1 hab).trans (he.trans (h e.2 b h2.symm))
    · exact h a b hab

/-- The labels that occur among the first n joints. -/
def img (n : Nat) (p : Nat → Nat) : List Nat := (List.range n).filter (fun v => (List.range n).any (fun j => p j == v))
theorem mem_img {n : Nat} {p : Nat → Nat} {v : Nat} : v ∈ img n p ↔ v < n ∧ ∃ j, j < n ∧ p j = v := by
  unfold img
  rw [List.mem_filter, List.any_eq_true]
  simp
theorem img_nodup (n : Nat) (p : Nat → Nat) : (img n p).Nodup := List.Nodup.sublist List.filter_sublist List.nodup_range
theorem img_step {n : Nat} {p : Nat → Nat} {e : Edge} (h1 : e.1 < n) (h2 : e.2 < n) (hp : ∀ j, j < n → p j < n) (hne : p e.1 ≠ p e.2) :
    (img n (uniStep p e)).length + 1 = (img n p).length := by
  have hy : p e.2 ∈ img n p := mem_img.2 ⟨hp _ h2, e.2, h2, rfl⟩
  have hperm : (img n p).Perm (p e.2 :: img n (uniStep p e)) := by
    rw [List.perm_ext_iff_of_nodup (img_nodup _ _)]
    · intro v
      rw [List.mem_cons, mem_img, mem_img]
      constructor
      · rintro ⟨hv, j, hj, rfl⟩
        by_cases hc : p j = p e.2
        · exact .inl hc
        · exact .inr ⟨hv, j, hj, by unfold uniStep relabel; rw [if_neg hc]⟩
      · rintro (rfl | ⟨hv, j, hj, hjv⟩)
        · exact ⟨hp _ h2, e.2, h2, rfl⟩
        · unfold uniStep relabel at hjv
          split at hjv
          · exact ⟨hv, e.1, h1, hjv⟩
          · exact ⟨hv, j, hj, hjv⟩
    · rw [List.nodup_cons]
      refine ⟨fun hm => ?_, img_nodup _ _⟩
      obtain ⟨_, j, hj, hjv⟩ := mem_img.1 hm
      unfold uniStep relabel at hjv
      split at hjv
      · exact hne hjv
      · rename_i hc; exact hc hjv
  have := hperm.length_eq
  simp at this
  omega
theorem img_same {p : Nat → Nat} {e : Edge} (he : p e.1 = p e.2) : uniStep p e = p := by
  funext j; unfold uniStep relabel; split
  · rename_i h; rw [h, he]
  · rfl
theorem uniStep_lt {n : Nat} {p : Nat → Nat} {e : Edge} (h1 : e.1 < n) (hp : ∀ j, j < n → p j < n) : ∀ j, j < n → uniStep p e j < n := by
  intro j hj; unfold uniStep relabel; split
  · exact hp _ h1
  · exact hp _ hj
/-- The number of parts falls by one a limb, or a circle is closed. -/
theorem img_fold {n : Nat} (es : List Edge) : ∀ (p : Nat → Nat), (∀ e ∈ es, e.1 < n ∧ e.2 < n) → (∀ j, j < n → p j < n) →
    (img n p).length ≤ (img n (uniFold es p)).length + es.length ∧ (acyclic es p = true ↔ (img n (uniFold es p)).length + es.length = (img n p).length) := by
  induction es with
  | nil => intro p _ _; simp [uniFold, acyclic]
  | cons e es ih =>
    intro p he hp
    obtain ⟨h1, h2⟩ := he e List.mem_cons_self
    obtain ⟨i1, i2⟩ := ih (uniStep p e) (fun d hd => he d (List.mem_cons_of_mem _ hd)) (uniStep_lt h1 hp)
    have hf : uniFold (e :: es) p = uniFold es (uniStep p e) := rfl
    rw [hf, List.length_cons]
    unfold acyclic
    by_cases hc : p e.1 = p e.2
    · rw [img_same hc] at i1 i2 ⊢
      refine ⟨by omega, ?_⟩
      rw [hc]
      simp
      omega
    · have hs := img_step h1 h2 hp hc
      refine ⟨by omega, ?_⟩
      rw [Bool.and_eq_true, i2]
      constructor
      · rintro ⟨_, h⟩; omega
      · intro h; exact ⟨by simp [hc], by omega⟩
theorem img_id (n : Nat) : (img n id).length = n := by
  have : img n id = List.range n := by
    unfold img
    rw [List.filter_eq_self]
    intro v hv
    rw [List.any_eq_true]
    exact ⟨v, hv, by simp⟩
  rw [this, List.length_range]
/-- One part alone: all have one label. -/
theorem img_one {n : Nat} {p : Nat → Nat} (hn : 0 < n) (hp : ∀ j, j < n → p j < n) : (img n p).length = 1 ↔ ∀ j, j < n → p j = p 0 := by
  constructor
  · intro h j hj
    obtain ⟨x, hx⟩ := List.length_eq_one_iff.1 h
    have h1 : p j ∈ img n p := mem_img.2 ⟨hp _ hj, j, hj, rfl⟩
    have h2 : p 0 ∈ img n p := mem_img.2 ⟨hp _ hn, 0, hn, rfl⟩
    rw [hx] at h1 h2
    simp at h1 h2
    rw [h1, h2]
  · intro h
    have hall : ∀ v ∈ img n p, v = p 0 := by
      intro v hv
      obtain ⟨_, j, hj, rfl⟩ := mem_img.1 hv
      exact h j hj
    have h2 : p 0 ∈ img n p := mem_img.2 ⟨hp _ hn, 0, hn, rfl⟩
    have hnd := img_nodup n p
    match hi : img n p with
    | [] => rw [hi] at h2; simp at h2
    | [x] => rfl
    | x :: y :: r =>
      rw [hi] at hall hnd
      have e1 := hall x (by simp)
      have e2 := hall y (by simp)
      rw [e1, e2] at hnd
      simp at hnd
/-- The law: R holds 0 and is closed under n - 1 limbs, and whoever is in R is joined with 0: then R is all iff no circle is closed. -/
theorem tree_law {n : Nat} (hn : 0 < n) (es : List Edge) (hl : es.length + 1 = n) (he : ∀ e ∈ es, e.1 < n ∧ e.2 < n) (R : Nat → Prop)
    (h0 : R 0) (hc : ∀ e ∈ es, (R e.1 ↔ R e.2)) (hr : ∀ j, R j → ∀ p : Nat → Nat, (∀ e ∈ es, p e.1 = p e.2) → p j = p 0) :
    (∀ j, j < n → R j) ↔ acyclic es id = true := by
  obtain ⟨i1, i2⟩ := img_fold (n := n) es id he (fun j hj => hj)
  rw [img_id] at i1 i2
  have hfl : ∀ (es : List Edge) (p : Nat → Nat), (∀ e ∈ es, e.1 < n ∧ e.2 < n) → (∀ j, j < n → p j < n) → ∀ j, j < n → uniFold es p j < n := by
    intro es
    induction es with
    | nil => intro p _ hp; exact hp
    | cons e es ih => intro p he hp; exact ih _ (fun d hd => he d (List.mem_cons_of_mem _ hd)) (uniStep_lt (he e List.mem_cons_self).1 hp)
  have hone := img_one hn (hfl es id he (fun j hj => hj))
  have hpos : 0 < (img n (uniFold es id)).length := List.length_pos_of_mem (mem_img.2 ⟨hfl es id he (fun j hj => hj) 0 hn, 0, hn, rfl⟩)
  rw [i2, show (img n (uniFold es id)).length + es.length = n ↔ (img n (uniFold es id)).length = 1 by omega, hone]
  constructor
  · intro h j hj
    exact hr j (h j hj) _ (fun e hm => uniFold_ends es id e hm)
  · intro h j hj
    exact (uniFold_closed R es id hc (fun a b hab => by rw [show a = b from hab]) j 0 (h j hj)).2 h0
end Go.Proofs.Ytomghkfkbpkbdaa

namespace Go.Proofs.Ytomghkfkbpkbdaa

def allB (a b : Int) (l : List Int) : Bool := l.all (fun n => inB n a b)
/-- ascending at place i -/
def ascAt (l : List Int) (i : Nat) : Bool := i == 0 || decide (l.getD (i - 1) 0 < l.getD i 0)
def ascB (l : List Int) : Bool := (List.range l.length).all (ascAt l)
def strictB (l : List Int) (a b : Int) : Bool := ascB l && allB a b l
def putF (n : Int) : List Int → List Int
  | [] => [n]
  | x :: xs => if n ≤ x then n :: x :: xs else x :: putF n xs
def sortF (l : List Int) : List Int := l.foldl (fun acc x => putF x acc) []
def orderB (l : List Int) : Bool := inB l.length 1 7 && strictB (sortF l) 0 (l.length - 1)

theorem putF_len (n : Int) (l : List Int) : (putF n l).length = l.length + 1 := by
  induction l with
  | nil => rfl
  | cons x xs ih => unfold putF; split <;> simp [ih]
theorem putF_perm (n : Int) (l : List Int) : (putF n l).Perm (n :: l) := by
  induction l with
  | nil => exact .refl _
  | cons x xs ih =>
    unfold putF; split
    · exact .refl _
    · exact (List.Perm.cons x ih).trans (List.Perm.swap n x xs)
theorem foldPut_perm (l : List Int) : ∀ acc : List Int, (l.foldl (fun acc x => putF x acc) acc).Perm (acc ++ l) := by
  induction l with
  | nil => intro acc; simp
  | cons x xs ih =>
    intro acc
    refine (ih _).trans ?_
    refine (List.Perm.append_right xs (putF_perm x acc)).trans ?_
    exact (List.perm_middle (a := x) (l₁ := acc) (l₂ := xs)).symm
theorem sortF_perm (l : List Int) : (sortF l).Perm l := by have := foldPut_perm l []; simpa [sortF] using this
theorem sortF_len (l : List Int) : (sortF l).length = l.length := (sortF_perm l).length_eq
theorem putF_sorted (n : Int) (l : List Int) (h : l.Pairwise (· ≤ ·)) : (putF n l).Pairwise (· ≤ ·) := by
  induction l with
  | nil => simp [putF]
  | cons x xs ih =>
    rw [List.pairwise_cons] at h
    unfold putF; split
    · rename_i hle
      rw [List.pairwise_cons, List.pairwise_cons]
      refine ⟨fun y hy => ?_, h⟩
      rcases List.mem_cons.1 hy with rfl | hy
      · exact hle
      · exact Int.le_trans hle (h.1 y hy)
    · rename_i hle
      rw [List.pairwise_cons]
      refine ⟨fun y hy => ?_, ih h.2⟩
      rcases List.mem_cons.1 ((putF_perm n xs).mem_iff.1 hy) with rfl | hy
      · omega
      · exact h.1 y hy
theorem foldPut_sorted (l : List Int) : ∀ acc : List Int, acc.Pairwise (· ≤ ·) → (l.foldl (fun acc x => putF x acc) acc).Pairwise (· ≤ ·) := by
  induction l with
  | nil => intro acc h; exact h
  | cons x xs ih => intro acc h; exact ih _ (putF_sorted x acc h)
theorem sortF_sorted (l : List Int) : (sortF l).Pairwise (· ≤ ·) := foldPut_sorted l [] List.Pairwise.nil
theorem ascB_iff (l : List Int) : ascB l = true ↔ ∀ i, i + 1 < l.length → l.getD i 0 < l.getD (i + 1) 0 := by
  unfold ascB
  rw [List.all_eq_true]
  constructor
  · intro h i hi
    have := h (i + 1) (by simpa using hi)
    simpa [ascAt] using this
  · intro h i hi
    have hi' : i < l.length := by simpa using hi
    cases i with
    | zero => rfl
    | succ i => simp only [ascAt]; have := h i hi'; simp at this ⊢; exact this
theorem asc_of_pairwise (l : List Int) (h : l.Pairwise (· < ·)) : ascB l = true := by
  rw [ascB_iff]
  intro i hi
  have := List.pairwise_iff_getElem.1 h i (i + 1) (by omega) hi (by omega)
  simpa [List.getD_eq_getElem?_getD, List.getElem?_eq_getElem (show i < l.length by omega), List.getElem?_eq_getElem hi] using this
theorem pairwise_of_asc (l : List Int) (h : ascB l = true) : l.Pairwise (· < ·) := by
  rw [ascB_iff] at h
  rw [List.pairwise_iff_getElem]
  have key : ∀ d i, i + d + 1 < l.length → l.getD i 0 < l.getD (i + d + 1) 0 := by
    intro d
    induction d with
    | zero => intro i hi; exact h i hi
    | succ d ih => intro i hi; exact Int.lt_trans (ih i (by omega)) (h (i + d + 1) (by omega))
  intro i j hi hj hij
  have := key (j - i - 1) i (by omega)
  rw [show i + (j - i - 1) + 1 = j by omega] at this
  simpa [List.getD_eq_getElem?_getD, List.getElem?_eq_getElem hi, List.getElem?_eq_getElem hj] using this
theorem sorted_nodup_iff (l : List Int) (h : l.Pairwise (· ≤ ·)) : l.Pairwise (· < ·) ↔ l.Nodup := by
  constructor
  · intro h'; exact h'.imp (fun hab => by omega)
  · intro hn
    have := List.Pairwise.and h hn
    exact this.imp (fun ⟨h1, h2⟩ => by omega)
theorem orderB_iff (l : List Int) : orderB l = true ↔ (1 ≤ l.length ∧ l.length ≤ 7) ∧ l.Nodup ∧ ∀ n ∈ l, 0 ≤ n ∧ n ≤ (l.length : Int) - 1 := by
  unfold orderB strictB allB
  rw [Bool.and_eq_true, Bool.and_eq_true, inB_iff, List.all_eq_true]
  have h1 : ascB (sortF l) = true ↔ l.Nodup := by
    rw [← (sortF_perm l).nodup_iff, ← sorted_nodup_iff _ (sortF_sorted l)]
    exact ⟨pairwise_of_asc _, asc_of_pairwise _⟩
  rw [h1]
  constructor
  · rintro ⟨a, b, c⟩
    exact ⟨by omega, b, fun n hn => inB_iff.1 (c n ((sortF_perm l).mem_iff.2 hn))⟩
  · rintro ⟨a, b, c⟩
    exact ⟨by omega, b, fun n hn => inB_iff.2 (c n ((sortF_perm l).mem_iff.1 hn))⟩
end Go.Proofs.Ytomghkfkbpkbdaa

namespace Go.Proofs.Ytomghkfkbpkbdaa
open Go.RowKit

section
variable {α : Type} {f : α → List Value} {size : Nat}
theorem len_flat (hf : ∀ a, (f a).length = size) (l : List α) : (l.flatMap f).length = l.length * size := by
  induction l with
  | nil => simp
  | cons a l ih => rw [List.flatMap_cons, List.length_append, hf, ih, List.length_cons, Nat.add_mul]; omega
theorem get_flat (hf : ∀ a, (f a).length = size) (l : List α) (k : Nat) (hk : k < l.length) (j : Nat) (hj : j < size) :
    (l.flatMap f)[k * size + j]? = (f l[k])[j]? := by
  induction l generalizing k with
  | nil => simp at hk
  | cons a l ih =>
    rw [List.flatMap_cons]
    cases k with
    | zero => rw [Nat.zero_mul, Nat.zero_add, List.getElem?_append_left (by rw [hf]; exact hj)]; rfl
    | succ k =>
      rw [List.getElem?_append_right (by rw [hf, Nat.add_mul]; omega), hf, show (k + 1) * size + j - size = k * size + j by rw [Nat.add_mul]; omega, ih k (by simpa using hk)]
      rfl
end

/-- The slice value v reads as n elements of 'size' cells, the cells xs. -/
def RdS (w : World) (size : Nat) (v : Value) (n : Nat) (xs : List Value) : Prop :=
  xs.length = n * size ∧ ∃ A c, v = .slice A n c ∧ n ≤ c ∧ c ≤ maxLen ∧ (0 < n → ∃ g off, A = some ⟨g, off, none⟩ ∧ ∀ j u, xs[j]? = some u → w.cell? ⟨g, off + j, none⟩ = some u)
/-- The slice value v reads as the records l. -/
def RdL {α : Type} (f : α → List Value) (size : Nat) (w : World) (v : Value) (l : List α) : Prop := RdS w size v l.length (l.flatMap f)

section
variable {w w' : World} {size n : Nat} {v : Value} {xs : List Value}
theorem RdS.keep (h : RdS w size v n xs) (hb : ∀ p : Addr, ∀ u, w.cell? p = some u → w'.cell? p = some u) : RdS w' size v n xs := by
  obtain ⟨h1, A, c, h2, h3, h4, h5⟩ := h
  refine ⟨h1, A, c, h2, h3, h4, fun hn => ?_⟩
  obtain ⟨g, off, hA, hc⟩ := h5 hn
  exact ⟨g, off, hA, fun j u hu => hb _ _ (hc j u hu)⟩
theorem cell_below {B : Nat} (hb : Below B w w') (hB : w.heap.size ≤ B) (p : Addr) (u : Value) (h : w.cell? p = some u) : w'.cell? p = some u :=
  (hb.cell (p := p) (Nat.lt_of_lt_of_le (World.block_lt_of_cell? w p h) hB)).trans h
theorem RdS.below (h : RdS w size v n xs) (hb : Below w.heap.size w w') : RdS w' size v n xs := h.keep (cell_below hb (Nat.le_refl _))
theorem RdS.form (h : RdS w size v n xs) : ∃ A c, v = .slice A n c ∧ n ≤ c ∧ c ≤ maxLen := by
  obtain ⟨_, A, c, h2, h3, h4, _⟩ := h
  exact ⟨A, c, h2, h3, h4⟩
theorem RdS.at_ {A : Option Addr} {c : Nat} (h : RdS w size (.slice A n c) n xs) (hs : 0 < size) (hn : 0 < n) : ∃ g off, A = some ⟨g, off, none⟩ ∧ g < w.heap.size ∧ ∀ j u, xs[j]? = some u → w.cell? ⟨g, off + j, none⟩ = some u := by
  obtain ⟨h1, A', c', h2, h3, h4, h5⟩ := h
  injection h2 with e1 e2 e3
  subst e1
  obtain ⟨g, off, hA, hc⟩ := h5 hn
  have hl : 0 < xs.length := by rw [h1]; exact Nat.mul_pos hn hs
  exact ⟨g, off, hA, World.block_lt_of_cell? w _ (hc 0 xs[0] (List.getElem?_eq_getElem hl)), hc⟩
theorem RdS.of_own {B : Nat} {e : TypeId} (h : w.ownsRow B e size v n xs) : RdS w size v n xs := by
  refine ⟨h.1, ?_⟩
  rcases h.2 with ⟨rfl, rfl⟩ | ⟨g, cap, cur, rfl, _, hh, h1, h2, h3, h4⟩
  · exact ⟨none, 0, rfl, Nat.le_refl _, by simp [maxLen], fun h => absurd h (by omega)⟩
  · refine ⟨some ⟨g, 0, none⟩, cap, rfl, h1, h2, fun _ => ⟨g, 0, rfl, fun j u hu => ?_⟩⟩
    have := h.cells (g := g) rfl j u hu
    have hadd : (⟨g, 0, none⟩ : Addr).add j = ⟨g, 0 + j, none⟩ := by unfold Addr.add; split <;> simp_all
    rwa [hadd] at this
end

section
variable {α : Type} {f : α → List Value} {w w' : World} {size : Nat} {v : Value} {l : List α}
theorem RdL.below (h : RdL f size w v l) (hb : Below w.heap.size w w') : RdL f size w' v l := RdS.below h hb
theorem RdL.form (h : RdL f size w v l) : ∃ A c, v = .slice A l.length c ∧ l.length ≤ c ∧ c ≤ 9223372036854775807 := by
  obtain ⟨A, c, h1, h2, h3⟩ := RdS.form h
  exact ⟨A, c, h1, h2, by simpa [maxLen] using h3⟩
theorem RdL.cell {A : Option Addr} {c : Nat} (h : RdL f size w (.slice A l.length c) l) (hf : ∀ a, (f a).length = size) (hs : 0 < size) {k : Nat} (hk : k < l.length) :
    ∃ g off, A = some ⟨g, off, none⟩ ∧ g < w.heap.size ∧ ∀ j u, (f l[k])[j]? = some u → w.cell? ⟨g, off + k * size + j, none⟩ = some u := by
  obtain ⟨g, off, hA, hg, hc⟩ := RdS.at_ h hs (by omega)
  refine ⟨g, off, hA, hg, fun j u hu => ?_⟩
  have hj : j < size := by
    have := (List.getElem?_eq_some_iff.1 hu).1
    rwa [hf] at this
  rw [Nat.add_assoc]
  exact hc _ u (by rw [get_flat hf l k hk j hj]; exact hu)
end

theorem own_below {w w' : World} {B : Nat} {e : TypeId} {size n : Nat} {v : Value} {xs : List Value} (h : w.ownsRow B e size v n xs) (hb : Below w.heap.size w w') : w'.ownsRow B e size v n xs := by
  refine h.kept (row := none) ⟨hb.os, hb.tape, hb.output, hb.size, fun k hk _ => hb.block k hk⟩ ?_
  cases v.ownBlock <;> simp
theorem own_mono {w : World} {B B' : Nat} {e : TypeId} {size n : Nat} {v : Value} {xs : List Value} (h : w.ownsRow B e size v n xs) (hB : B' ≤ B) : w.ownsRow B' e size v n xs := by
  refine ⟨h.1, ?_⟩
  rcases h.2 with h | ⟨g, cap, cur, h1, h2, h3⟩
  · exact .inl h
  · exact .inr ⟨g, cap, cur, h1, by omega, h3⟩
theorem flat_snoc {α : Type} (f : α → List Value) (l : List α) {k : Nat} (h : k < l.length) : (l.take (k + 1)).flatMap f = (l.take k).flatMap f ++ f l[k] := by
  rw [List.take_succ_eq_append_getElem h, List.flatMap_append]; simp
/- lists, one element after the other -/
theorem take_snoc_l {α : Type} (l : List α) {k : Nat} (h : k < l.length) : l.take (k + 1) = l.take k ++ [l[k]] := by
  rw [List.take_succ_eq_append_getElem h]
theorem all_take_succ {α : Type} {p : α → Bool} {l : List α} {k : Nat} (h : k < l.length) (h1 : (l.take k).all p = true) (h2 : p l[k] = true) : (l.take (k + 1)).all p = true := by
  rw [take_snoc_l l h, List.all_append, h1]; simp [h2]
theorem all_take_end {α : Type} {p : α → Bool} {l : List α} {k : Nat} (h : ¬ k < l.length) (h1 : (l.take k).all p = true) : l.all p = true := by
  rwa [List.take_of_length_le (by omega)] at h1
theorem all_false_at {α : Type} {p : α → Bool} {l : List α} {k : Nat} (h : k < l.length) (h2 : p l[k] = false) : l.all p = false := by
  rw [List.all_eq_false]; exact ⟨l[k], List.getElem_mem h, by simp [h2]⟩
theorem any_take_succ {α : Type} {p : α → Bool} {l : List α} {k : Nat} (h : k < l.length) (h1 : (l.take k).any p = false) (h2 : p l[k] = false) : (l.take (k + 1)).any p = false := by
  rw [take_snoc_l l h, List.any_append, h1]; simp [h2]
theorem any_take_end {α : Type} {p : α → Bool} {l : List α} {k : Nat} (h : ¬ k < l.length) (h1 : (l.take k).any p = false) : l.any p = false := by
  rwa [List.take_of_length_le (by omega)] at h1
theorem any_true_at {α : Type} {p : α → Bool} {l : List α} {k : Nat} (h : k < l.length) (h2 : p l[k] = true) : l.any p = true := by
  rw [List.any_eq_true]; exact ⟨l[k], List.getElem_mem h, h2⟩

/-- what is left of a size -/
def szLen (m : Int) (n : Nat) : Int := if m < n then -1 else m - n
theorem szLen_le {m : Int} {n : Nat} (hm : m ≤ 1048576) (h : ¬ szLen m n < 0) : n ≤ 1048576 ∧ 0 ≤ szLen m n ∧ szLen m n ≤ 1048576 ∧ szLen m n = m - n := by
  unfold szLen at *
  by_cases h' : m < n
  · rw [if_pos h'] at h; exact absurd (by decide) h
  · rw [if_neg h']; omega

/-- A size is taken off: what is left is m - tot, or a number below 0. -/
def SzPost (m : Int) (tot : Nat) (w : World) (e : Ending) (w' : World) : Prop := ∃ r : Int, e = .returned (.int .i64 r) ∧ w = w' ∧ r ≤ m ∧ (0 ≤ r → (tot : Int) = m - r)
theorem sum_take_succ {α : Type} (g : α → Nat) (l : List α) {k : Nat} (h : k < l.length) : ((l.take (k + 1)).map g).sum = ((l.take k).map g).sum + g l[k] := by
  rw [List.take_succ_eq_append_getElem h, List.map_append, List.sum_append_nat]; simp
theorem foldl_take_succ {α β : Type} (g : β → α → β) (b : β) (l : List α) {k : Nat} (h : k < l.length) : (l.take (k + 1)).foldl g b = g ((l.take k).foldl g b) l[k] := by
  rw [List.take_succ_eq_append_getElem h, List.foldl_append]; rfl
def cStr (s : ByteArray) : List Value := [.string s]
theorem cStr_len (a : ByteArray) : (cStr a).length = 1 := rfl

theorem ite_max (a b : Nat) : (if a < b then (b : Int) else (a : Int)) = ((max a b : Nat) : Int) := by split <;> omega
theorem int_eq {a b : Int} (h : a = b) : Value.int .i64 a = .int .i64 b := by rw [h]
theorem size_set1 {xs A : List Value} {k : Nat} (a : Value) (h : xs.take k = A) (hk : k < xs.length) : (xs.set k a).take (k + 1) = A ++ [a] := by
  subst h
  rw [List.take_succ_eq_append_getElem (by simpa using hk), List.take_set_of_le (Nat.le_refl _)]
  simp

/-- flat records -/
def cInt (n : Int) : List Value := [.int .i64 n]
def cPair (t : Int × Int) : List Value := [.int .i64 t.1, .int .i64 t.2]
def cTri (t : Int × Int × Int) : List Value := [.int .i64 t.1, .int .i64 t.2.1, .int .i64 t.2.2]
theorem cTri_len (a : Int × Int × Int) : (cTri a).length = 3 := rfl
theorem cInt_len (a : Int) : (cInt a).length = 1 := rfl
theorem cPair_len (a : Int × Int) : (cPair a).length = 2 := rfl
end Go.Proofs.Ytomghkfkbpkbdaa

namespace Go.Proofs.Ytomghkfkbpkbdaa
open Go.RowKit

def limbE (t : Int × Int × Int) : Edge := (t.1.toNat, t.2.1.toNat)
def limbB (n : Int) (t : Int × Int × Int) : Bool := (inB t.1 0 (n - 1) && inB t.2.1 0 (n - 1)) && inB t.2.2 1 100
def treeB (l : List (Int × Int × Int)) : Bool := acyclic (l.map limbE) id
def bodyB (n : Int) (l : List (Int × Int × Int)) : Bool := (inB n 1 12 && decide ((l.length : Int) = n - 1)) && (l.all (limbB n) && treeB l)

def dGet (d : List Int) (k : Nat) : Int := d.getD k (-1)
def dSet1 (d : List Int) (a b : Nat) (len : Int) : List Int := if 0 ≤ dGet d a ∧ dGet d b < 0 then d.set b (dGet d a + len) else d
def dStep (d : List Int) (t : Int × Int × Int) : List Int := dSet1 (dSet1 d t.1.toNat t.2.1.toNat t.2.2) t.2.1.toNat t.1.toNat t.2.2
def dRound (l : List (Int × Int × Int)) (d : List Int) : List Int := l.foldl dStep d
def dRounds (l : List (Int × Int × Int)) (d : List Int) : Nat → List Int
  | 0 => d
  | k + 1 => dRound l (dRounds l d k)
def dist0 (n k : Nat) : List Int := (List.replicate n (-1)).set k 0
def distF (n : Nat) (l : List (Int × Int × Int)) (k : Nat) : List Int := dRounds l (dist0 n k) n
def knownB (x : Int) : Bool := decide (0 ≤ x)

theorem dGet_at {d : List Int} {k : Nat} (h : k < d.length) : dGet d k = d[k] := by unfold dGet; rw [List.getD_eq_getElem?_getD, List.getElem?_eq_getElem h]; rfl
theorem dGet_set {d : List Int} {b j : Nat} {x : Int} (hb : b < d.length) : dGet (d.set b x) j = if j = b then x else dGet d j := by
  unfold dGet
  rw [List.getD_eq_getElem?_getD, List.getD_eq_getElem?_getD, List.getElem?_set]
  by_cases h : b = j
  · subst h; simp [hb]
  · rw [if_neg h, if_neg (fun e => h e.symm)]
theorem dSet1_len (d : List Int) (a b : Nat) (len : Int) : (dSet1 d a b len).length = d.length := by unfold dSet1; split <;> simp
theorem dStep_len (d : List Int) (t : Int × Int × Int) : (dStep d t).length = d.length := by unfold dStep; rw [dSet1_len, dSet1_len]
theorem dRound_len (l : List (Int × Int × Int)) : ∀ d : List Int, (dRound l d).length = d.length := by
  induction l with
  | nil => intro d; rfl
  | cons t l ih => intro d; show (dRound l (dStep d t)).length = _; rw [ih, dStep_len]
theorem dRounds_len (l : List (Int × Int × Int)) (d : List Int) (k : Nat) : (dRounds l d k).length = d.length := by
  induction k with
  | zero => rfl
  | succ k ih => show (dRound l (dRounds l d k)).length = _; rw [dRound_len, ih]
/- bounds -/
def dBd (d : List Int) (B : Int) : Prop := ∀ x ∈ d, -1 ≤ x ∧ x ≤ B
theorem dBd_get {d : List Int} {B : Int} (h : dBd d B) (hB : -1 ≤ B) (k : Nat) : -1 ≤ dGet d k ∧ dGet d k ≤ B := by
  by_cases hk : k < d.length
  · rw [dGet_at hk]; exact h _ (List.getElem_mem hk)
  · unfold dGet; rw [List.getD_eq_getElem?_getD, List.getElem?_eq_none (by omega)]; simp; omega
theorem dSet1_bd {d : List Int} {a b : Nat} {len B : Int} (h : dBd d B) (hB : -1 ≤ B) (hl : 0 ≤ len ∧ len ≤ 100) : dBd (dSet1 d a b len) (B + 100) := by
  unfold dSet1
  split
  · intro x hx
    have hg := dBd_get h hB a
    rcases List.mem_or_eq_of_mem_set hx with h1 | rfl
    · have := h x h1; omega
    · omega
  · intro x hx; have := h x hx; omega
theorem dStep_bd {d : List Int} {t : Int × Int × Int} {B : Int} (h : dBd d B) (hB : -1 ≤ B) (hl : 0 ≤ t.2.2 ∧ t.2.2 ≤ 100) : dBd (dStep d t) (B + 200) := by
  have := dSet1_bd (a := t.2.1.toNat) (b := t.1.toNat) (dSet1_bd (a := t.1.toNat) (b := t.2.1.toNat) h hB hl) (by omega) hl
  rw [show B + 200 = B + 100 + 100 by omega]
  exact this
/- counts -/
theorem dSet1_cnt {d : List Int} {a b : Nat} {len : Int} (hb : b < d.length) (hl : 0 ≤ len) :
    (dSet1 d a b len = d ∧ (0 ≤ dGet d a → 0 ≤ dGet d b)) ∨ ((dSet1 d a b len).countP knownB = d.countP knownB + 1) := by
  unfold dSet1
  split
  · rename_i h
    right
    rw [List.countP_set hb]
    have h1 : knownB d[b] = false := by rw [← dGet_at hb]; unfold knownB; rw [decide_eq_false]; omega
    have h2 : knownB (dGet d a + len) = true := by unfold knownB; rw [decide_eq_true]; omega
    rw [h1, h2]; simp
  · rename_i h
    exact .inl ⟨rfl, fun ha => by omega⟩
theorem dStep_cnt {d : List Int} {t : Int × Int × Int} (ha : t.1.toNat < d.length) (hb : t.2.1.toNat < d.length) (hl : 0 ≤ t.2.2) :
    (dStep d t = d ∧ (0 ≤ dGet d t.1.toNat ↔ 0 ≤ dGet d t.2.1.toNat)) ∨ (d.countP knownB + 1 ≤ (dStep d t).countP knownB) := by
  unfold dStep
  rcases dSet1_cnt (a := t.1.toNat) hb hl with ⟨e1, h1⟩ | h1
  · rw [e1]
    rcases dSet1_cnt (a := t.2.1.toNat) ha hl with ⟨e2, h2⟩ | h2
    · exact .inl ⟨e2, h1, h2⟩
    · right; omega
  · right
    have ha' : t.1.toNat < (dSet1 d t.1.toNat t.2.1.toNat t.2.2).length := by rw [dSet1_len]; exact ha
    rcases dSet1_cnt (d := dSet1 d t.1.toNat t.2.1.toNat t.2.2) (a := t.2.1.toNat) ha' hl with ⟨e2, h2⟩ | h2
    · rw [e2]; omega
    · omega
theorem dRound_cnt (l : List (Int × Int × Int)) : ∀ d : List Int, (∀ t ∈ l, t.1.toNat < d.length ∧ t.2.1.toNat < d.length ∧ 0 ≤ t.2.2) →
    (dRound l d = d ∧ ∀ t ∈ l, (0 ≤ dGet d t.1.toNat ↔ 0 ≤ dGet d t.2.1.toNat)) ∨ (d.countP knownB + 1 ≤ (dRound l d).countP knownB) := by
  induction l with
  | nil => intro d _; exact .inl ⟨rfl, fun t h => by simp at h⟩
  | cons t l ih =>
    intro d h
    obtain ⟨ha, hb, hl⟩ := h t List.mem_cons_self
    have ih' := ih (dStep d t) (fun x hx => by rw [dStep_len]; exact h x (List.mem_cons_of_mem _ hx))
    show (dRound l (dStep d t) = d ∧ _) ∨ (_ ≤ (dRound l (dStep d t)).countP knownB)
    rcases dStep_cnt ha hb hl with ⟨e, he⟩ | he
    · rw [e] at ih' ⊢
      rcases ih' with ⟨e', h'⟩ | h'
      · refine .inl ⟨e', fun x hx => ?_⟩
        rcases List.mem_cons.1 hx with rfl | hx
        · exact he
        · exact h' x hx
      · exact .inr h'
    · right
      rcases ih' with ⟨e', _⟩ | h'
      · rw [e']; exact he
      · omega
theorem dRounds_cnt (l : List (Int × Int × Int)) (d : List Int) (h : ∀ t ∈ l, t.1.toNat < d.length ∧ t.2.1.toNat < d.length ∧ 0 ≤ t.2.2) (k : Nat) :
    (dRound l (dRounds l d k) = dRounds l d k ∧ ∀ t ∈ l, (0 ≤ dGet (dRounds l d k) t.1.toNat ↔ 0 ≤ dGet (dRounds l d k) t.2.1.toNat)) ∨ (d.countP knownB + k ≤ (dRounds l d k).countP knownB) := by
  induction k with
  | zero => right; exact Nat.le_refl _
  | succ k ih =>
    have hk := dRound_cnt l (dRounds l d k) (fun t ht => by rw [dRounds_len]; exact h t ht)
    show (dRound l (dRound l (dRounds l d k)) = _ ∧ _) ∨ (_ ≤ (dRound l (dRounds l d k)).countP knownB)
    rcases ih with ⟨e, he⟩ | hi
    · left
      refine ⟨?_, ?_⟩
      · rw [show dRounds l d (k + 1) = dRound l (dRounds l d k) from rfl, e, e]
      · rw [show dRounds l d (k + 1) = dRound l (dRounds l d k) from rfl, e]; exact he
    · rcases hk with ⟨e, he⟩ | hk
      · left
        refine ⟨?_, ?_⟩
        · rw [show dRounds l d (k + 1) = dRound l (dRounds l d k) from rfl, e, e]
        · rw [show dRounds l d (k + 1) = dRound l (dRounds l d k) from rfl, e]; exact he
      · right; omega
/- who is reached is joined with the start -/
def joined (es : List Edge) (k j : Nat) : Prop := ∀ p : Nat → Nat, (∀ e ∈ es, p e.1 = p e.2) → p j = p k
theorem dSet1_join {es : List Edge} {k : Nat} {d : List Int} {a b : Nat} {len : Int} (hb : b < d.length) (hab : joined es a b) (h : ∀ j, 0 ≤ dGet d j → joined es k j) : ∀ j, 0 ≤ dGet (dSet1 d a b len) j → joined es k j := by
  intro j hj
  unfold dSet1 at hj
  split at hj
  · rename_i hc
    rw [dGet_set hb] at hj
    by_cases e : j = b
    · subst e
      intro p hp
      rw [hab p hp]; exact h a hc.1 p hp
    · rw [if_neg e] at hj; exact h j hj
  · exact h j hj
theorem dStep_join {es : List Edge} {k : Nat} {d : List Int} {t : Int × Int × Int} (ha : t.1.toNat < d.length) (hb : t.2.1.toNat < d.length) (ht : limbE t ∈ es) (h : ∀ j, 0 ≤ dGet d j → joined es k j) : ∀ j, 0 ≤ dGet (dStep d t) j → joined es k j := by
  unfold dStep
  exact dSet1_join (by rw [dSet1_len]; exact ha) (fun p hp => hp _ ht) (dSet1_join hb (fun p hp => (hp _ ht).symm) h)
theorem dRound_join {es : List Edge} {k : Nat} (l : List (Int × Int × Int)) : ∀ d : List Int, (∀ t ∈ l, t.1.toNat < d.length ∧ t.2.1.toNat < d.length ∧ limbE t ∈ es) → (∀ j, 0 ≤ dGet d j → joined es k j) → ∀ j, 0 ≤ dGet (dRound l d) j → joined es k j := by
  induction l with
  | nil => intro d _ h; exact h
  | cons t l ih =>
    intro d hl h
    obtain ⟨ha, hb, ht⟩ := hl t List.mem_cons_self
    exact ih (dStep d t) (fun x hx => by rw [dStep_len]; exact hl x (List.mem_cons_of_mem _ hx)) (dStep_join ha hb ht h)
theorem dRounds_join {es : List Edge} {k : Nat} (l : List (Int × Int × Int)) (d : List Int) (hl : ∀ t ∈ l, t.1.toNat < d.length ∧ t.2.1.toNat < d.length ∧ limbE t ∈ es) (h : ∀ j, 0 ≤ dGet d j → joined es k j) (m : Nat) : ∀ j, 0 ≤ dGet (dRounds l d m) j → joined es k j := by
  induction m with
  | zero => exact h
  | succ m ih => exact dRound_join l _ (fun t ht => by rw [dRounds_len]; exact hl t ht) ih
/- who is known stays known -/
theorem dSet1_keep {d : List Int} {a b : Nat} {len : Int} (hb : b < d.length) (hl : 0 ≤ len) (j : Nat) (h : 0 ≤ dGet d j) : 0 ≤ dGet (dSet1 d a b len) j := by
  unfold dSet1
  split
  · rw [dGet_set hb]; split <;> omega
  · exact h
theorem dRound_keep (l : List (Int × Int × Int)) : ∀ d : List Int, (∀ t ∈ l, t.1.toNat < d.length ∧ t.2.1.toNat < d.length ∧ 0 ≤ t.2.2) → ∀ j, 0 ≤ dGet d j → 0 ≤ dGet (dRound l d) j := by
  induction l with
  | nil => intro d _ j h; exact h
  | cons t l ih =>
    intro d hl j h
    obtain ⟨ha, hb, ht⟩ := hl t List.mem_cons_self
    refine ih (dStep d t) (fun x hx => by rw [dStep_len]; exact hl x (List.mem_cons_of_mem _ hx)) j ?_
    unfold dStep
    exact dSet1_keep (by rw [dSet1_len]; exact ha) ht j (dSet1_keep hb ht j h)
theorem dRounds_keep (l : List (Int × Int × Int)) (d : List Int) (hl : ∀ t ∈ l, t.1.toNat < d.length ∧ t.2.1.toNat < d.length ∧ 0 ≤ t.2.2) (m j : Nat) (h : 0 ≤ dGet d j) : 0 ≤ dGet (dRounds l d m) j := by
  induction m with
  | zero => exact h
  | succ m ih => exact dRound_keep l _ (fun t ht => by rw [dRounds_len]; exact hl t ht) j ih
theorem dist0_len (n k : Nat) : (dist0 n k).length = n := by simp [dist0]
theorem dist0_get {n k : Nat} (hk : k < n) (j : Nat) : dGet (dist0 n k) j = if j = k then 0 else -1 := by
  unfold dist0
  rw [dGet_set (by simpa using hk)]
  congr 1
  unfold dGet
  rw [List.getD_eq_getElem?_getD, List.getElem?_replicate]
  split <;> rfl
theorem dist0_cnt {n k : Nat} (hk : k < n) : (dist0 n k).countP knownB = 1 := by
  unfold dist0
  rw [List.countP_set (by simpa using hk)]
  have h1 : (List.replicate n (-1 : Int)).countP knownB = 0 := by rw [List.countP_eq_zero]; intro a ha; rw [List.eq_of_mem_replicate ha]; decide
  rw [h1]; simp [knownB]
theorem distF_len (n : Nat) (l : List (Int × Int × Int)) (k : Nat) : (distF n l k).length = n := by unfold distF; rw [dRounds_len, dist0_len]
theorem distF_closed {n : Nat} {l : List (Int × Int × Int)} {k : Nat} (hk : k < n) (h : ∀ t ∈ l, t.1.toNat < n ∧ t.2.1.toNat < n ∧ 0 ≤ t.2.2) : ∀ t ∈ l, (0 ≤ dGet (distF n l k) t.1.toNat ↔ 0 ≤ dGet (distF n l k) t.2.1.toNat) := by
  rcases dRounds_cnt l (dist0 n k) (fun t ht => by rw [dist0_len]; exact h t ht) n with ⟨_, he⟩ | he
  · exact he
  · exfalso
    rw [dist0_cnt hk] at he
    have h1 : (distF n l k).countP knownB ≤ (distF n l k).length := List.countP_le_length
    rw [distF_len] at h1
    unfold distF at h1
    omega
theorem limbs_of {n : Nat} {l : List (Int × Int × Int)} (h : l.all (limbB n) = true) : ∀ t ∈ l, (0 ≤ t.1 ∧ t.1 ≤ (n : Int) - 1) ∧ (0 ≤ t.2.1 ∧ t.2.1 ≤ (n : Int) - 1) ∧ 1 ≤ t.2.2 ∧ t.2.2 ≤ 100 := by
  intro t ht
  have := List.all_eq_true.1 h t ht
  unfold limbB at this
  rw [Bool.and_eq_true, Bool.and_eq_true] at this
  exact ⟨inB_iff.1 this.1.1, inB_iff.1 this.1.2, inB_iff.1 this.2⟩
/-- The law: with n - 1 limbs all joints are reached iff no limb closes a circle. -/
theorem dist_tree {n : Nat} {l : List (Int × Int × Int)} (hn : 0 < n) (hl : l.length + 1 = n) (hb : l.all (limbB n) = true) : (∀ j, j < n → 0 ≤ dGet (distF n l 0) j) ↔ treeB l = true := by
  have hb' := limbs_of hb
  have hr : ∀ t ∈ l, t.1.toNat < n ∧ t.2.1.toNat < n ∧ 0 ≤ t.2.2 := fun t ht => by have := hb' t ht; omega
  refine tree_law hn (l.map limbE) (by simpa using hl) ?_ (fun j => 0 ≤ dGet (distF n l 0) j) ?_ ?_ ?_
  · intro e he
    obtain ⟨t, ht, rfl⟩ := List.mem_map.1 he
    exact ⟨(hr t ht).1, (hr t ht).2.1⟩
  · exact dRounds_keep l _ (fun t ht => by rw [dist0_len]; exact hr t ht) n 0 (by rw [dist0_get hn, if_pos rfl]; omega)
  · intro e he
    obtain ⟨t, ht, rfl⟩ := List.mem_map.1 he
    exact distF_closed hn hr t ht
  · intro j hj p hp
    refine dRounds_join (es := l.map limbE) (k := 0) l (dist0 n 0) (fun t ht => ?_) (fun i hi => ?_) n j hj p hp
    · rw [dist0_len]; exact ⟨(hr t ht).1, (hr t ht).2.1, List.mem_map.2 ⟨t, ht, rfl⟩⟩
    · rw [dist0_get hn] at hi
      by_cases e : i = 0
      · subst e; intro p _; rfl
      · rw [if_neg e] at hi; omega
theorem dist0_bd (n k : Nat) : dBd (dist0 n k) 0 := by
  intro x hx
  unfold dist0 at hx
  rcases List.mem_or_eq_of_mem_set hx with h1 | rfl
  · rw [List.eq_of_mem_replicate h1]; omega
  · omega
/-- A limb from a joint to itself closes a circle. -/
theorem acyclic_ne (es : List Edge) : ∀ p : Nat → Nat, acyclic es p = true → ∀ e ∈ es, e.1 ≠ e.2 := by
  induction es with
  | nil => intro p _ e h; simp at h
  | cons d es ih =>
    intro p h e he
    unfold acyclic at h
    rw [Bool.and_eq_true] at h
    rcases List.mem_cons.1 he with rfl | he
    · intro e'; rw [e'] at h; simp at h
    · exact ih _ h.2 e he
theorem dist_bd {l : List (Int × Int × Int)} (hl : ∀ t ∈ l, 0 ≤ t.2.2 ∧ t.2.2 ≤ 100) : ∀ (d : List Int) (B : Int), dBd d B → -1 ≤ B → dBd (dRound l d) (B + 200 * l.length) := by
  induction l with
  | nil => intro d B h _ x hx; have := h x hx; simp; omega
  | cons t l ih =>
    intro d B h hB
    have := ih (fun x hx => hl x (List.mem_cons_of_mem _ hx)) (dStep d t) (B + 200) (dStep_bd h hB (hl t List.mem_cons_self)) (by omega)
    rw [List.length_cons]
    rw [show B + 200 * ((l.length + 1 : Nat) : Int) = B + 200 + 200 * (l.length : Int) by omega]
    exact this
theorem dists_bd {l : List (Int × Int × Int)} (hl : ∀ t ∈ l, 0 ≤ t.2.2 ∧ t.2.2 ≤ 100) (hlen : l.length ≤ 11) (d : List Int) (hd : dBd d 0) (k : Nat) : dBd (dRounds l d k) (2200 * k) := by
  induction k with
  | zero => intro x hx; have := hd x hx; simp; omega
  | succ k ih =>
    intro x hx
    have := dist_bd hl (dRounds l d k) (2200 * k) ih (by omega) x hx
    omega
end Go.Proofs.Ytomghkfkbpkbdaa

namespace Go.Proofs.Ytomghkfkbpkbdaa
open Go.RowKit

theorem size_set2 {xs A : List Value} {k : Nat} (a b : Value) (h : xs.take (k * 2) = A) (hk : k * 2 + 1 < xs.length) : ((xs.set (k * 2) a).set (k * 2 + 1) b).take ((k + 1) * 2) = A ++ [a, b] := by
  have h1 := size_set1 a h (by omega)
  have h2 := size_set1 (xs := xs.set (k * 2) a) (k := k * 2 + 1) b h1 (by simpa using hk)
  rw [show (k + 1) * 2 = k * 2 + 1 + 1 by omega, h2]
  simp
theorem size_set3 {xs A : List Value} {k : Nat} (a b c : Value) (h : xs.take (k * 3) = A) (hk : k * 3 + 2 < xs.length) : (((xs.set (k * 3) a).set (k * 3 + 1) b).set (k * 3 + 2) c).take ((k + 1) * 3) = A ++ [a, b, c] := by
  have h1 := size_set1 a h (by omega)
  have h2 := size_set1 (xs := xs.set (k * 3) a) (k := k * 3 + 1) b h1 (by simp; omega)
  have h3 := size_set1 (xs := (xs.set (k * 3) a).set (k * 3 + 1) b) (k := k * 3 + 2) c h2 (by simpa using hk)
  rw [show (k + 1) * 3 = k * 3 + 2 + 1 by omega, h3]
  simp
def markC (mk : Int → List Value) (st : Int) (n : Nat) (m : Int) : List Value := (List.range n).flatMap (fun i : Nat => mk (m + (i : Int) * st))
theorem markC_succ (mk : Int → List Value) (st : Int) (k : Nat) (m : Int) : markC mk st (k + 1) m = markC mk st k m ++ mk (m + (k : Int) * st) := by
  unfold markC; rw [List.range_succ, List.flatMap_append]; simp
theorem markC_get {mk : Int → List Value} {size : Nat} {st : Int} (hl : ∀ k, (mk k).length = size) (k n : Nat) (m : Int) (h : k < n) (j : Nat) (hj : j < size) (u : Value) (hu : (mk (m + (k : Int) * st))[j]? = some u) :
    (markC mk st n m)[k * size + j]? = some u := by
  unfold markC
  rw [get_flat (f := fun i : Nat => mk (m + (i : Int) * st)) (fun a => hl _) (List.range n) k (by simpa using h) j hj]
  simpa using hu
theorem markC_len {mk : Int → List Value} {size : Nat} {st : Int} (hl : ∀ k, (mk k).length = size) (n : Nat) (m : Int) : (markC mk st n m).length = n * size := by
  unfold markC
  rw [len_flat (f := fun i : Nat => mk (m + (i : Int) * st)) (fun a => hl _)]; simp
theorem own_form {w : World} {B : Nat} {e : TypeId} {size n : Nat} {v : Value} {xs : List Value} (h : w.ownsRow B e size v n xs) (hn : 0 < n) : ∃ g cap, v = .slice (some ⟨g, 0, none⟩) n cap := by
  rcases h.2 with ⟨_, h0⟩ | ⟨g, cap, cur, h1, _⟩
  · omega
  · exact ⟨g, cap, h1⟩
theorem flat_set {α : Type} {f : α → List Value} {size : Nat} (hf : ∀ a, (f a).length = size) (L : List α) (k : Nat) (hk : k < L.length) (j : Nat) (hj : j < size) (u : Value) (r : α) (hr : f r = (f L[k]).set j u) :
    (L.flatMap f).set (k * size + j) u = (L.set k r).flatMap f := by
  induction L generalizing k with
  | nil => simp at hk
  | cons a L ih =>
    cases k with
    | zero =>
      rw [List.flatMap_cons, Nat.zero_mul, Nat.zero_add, List.set_append_left _ _ (by rw [hf]; exact hj), List.set_cons_zero, List.flatMap_cons, hr]
      rfl
    | succ k =>
      rw [List.flatMap_cons, List.set_append_right _ _ (by rw [hf, Nat.add_mul]; omega), hf, show (k + 1) * size + j - size = k * size + j by rw [Nat.add_mul]; omega, List.set_cons_succ, List.flatMap_cons,
        ih k (by simpa using hk) (by simpa using hr)]
theorem flat_set1 {α : Type} {f : α → List Value} (hf : ∀ a, (f a).length = 1) (L : List α) (k : Nat) (hk : k < L.length) (u : Value) (r : α) (hr : f r = [u]) :
    (L.flatMap f).set k u = (L.set k r).flatMap f := by
  have h := flat_set hf L k hk 0 (by omega) u r (by
    rw [hr]
    match hx : f L[k], hf L[k] with
    | [x], _ => rfl)
  simpa using h
theorem grown_setCell {w w' : World} {row : Option Nat} {p : Addr} (h : w.grownBy w' row) (hr : row = some p.block) (u : Value) : w.grownBy (w'.setCell p u) row :=
  ⟨h.os, h.tape, h.output, by simpa [World.setCell] using h.size, fun k hk hne => (Below.heap_setCell w' p u k (fun e => hne (by rw [hr, e]))).trans (h.block k hk hne)⟩
theorem grown_below {w w' : World} (h : Below w.heap.size w w') (row : Option Nat) : w.grownBy w' row := ⟨h.os, h.tape, h.output, h.size, fun k hk _ => h.block k hk⟩
theorem grown_trans {a b c : World} {row : Option Nat} (h : a.grownBy b row) (k : b.grownBy c row) : a.grownBy c row :=
  ⟨k.os.trans h.os, k.tape.trans h.tape, k.output.trans h.output, Nat.le_trans h.size k.size, fun i hi hne => (k.block i (Nat.lt_of_lt_of_le hi h.size) hne).trans (h.block i hi hne)⟩
end Go.Proofs.Ytomghkfkbpkbdaa

namespace Go.Proofs.Ytomghkfkbpkbdaa
open Go.RowKit

section
variable {P : Program} (w : World)
theorem run_append_nil_src (base : Nat) (t ty e : TypeId) (i : TypeInfo) (size : Nat) (ht : P.underlying t = some (.slice e)) (hi : P.info? e = some i)
    (v : Value) (n : Nat) (xs : List Value) (hown : w.ownsRow base e size v n xs) (c : Nat) : (Builtin.append_ #[t, t] ty #[v, .slice none 0 c]).run P w = .ok v w := by
  rcases hown.2 with ⟨rfl, rfl⟩ | ⟨g, cap, cur, rfl, _, _, hnc, _⟩
  · simp [Builtin.append_, run_underlying ht, sizeOf, typeInfo, hi, Builtin.lenOf, Builtin.firstCells]
  · simp [Builtin.append_, run_underlying ht, sizeOf, typeInfo, hi, Builtin.lenOf, Builtin.firstCells, hnc, storeCells]

theorem run_appendR (base : Nat) (t ty e : TypeId) (i : TypeInfo) (z : Value) (size bytes : Nat) (ht : P.underlying t = some (.slice e)) (hi : P.info? e = some i) (hz : i.zero = some z)
    (hsize : i.size = size) (hby : i.bytes = bytes) (hzs : z.cells.size = size) (hsz : 0 < size)
    (v : Value) (n : Nat) (xs : List Value) (hown : w.ownsRow base e size v n xs)
    (u : Value) (m : Nat) (news : List Value) (hr : RdS w size u m news) (h1 : ∀ y ∈ news, y.oneCell' = true)
    (h63 : n + m ≤ maxLen) (hbytes : (n + m) * bytes ≤ 140737488355328) (hbase : base ≤ w.heap.size) :
    ∃ v' w', (Builtin.append_ #[t, t] ty #[v, u]).run P w = .ok v' w' ∧ w'.ownsRow base e size v' (n + m) (xs ++ news) ∧ w.grownBy w' v.ownBlock := by
  obtain ⟨hl, A, c, rfl, hmc, hc, hcells⟩ := hr
  rcases Nat.eq_zero_or_pos m with h0 | h0
  · subst h0
    have hn : news = [] := List.eq_nil_of_length_eq_zero (by simpa using hl)
    subst hn
    rcases A with _ | ad
    · exact ⟨v, w, run_append_nil_src w base t ty e i size ht hi v n xs hown c, by simpa using hown, World.grownBy.refl w _⟩
    · obtain ⟨v', w', hrun, h2, h3, _⟩ := run_append_own (P := P) w base t ty e i z size bytes ht hi hz hsize hby hzs hsz v n xs hown ad 0 c [] hl (fun j u hu => by simp at hu) h1 h63 hbytes hbase
      exact ⟨v', w', hrun, h2, h3⟩
  · obtain ⟨g, off, rfl, hcell⟩ := hcells h0
    obtain ⟨v', w', hrun, h2, h3, _⟩ := run_append_own (P := P) w base t ty e i z size bytes ht hi hz hsize hby hzs hsz v n xs hown ⟨g, off, none⟩ m c news hl
      (fun j u hu => by rw [Addr.add_lit]; exact hcell j u hu) h1 h63 hbytes hbase
    exact ⟨v', w', hrun, h2, h3⟩

theorem wpList_appendR {ops : Array Oper} {rest : List Oper} {o : Oper} {a : Act} {Q : Exit → Act → World → Prop} (hgd : o.guard = none) (s x : Operand) (t : TypeId)
    (ho : o.op = .call { callee := .builtin .append, args := #[s, x], argTypes := #[t, t] })
    (base : Nat) (e : TypeId) (i : TypeInfo) (z : Value) (size bytes : Nat) (ht : P.underlying t = some (.slice e)) (hi : P.info? e = some i) (hz : i.zero = some z)
    (hsize : i.size = size) (hby : i.bytes = bytes) (hzs : z.cells.size = size) (hsz : 0 < size)
    (v : Value) (n : Nat) (xs : List Value) (hs : a.eval s = v) (hown : w.ownsRow base e size v n xs)
    (u : Value) (m : Nat) (news : List Value) (hx : a.eval x = u) (hr : RdS w size u m news) (h1 : ∀ y ∈ news, y.oneCell' = true)
    (h63 : n + m ≤ maxLen) (hbytes : (n + m) * bytes ≤ 140737488355328) (hbase : base ≤ w.heap.size)
    (h : ∀ v' w', w'.ownsRow base e size v' (n + m) (xs ++ news) → w.grownBy w' v.ownBlock → wpList P ops Q rest (a.put o.dst v') w') : wpList P ops Q (o :: rest) a w := by
  refine wpList_plain hgd fun K hK => ?_
  obtain ⟨v', w', hrun, h2, h3⟩ := run_appendR (P := P) w base t o.type e i z size bytes ht hi hz hsize hby hzs hsz v n xs hown u m news hr h1 h63 hbytes hbase
  unfold Oper.wp execOp
  simp only [ho, resolve, invoke, builtin, Sem.run_bind, Sem.run_pure, Result.andThen_ok, List.map_toArray, List.map_cons, List.map_nil, hs, hx, hrun]
  exact hK _ _ (h v' w' h2 h3)
end

/-- Behind an append onto a row from B on: below B nothing has turned. -/
theorem below_own {w w' : World} {B : Nat} {e : TypeId} {size n : Nat} {v : Value} {xs : List Value} (hown : w.ownsRow B e size v n xs) (hg : w.grownBy w' v.ownBlock) (hB : B ≤ w.heap.size) : Below B w w' :=
  (Below.refl _ _).grown hg hB (fun k hk => (hown.lt k hk).1)
theorem oneCell_flat {α : Type} {f : α → List Value} (hf : ∀ a, ∀ y ∈ f a, y.oneCell' = true) (l : List α) : ∀ y ∈ l.flatMap f, y.oneCell' = true := by
  intro y hy
  obtain ⟨a, _, h⟩ := List.mem_flatMap.1 hy
  exact hf a y h
/-- A new block that is read as a slice of one record. -/
theorem rdS_new (w : World) (cs : Array Value) (t : TypeId) (size n : Nat) (hn : cs.size = n * size) (hm : n ≤ maxLen) : RdS (w.alloc (.cells cs t)) size (.slice (some ⟨w.heap.size, 0, none⟩) n n) n cs.toList :=
  ⟨by simpa using hn, some ⟨w.heap.size, 0, none⟩, n, rfl, Nat.le_refl _, hm, fun _ => ⟨w.heap.size, 0, rfl, fun j u hu => by
    rw [Nat.zero_add, cell_of_row _ _ j cs t (0, 0) (heap_alloc_new w _)]; simpa using hu⟩⟩
theorem rdS_newAt (w : World) (b : Nat) (hb : b = w.heap.size) (cs : Array Value) (t : TypeId) (size n : Nat) (hn : cs.size = n * size) (hm : n ≤ maxLen) : RdS (w.alloc (.cells cs t)) size (.slice (some ⟨b, 0, none⟩) n n) n cs.toList := by
  subst hb; exact rdS_new w cs t size n hn hm
end Go.Proofs.Ytomghkfkbpkbdaa

namespace Go.Proofs.Ytomghkfkbpkbdaa
open Go.RowKit

/-- The footprint S is new since block B, in the world w. -/
def Fresh (B : Nat) (w : World) (S : List Nat) : Prop := S.Nodup ∧ ∀ b ∈ S, B ≤ b ∧ b < w.heap.size
/-- From w to w' the blocks of S alone may have turned; blocks may have come. -/
structure Chg (S : List Nat) (w w' : World) : Prop where
  os : w'.os = w.os
  tape : w'.tape = w.tape
  output : w'.output = w.output
  size : w.heap.size ≤ w'.heap.size
  block : ∀ k, k < w.heap.size → k ∉ S → w'.heap[k]? = w.heap[k]?
theorem Chg.of_below {w w' : World} (h : Below w.heap.size w w') (S : List Nat) : Chg S w w' := ⟨h.os, h.tape, h.output, h.size, fun k hk _ => h.block k hk⟩
theorem Chg.trans {S : List Nat} {a b c : World} (h : Chg S a b) (k : Chg S b c) : Chg S a c :=
  ⟨k.os.trans h.os, k.tape.trans h.tape, k.output.trans h.output, Nat.le_trans h.size k.size, fun i hi hn => (k.block i (Nat.lt_of_lt_of_le hi h.size) hn).trans (h.block i hi hn)⟩
theorem Chg.refl (S : List Nat) (w : World) : Chg S w w := ⟨rfl, rfl, rfl, Nat.le_refl _, fun _ _ _ => rfl⟩
theorem Chg.mono {S T : List Nat} {a b : World} (h : Chg S a b) (hs : ∀ k ∈ S, k ∈ T) : Chg T a b :=
  ⟨h.os, h.tape, h.output, h.size, fun k hk hn => h.block k hk (fun hm => hn (hs k hm))⟩
theorem chg_set {w w' : World} {S : List Nat} {g o : Nat} {u : Value} (h : Chg S w w') (hg : g ∈ S) : Chg S w (w'.setCell ⟨g, o, none⟩ u) :=
  ⟨h.os, h.tape, h.output, by simpa [World.setCell] using h.size, fun k hk hn => (Below.heap_setCell w' ⟨g, o, none⟩ u k (fun e => hn (by rw [show k = g from e]; exact hg))).trans (h.block k hk hn)⟩
theorem Chg.of_grown {w w' : World} {v : Value} (h : w.grownBy w' v.ownBlock) : Chg v.ownBlock.toList w w' :=
  ⟨h.os, h.tape, h.output, h.size, fun k hk hn => h.block k hk (fun e => hn (by rw [← e]; simp))⟩
theorem Below.chg {B : Nat} {a w w' : World} {S : List Nat} (h : Below B a w) (hc : Chg S w w') (hB : B ≤ w.heap.size) (hS : ∀ b ∈ S, B ≤ b) : Below B a w' :=
  h.trans ⟨hc.os, hc.tape, hc.output, hc.size, fun k hk => hc.block k (by omega) (fun hm => by have := hS k hm; omega)⟩
theorem carryChg {w w' : World} {S : List Nat} {b o : Nat} {v : Value} (hc : Chg S w w') (h : w.cell? ⟨b, o, none⟩ = some v) (hn : b ∉ S) : w'.cell? ⟨b, o, none⟩ = some v :=
  (World.cell?_of_block (w := w) (w' := w') (a := ⟨b, o, none⟩) (hc.block b (World.block_lt_of_cell? w _ h) hn)).trans h
theorem carryChgF {w w' : World} {S : List Nat} {b o : Nat} {v : Value} (hc : Chg S w w') (h : w.cell? ⟨b, o, none⟩ = some v) (hf : w.frozen? ⟨b, o, none⟩ = false) (hn : b ∉ S) : w'.frozen? ⟨b, o, none⟩ = false :=
  (World.frozen?_of_block (w := w) (w' := w') (a := ⟨b, o, none⟩) (hc.block b (World.block_lt_of_cell? w _ h) hn)).trans hf
theorem fresh_not {B : Nat} {w : World} {S : List Nat} {b : Nat} (h : Fresh B w S) (hb : b < B ∨ w.heap.size ≤ b) : b ∉ S := fun hm => by have := h.2 b hm; omega
theorem fresh_disj {B B' : Nat} {w w' : World} {S S' : List Nat} (h : Fresh B w S) (h' : Fresh B' w' S') (hl : w.heap.size ≤ B' ∨ w'.heap.size ≤ B) : ∀ b ∈ S, b ∉ S' := fun b hb hb' => by
  have h1 := h.2 b hb
  have h2 := h'.2 b hb'
  omega
theorem eq_below {w w' : World} (h : w = w') : Below w.heap.size w w' := by subst h; exact Below.refl _ _
theorem bl_alloc {w w' : World} {o : Obj} (h : Below (w.alloc o).heap.size (w.alloc o) w') : Below w.heap.size w w' :=
  ((Below.refl _ _).alloc (Nat.le_refl _) o).trans (h.mono (by simp))

/-- The slice v is the call's own: it holds the records l, in the blocks S (one, or none). -/
def OwL {α : Type} (e : TypeId) (f : α → List Value) (size : Nat) (w : World) (S : List Nat) (v : Value) (l : List α) : Prop :=
  w.ownsRow 0 e size v l.length (l.flatMap f) ∧ S = v.ownBlock.toList
/-- The same, of marks. -/
def MkL (e : TypeId) (mk : Int → List Value) (size : Nat) (w : World) (S : List Nat) (v : Value) (n : Nat) (m : Int) : Prop :=
  w.ownsRow 0 e size v n (markC mk size n m) ∧ S = v.ownBlock.toList
theorem own_chg {w w' : World} {B : Nat} {e : TypeId} {size n : Nat} {v : Value} {xs : List Value} {S : List Nat} (h : w.ownsRow B e size v n xs) (hc : Chg S w w') (hn : ∀ b ∈ v.ownBlock.toList, b ∉ S) : w'.ownsRow B e size v n xs := by
  refine ⟨h.1, ?_⟩
  rcases h.2 with h0 | ⟨g, cap, cur, rfl, hb, hg, r⟩
  · exact .inl h0
  · refine .inr ⟨g, cap, cur, rfl, hb, ?_, r⟩
    rw [hc.block g (Array.getElem?_eq_some_iff.1 hg).1 (hn g (by simp [Value.ownBlock]))]
    exact hg
section
variable {α : Type} {e : TypeId} {f : α → List Value} {mk : Int → List Value} {size : Nat} {w w' : World} {S T : List Nat} {v : Value} {l : List α} {n : Nat} {m : Int}
theorem OwL.mk_ {B : Nat} (h : w.ownsRow B e size v l.length (l.flatMap f)) : OwL e f size w v.ownBlock.toList v l := ⟨own_mono h (Nat.zero_le _), rfl⟩
theorem fresh_of {B : Nat} {xs : List Value} (h : w.ownsRow B e size v n xs) : Fresh B w v.ownBlock.toList := by
  refine ⟨by cases v.ownBlock <;> simp, fun b hb => h.lt b ?_⟩
  simpa using hb
theorem OwL.rd (h : OwL e f size w S v l) : RdL f size w v l := RdS.of_own h.1
theorem OwL.below (h : OwL e f size w S v l) (hb : Below w.heap.size w w') : OwL e f size w' S v l := ⟨own_below h.1 hb, h.2⟩
theorem OwL.chg (h : OwL e f size w S v l) (hc : Chg T w w') (hn : ∀ b ∈ S, b ∉ T) : OwL e f size w' S v l := ⟨own_chg h.1 hc (by rw [← h.2]; exact hn), h.2⟩
theorem MkL.rd (h : MkL e mk size w S v n m) : RdS w size v n (markC mk size n m) := RdS.of_own h.1
theorem MkL.below (h : MkL e mk size w S v n m) (hb : Below w.heap.size w w') : MkL e mk size w' S v n m := ⟨own_below h.1 hb, h.2⟩
theorem MkL.chg (h : MkL e mk size w S v n m) (hc : Chg T w w') (hn : ∀ b ∈ S, b ∉ T) : MkL e mk size w' S v n m := ⟨own_chg h.1 hc (by rw [← h.2]; exact hn), h.2⟩
end
end Go.Proofs.Ytomghkfkbpkbdaa

namespace Go.Proofs.Ytomghkfkbpkbdaa
open Go.RowKit
/-- A size is taken off; memory may have come. -/
def SzB (m : Int) (tot : Nat) (w : World) (e : Ending) (w' : World) : Prop := ∃ r : Int, e = .returned (.int .i64 r) ∧ Below w.heap.size w w' ∧ r ≤ m ∧ (0 ≤ r → (tot : Int) = m - r)
theorem szB_of {P : Program} {f : FuncId} {args : Array Value} {m : Int} {tot : Nat} {w : World} (h : Calls P f args w (SzPost m tot w)) : Calls P f args w (SzB m tot w) :=
  h.mono fun _ _ ⟨r, he, hw, h1, h2⟩ => ⟨r, he, eq_below hw, h1, h2⟩
theorem fresh_mono {B B' : Nat} {w w' : World} {S : List Nat} (h : Fresh B w S) (hB : B' ≤ B) (hw : w.heap.size ≤ w'.heap.size) : Fresh B' w' S := ⟨h.1, fun b hb => by have := h.2 b hb; omega⟩
theorem nodup2 {S T : List Nat} (h : (S ++ T).Nodup) : S.Nodup ∧ T.Nodup ∧ (∀ b ∈ S, b ∉ T) ∧ (∀ b ∈ T, b ∉ S) := by
  obtain ⟨h1, h2, h3⟩ := List.nodup_append.1 h
  exact ⟨h1, h2, fun b hs ht => h3 b hs b ht rfl, fun b ht hs => h3 b hs b ht rfl⟩
theorem fresh_append {B0 B1 : Nat} {w0 w1 w' : World} {S0 S1 : List Nat} (f0 : Fresh B0 w0 S0) (f1 : Fresh B1 w1 S1) (h0 : B0 ≤ B1) (h1 : w0.heap.size ≤ B1) (h2 : w1.heap.size ≤ w'.heap.size) (h3 : w0.heap.size ≤ w1.heap.size) : Fresh B0 w' (S0 ++ S1) := by
  refine ⟨List.nodup_append.2 ⟨f0.1, f1.1, fun a ha b hb e => ?_⟩, fun b hb => ?_⟩
  · have := f0.2 a ha
    have := f1.2 b hb
    omega
  · rcases List.mem_append.1 hb with hb | hb
    · have := f0.2 b hb; omega
    · have := f1.2 b hb; omega
end Go.Proofs.Ytomghkfkbpkbdaa

namespace Go.Proofs.Ytomghkfkbpkbdaa
open Go.RowKit

def neB (n : Int) (x : Int) : Bool := !(x == n)
def idxN (l : List Int) (n : Int) : Nat := l.findIdx (· == n)
def idxF (l : List Int) (n : Int) : Int := if idxN l n < l.length then (idxN l n : Int) else -1
theorem neB_t {n x : Int} (h : x ≠ n) : neB n x = true := by simp [neB, h]
theorem neB_f {n x : Int} (h : x = n) : neB n x = false := by simp [neB, h]
theorem idxN_at {l : List Int} {n : Int} {k : Nat} (hk : k < l.length) (h1 : (l.take k).all (neB n) = true) (h2 : l[k] = n) : idxN l n = k := by
  unfold idxN
  rw [List.findIdx_eq hk]
  refine ⟨by simp [h2], fun j hj => ?_⟩
  have := List.all_eq_true.1 h1 (l[j]) (List.mem_take_iff_getElem.2 ⟨j, by omega, rfl⟩)
  simpa [neB] using this
theorem idxF_at {l : List Int} {n : Int} {k : Nat} (hk : k < l.length) (h1 : (l.take k).all (neB n) = true) (h2 : l[k] = n) : idxF l n = k := by
  rw [idxF, idxN_at hk h1 h2, if_pos hk]
theorem idxF_none {l : List Int} {n : Int} (h1 : l.all (neB n) = true) : idxF l n = -1 := by
  rw [idxF, if_neg]
  intro h
  have hg : (fun x : Int => x == n) (l[l.findIdx (· == n)]'h) = true := List.findIdx_getElem (w := h)
  have := List.all_eq_true.1 h1 _ (List.getElem_mem h)
  simp [neB] at this hg
  exact this hg
theorem idxN_mem {l : List Int} {n : Int} (h : n ∈ l) : idxN l n < l.length := by
  unfold idxN
  rw [List.findIdx_lt_length]
  exact ⟨n, h, by simp⟩
theorem idxN_get {l : List Int} {n : Int} (h : n ∈ l) : l[idxN l n]'(idxN_mem h) = n := by
  have hg : (fun x : Int => x == n) (l[l.findIdx (· == n)]'(idxN_mem h)) = true := List.findIdx_getElem (w := idxN_mem h)
  exact beq_iff_eq.1 hg
theorem idxF_mem {l : List Int} {n : Int} (h : n ∈ l) : idxF l n = idxN l n := by rw [idxF, if_pos (idxN_mem h)]
theorem idxF_le {l : List Int} {n : Int} : -1 ≤ idxF l n ∧ idxF l n < l.length := by
  unfold idxF
  split <;> omega
theorem idxN_nodup {l : List Int} (hn : l.Nodup) {k : Nat} (hk : k < l.length) : idxN l l[k] = k := by
  have h1 := idxN_get (List.getElem_mem hk)
  have hp := List.pairwise_iff_getElem.1 (List.nodup_iff_pairwise_ne.1 hn)
  rcases Nat.lt_trichotomy (idxN l l[k]) k with h | h | h
  · exact absurd h1 (hp _ _ (idxN_mem (List.getElem_mem hk)) hk h)
  · exact h
  · exact absurd h1.symm (hp _ _ hk (idxN_mem (List.getElem_mem hk)) h)

/-- before: how many rows have i before k -/
def befP (i k : Int) (v : List Int) : Bool := decide (idxF v i < idxF v k)
def befN (vv : List (List Int)) (i k : Int) : Nat := vv.countP (befP i k)
theorem befN_succ_t {vv : List (List Int)} {i k : Int} {m : Nat} (hm : m < vv.length) (h : idxF vv[m] i < idxF vv[m] k) : befN (vv.take (m + 1)) i k = befN (vv.take m) i k + 1 := by
  rw [befN, List.take_succ_eq_append_getElem hm, List.countP_append]
  simp [befP, h, befN]
theorem befN_succ_f {vv : List (List Int)} {i k : Int} {m : Nat} (hm : m < vv.length) (h : ¬ idxF vv[m] i < idxF vv[m] k) : befN (vv.take (m + 1)) i k = befN (vv.take m) i k := by
  rw [befN, List.take_succ_eq_append_getElem hm, List.countP_append]
  simp [befP, h, befN]
theorem befN_le (vv : List (List Int)) (i k : Int) : befN vv i k ≤ vv.length := List.countP_le_length

/-- points -/
def ptsTo (n : Nat) (vv : List (List Int)) (p : Nat) : Int := (vv.map (fun v => (n : Int) - 1 - idxN v p)).sum
def ptsPart (n : Nat) (v : List Int) (j p : Nat) : Int := if idxN v p < j then (n : Int) - 1 - idxN v p else 0
def ptsAt (n : Nat) (vv : List (List Int)) (m : Nat) (v : List Int) (j : Nat) : List Int := (List.range n).map (fun p => ptsTo n (vv.take m) p + ptsPart n v j p)
def ptsL (n : Nat) (vv : List (List Int)) : List Int := (List.range n).map (ptsTo n vv)
theorem ptsAt_len (n : Nat) (vv : List (List Int)) (m : Nat) (v : List Int) (j : Nat) : (ptsAt n vv m v j).length = n := by simp [ptsAt]
theorem ptsL_len (n : Nat) (vv : List (List Int)) : (ptsL n vv).length = n := by simp [ptsL]
theorem ptsAt_zero (n : Nat) (vv : List (List Int)) (v : List Int) : ptsAt n vv 0 v 0 = List.replicate n 0 := by
  apply List.ext_getElem
  · simp [ptsAt]
  · intro i h1 h2
    simp [ptsAt, ptsTo, ptsPart]
/-- a row is a vote of n: without doubles, from 0 to n - 1 -/
structure Vote (n : Nat) (v : List Int) : Prop where
  len : v.length = n
  nodup : v.Nodup
  bd : ∀ x ∈ v, 0 ≤ x ∧ x < n
theorem Vote.all {n : Nat} {v : List Int} (h : Vote n v) {p : Nat} (hp : p < n) : (p : Int) ∈ v := by
  have hm : (v.map Int.toNat).Nodup := by
    rw [List.nodup_iff_pairwise_ne, List.pairwise_map]
    refine List.Pairwise.imp_of_mem ?_ h.nodup
    intro a b ha hb hab e
    have := h.bd a ha
    have := h.bd b hb
    omega
  have hsub : v.map Int.toNat ⊆ List.range n := by
    intro x hx
    obtain ⟨a, ha, rfl⟩ := List.mem_map.1 hx
    have := h.bd a ha
    simp; omega
  have hlen : (v.map Int.toNat).length = n := by simp [h.len]
  have hmem : p ∈ v.map Int.toNat := Classical.byContradiction fun hc => by
    have := List.Nodup.length_le_of_subset (List.nodup_cons.2 ⟨hc, hm⟩) (fun x hx => by
      rcases List.mem_cons.1 hx with rfl | hx
      · simpa using hp
      · exact hsub hx : p :: v.map Int.toNat ⊆ List.range n)
    simp at this
    have := h.len
    omega
  obtain ⟨a, ha, e⟩ := List.mem_map.1 hmem
  have := h.bd a ha
  rw [show (p : Int) = a by omega]
  exact ha
theorem Vote.idx_lt {n : Nat} {v : List Int} (h : Vote n v) {p : Nat} (hp : p < n) : idxN v p < n := by
  have := idxN_mem (h.all hp)
  rwa [h.len] at this
theorem ptsAt_row (n : Nat) (vv : List (List Int)) (m : Nat) (hm : m < vv.length) (hv : Vote n vv[m]) (v' : List Int) : ptsAt n vv m vv[m] n = ptsAt n vv (m + 1) v' 0 := by
  apply List.ext_getElem
  · simp [ptsAt]
  · intro i h1 h2
    have hi : i < n := by simpa [ptsAt] using h1
    have := hv.idx_lt hi
    simp only [ptsAt, List.getElem_map, List.getElem_range]
    rw [ptsPart, if_pos this, ptsPart, if_neg (by omega), ptsTo, ptsTo, List.take_succ_eq_append_getElem hm, List.map_append, List.sum_append_int]
    simp
theorem ptsAt_get (n : Nat) (vv : List (List Int)) (m : Nat) (v : List Int) (hv : Vote n v) (j : Nat) (hj : j < v.length) (q : Nat) (hq : v[j] = q) (hqn : q < n) : (ptsAt n vv m v j)[q]'(by simpa [ptsAt] using hqn) = ptsTo n (vv.take m) q := by
  simp only [ptsAt, List.getElem_map, List.getElem_range]
  have := idxN_nodup hv.nodup hj
  rw [hq] at this
  rw [ptsPart, if_neg (by omega)]
  omega
theorem ptsAt_succ (n : Nat) (vv : List (List Int)) (m : Nat) (v : List Int) (hv : Vote n v) (j : Nat) (hj : j < v.length) (q : Nat) (hq : v[j] = q) (hqn : q < n) :
    (ptsAt n vv m v j).set q (ptsTo n (vv.take m) q + ((n : Int) - 1 - j)) = ptsAt n vv m v (j + 1) := by
  have hqj := idxN_nodup hv.nodup hj
  rw [hq] at hqj
  apply List.ext_getElem
  · simp [ptsAt]
  · intro i h1 h2
    have hi : i < n := by simpa [ptsAt] using h2
    by_cases hiq : i = q
    · subst hiq
      rw [List.getElem_set_self]
      simp only [ptsAt, List.getElem_map, List.getElem_range]
      rw [ptsPart, if_pos (by omega), hqj]
    · rw [List.getElem_set_ne (fun e => hiq e.symm)]
      simp only [ptsAt, List.getElem_map, List.getElem_range]
      have hne : idxN v i ≠ j := by
        intro e
        have hg := idxN_get (hv.all hi)
        have : v[j] = (i : Int) := by
          have e2 : v[idxN v i]'(idxN_mem (hv.all hi)) = v[j] := by congr 1
          rw [← e2]; exact hg
        rw [hq] at this
        exact hiq (by omega)
      unfold ptsPart
      by_cases hlt : idxN v i < j
      · rw [if_pos hlt, if_pos (by omega)]
      · rw [if_neg hlt, if_neg (by omega)]
theorem ptsTo_bd (n : Nat) (hn : n ≤ 7) (vv : List (List Int)) (hv : ∀ v ∈ vv, Vote n v) (q : Nat) (hq : q < n) : 0 ≤ ptsTo n vv q ∧ ptsTo n vv q ≤ 6 * vv.length := by
  unfold ptsTo
  induction vv with
  | nil => simp
  | cons v vv ih =>
    have h1 := ih (fun x hx => hv x (by simp [hx]))
    have h2 := (hv v (by simp)).idx_lt hq
    simp only [List.map_cons, List.sum_cons, List.length_cons]
    omega
theorem ptsAt_end (n : Nat) (vv : List (List Int)) (v : List Int) : ptsAt n vv vv.length v 0 = ptsL n vv := by
  apply List.ext_getElem
  · simp [ptsAt, ptsL]
  · intro i h1 h2
    simp [ptsAt, ptsL, ptsPart]

/-- the first of the greatest -/
def bestTo (l : List Int) : Nat → Nat
  | 0 => 0
  | k + 1 => if l.getD (bestTo l k) 0 < l.getD k 0 then k else bestTo l k
theorem bestTo_t {l : List Int} {k : Nat} (h : l.getD (bestTo l k) 0 < l.getD k 0) : bestTo l (k + 1) = k := by rw [bestTo, if_pos h]
theorem bestTo_f {l : List Int} {k : Nat} (h : ¬ l.getD (bestTo l k) 0 < l.getD k 0) : bestTo l (k + 1) = bestTo l k := by rw [bestTo, if_neg h]
theorem bestTo_lt (l : List Int) (k : Nat) (h : 0 < l.length) (hk : k ≤ l.length) : bestTo l k < l.length := by
  induction k with
  | zero => exact h
  | succ k ih =>
    unfold bestTo
    split
    · omega
    · exact ih (by omega)
theorem bestTo_max (l : List Int) (k i : Nat) (h : i < k) : l.getD i 0 ≤ l.getD (bestTo l k) 0 := by
  induction k with
  | zero => omega
  | succ k ih =>
    by_cases hd : l.getD (bestTo l k) 0 < l.getD k 0
    · rw [bestTo_t hd]
      rcases Nat.lt_succ_iff_lt_or_eq.1 h with h | rfl
      · have := ih h; omega
      · omega
    · rw [bestTo_f hd]
      rcases Nat.lt_succ_iff_lt_or_eq.1 h with h | rfl
      · exact ih h
      · omega

/-- more than half of the rows have i before k -/
def beatB (vv : List (List Int)) (i k : Nat) : Bool := decide ((vv.length : Int) < 2 * (befN vv i k : Int))
def fbpB (vv : List (List Int)) (n i : Nat) : Bool := (List.range n).all (fun k => decide (i = k) || beatB vv i k)
def fbpN (vv : List (List Int)) (n : Nat) : Nat := (List.range n).findIdx (fbpB vv n)
def circP (vv : List (List Int)) (a b c : Nat) : Bool := decide (a ≠ b ∧ b ≠ c ∧ a ≠ c) && (beatB vv a b && (beatB vv b c && beatB vv c a))
def circB (vv : List (List Int)) (n : Nat) : Bool := (List.range n).any (fun a => (List.range n).any (fun b => (List.range n).any (fun c => circP vv a b c)))
theorem range_any_succ {p : Nat → Bool} {k : Nat} (h1 : (List.range k).any p = false) (h2 : p k = false) : (List.range (k + 1)).any p = false := by
  rw [List.range_succ, List.any_append, h1]; simp [h2]
theorem range_any_at {p : Nat → Bool} {k n : Nat} (hk : k < n) (h : p k = true) : (List.range n).any p = true := by
  rw [List.any_eq_true]; exact ⟨k, by simpa using hk, h⟩
end Go.Proofs.Ytomghkfkbpkbdaa
