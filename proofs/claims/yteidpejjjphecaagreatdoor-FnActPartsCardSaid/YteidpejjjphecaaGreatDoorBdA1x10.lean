/- Several texts in one: Contracts of the small functions on plain numbers: within, l01In, ThreadOk, PullThread, eqThread, toThread. No conditions beside well-formed ints. Plain law: with n - 1 limbs over n joints, 'all joints are reached' and 'no limb closes a circle' are one. No program in sight. Plain lists of numbers: ascending, inserted, sorted. No program in sight. Words for memory: slices that can be read, slices that the call owns; lists of flat records in them. No program in sight. Plain law of bodies: 'all joints are reached' by rounds over the limbs, and 'no limb closes a circle', are one. No program in sight. More words for memory: records that are marked, one after the other; stores into a row. No program in sight. append onto a row of the call's own, from whatever slice that can be read. Over any program. Footprints: which blocks a value owns; a step that writes into the blocks of a footprint alone. No program in sight. Words for structs by value: sizes. No program in sight. Votes, in plain words: the place of a number in a list, points, who is before whom. No program in sight. -/
import Derived.Test.YteidpejjjphecaaGreatDoorRows
import Derived.WalkKit
import Derived.WalkSpells
import Derived.WalkLawsBesides
import Derived.Lib.Hide
namespace Go.Proofs.YteidpejjjphecaaGreatDoor
open Go.RowKit
theorem qS {B : Nat} {a w : World} {p : Addr} (h : Below B a w) (v : Value) (hp : B ≤ p.block := by first | omega | (simp <;> omega)) : Below B a (w.setCell p v) := h.setCell hp v
theorem qA {B : Nat} {a w : World} (h : Below B a w) (o : Obj) (hp : B ≤ w.heap.size := by first | omega | (simp <;> omega)) : Below B a (w.alloc o) := h.alloc hp o
theorem qD {B : Nat} {a w : World} (h : Below B a w) : Below B a w.drew := h.drew
theorem qN {B : Nat} {a w : World} (h : Below B a w) (n : Nat) : Below B a (w.drewN n) := h.trans ⟨rfl, rfl, rfl, Nat.le_refl _, fun _ _ => rfl⟩
theorem qT {B C : Nat} {a b c : World} (h : Below B a b) (k : Below C b c) (hp : B ≤ C := by first | omega | (simp <;> omega)) : Below B a c := h.trans (k.mono hp)
theorem bl_trans {a b c : World} (h : Below a.heap.size a b) (k : Below b.heap.size b c) : Below a.heap.size a c := h.trans (k.mono h.size)
theorem ret_bool {a b : Bool} (h : a = b) : Ending.returned (.bool a) = .returned (.bool b) := by rw [h]
theorem ret_int {a b : Int} (h : a = b) : Ending.returned (.int .i64 a) = .returned (.int .i64 b) := by rw [h]
def inB (n a b : Int) : Bool := decide (a ≤ n) && decide (n ≤ b)
theorem inB_iff {n a b : Int} : inB n a b = true ↔ a ≤ n ∧ n ≤ b := by simp [inB]
theorem within_any (n a b : Int) (w : World) :
  Calls Tryz.prog 32 #[.int .i64 n, .int .i64 a, .int .i64 b] w fun e w' => e = .returned (.bool (inB n a b)) ∧ w = w' := by
 by_cases h1 : a ≤ n <;> by_cases h2 : n ≤ b
 all_goals
  have H : inB n a b = (decide (a ≤ n) && decide (n ≤ b)) := rfl
  simp only [h1, h2, decide_true, decide_false, Bool.and_self, Bool.and_true, Bool.and_false] at H
  have H' := Lib.hid H
  clear H
  go_enter Tryz.func32, Tryz.ntmps32
  go_wp2
  go_ret
  exact ⟨by rw [H'.out]; rfl, rfl⟩
theorem l01In_any (n a b : Int) (w : World) :
  Calls Tryz.prog 77 #[.int .i64 n, .int .i64 a, .int .i64 b] w fun e w' => e = .returned (.bool (inB n a b)) ∧ w = w' := by
 by_cases h1 : a ≤ n <;> by_cases h2 : n ≤ b
 all_goals
  have H : inB n a b = (decide (a ≤ n) && decide (n ≤ b)) := rfl
  simp only [h1, h2, decide_true, decide_false, Bool.and_self, Bool.and_true, Bool.and_false] at H
  have H' := Lib.hid H
  clear H
  go_enter Tryz.func77, Tryz.ntmps77
  go_wp2
  go_ret
  exact ⟨by rw [H'.out]; rfl, rfl⟩
theorem two {P : Program} {f : FuncId} {args : Array Value} {w : World} {c : Bool} {R : Ending → World → Prop}
  (h : Calls P f args w fun e w' => e = .returned (.bool c) ∧ w = w')
  (k1 : Hid (c = true) → R (.returned (.bool true)) w) (k2 : Hid (c = false) → R (.returned (.bool false)) w) : Calls P f args w R := by
 refine h.mono ?_
 rintro e w' ⟨rfl, rfl⟩
 cases c
 ·exact k2 rfl
 ·exact k1 rfl
theorem twoB {P : Program} {f : FuncId} {args : Array Value} {w : World} {c : Bool} {R : Ending → World → Prop}
  (h : Calls P f args w fun e w' => e = .returned (.bool c) ∧ Below w.heap.size w w')
  (k1 : ∀ w', Hid (c = true) → Below w.heap.size w w' → R (.returned (.bool true)) w') (k2 : ∀ w', Hid (c = false) → Below w.heap.size w w' → R (.returned (.bool false)) w') : Calls P f args w R := by
 refine h.mono ?_
 rintro e w' ⟨rfl, hb⟩
 cases c
 ·exact k2 w' rfl hb
 ·exact k1 w' rfl hb
theorem carry {w w' : World} {b o : Nat} {v : Value} (hb : Below w.heap.size w w') (h : w.cell? ⟨b, o, none⟩ = some v) : w'.cell? ⟨b, o, none⟩ = some v :=
 (hb.cell (p := ⟨b, o, none⟩) (World.block_lt_of_cell? w _ h)).trans h
theorem cell_alloc {w : World} {p : Addr} {v : Value} (o : Obj) (h : w.cell? p = some v) : (w.alloc o).cell? p = some v := (World.cell?_alloc_lt w o p (World.block_lt_of_cell? w _ h)).trans h
theorem carryF {w w' : World} {b o : Nat} {v : Value} (hb : Below w.heap.size w w') (h : w.cell? ⟨b, o, none⟩ = some v) (hf : w.frozen? ⟨b, o, none⟩ = false) : w'.frozen? ⟨b, o, none⟩ = false :=
 (hb.frozen (p := ⟨b, o, none⟩) (World.block_lt_of_cell? w _ h)).trans hf
end Go.Proofs.YteidpejjjphecaaGreatDoor

namespace Go.Proofs.YteidpejjjphecaaGreatDoor
abbrev Edge := Nat × Nat
end Go.Proofs.YteidpejjjphecaaGreatDoor

namespace Go.Proofs.YteidpejjjphecaaGreatDoor
def allB (a b : Int) (l : List Int) : Bool := l.all (fun n => inB n a b)
def ascAt (l : List Int) (i : Nat) : Bool := i == 0 || decide (l.getD (i - 1) 0 < l.getD i 0)
def ascB (l : List Int) : Bool := (List.range l.length).all (ascAt l)
def strictB (l : List Int) (a b : Int) : Bool := ascB l && allB a b l
def putF (n : Int) : List Int → List Int
 | [] => [n]
 | x :: xs => if n ≤ x then n :: x :: xs else x :: putF n xs
def sortF (l : List Int) : List Int := l.foldl (fun acc x => putF x acc) []
def orderB (l : List Int) : Bool := inB l.length 1 7 && strictB (sortF l) 0 (l.length - 1)
theorem putF_perm (n : Int) (l : List Int) : (putF n l).Perm (n :: l) := by
 induction l with
 | nil => exact .refl _
 | cons x xs ih =>
  unfold putF; split
  ·exact .refl _
  ·exact (List.Perm.cons x ih).trans (List.Perm.swap n x xs)
theorem foldPut_perm (l : List Int) : ∀ acc : List Int, (l.foldl (fun acc x => putF x acc) acc).Perm (acc ++ l) := by
 induction l with
 | nil => intro acc; simp
 | cons x xs ih =>
  intro acc
  refine (ih _).trans ?_
  refine (List.Perm.append_right xs (putF_perm x acc)).trans ?_
  exact (List.perm_middle (a := x) (l₁ := acc) (l₂ := xs)).symm
theorem sortF_perm (l : List Int) : (sortF l).Perm l := by have := foldPut_perm l []; simpa [sortF] using this
theorem sortF_len (l : List Int) : (sortF l).length = l.length := (sortF_perm l).length_eq
theorem putF_sorted (n : Int) (l : List Int) (h : l.Pairwise (· ≤ ·)) : (putF n l).Pairwise (· ≤ ·) := by
 induction l with
 | nil => simp [putF]
 | cons x xs ih =>
  rw [List.pairwise_cons] at h
  unfold putF; split
  ·rename_i hle
   rw [List.pairwise_cons, List.pairwise_cons]
   refine ⟨fun y hy => ?_, h⟩
   rcases List.mem_cons.1 hy with rfl | hy
   ·exact hle
   ·exact Int.le_trans hle (h.1 y hy)
  ·rename_i hle
   rw [List.pairwise_cons]
   refine ⟨fun y hy => ?_, ih h.2⟩
   rcases List.mem_cons.1 ((putF_perm n xs).mem_iff.1 hy) with rfl | hy
   ·omega
   ·exact h.1 y hy
theorem foldPut_sorted (l : List Int) : ∀ acc : List Int, acc.Pairwise (· ≤ ·) → (l.foldl (fun acc x => putF x acc) acc).Pairwise (· ≤ ·) := by
 induction l with
 | nil => intro acc h; exact h
 | cons x xs ih => intro acc h; exact ih _ (putF_sorted x acc h)
theorem sortF_sorted (l : List Int) : (sortF l).Pairwise (· ≤ ·) := foldPut_sorted l [] List.Pairwise.nil
theorem ascB_iff (l : List Int) : ascB l = true ↔ ∀ i, i + 1 < l.length → l.getD i 0 < l.getD (i + 1) 0 := by
 unfold ascB
 rw [List.all_eq_true]
 constructor
 ·intro h i hi
  have := h (i + 1) (by simpa using hi)
  simpa [ascAt] using this
 ·intro h i hi
  have hi' : i < l.length := by simpa using hi
  cases i with
  | zero => rfl
  | succ i => simp only [ascAt]; have := h i hi'; simp at this ⊢; exact this
theorem asc_of_pairwise (l : List Int) (h : l.Pairwise (· < ·)) : ascB l = true := by
 rw [ascB_iff]
 intro i hi
 have := List.pairwise_iff_getElem.1 h i (i + 1) (by omega) hi (by omega)
 simpa [List.getD_eq_getElem?_getD, List.getElem?_eq_getElem (show i < l.length by omega), List.getElem?_eq_getElem hi] using this
theorem pairwise_of_asc (l : List Int) (h : ascB l = true) : l.Pairwise (· < ·) := by
 rw [ascB_iff] at h
 rw [List.pairwise_iff_getElem]
 have key : ∀ d i, i + d + 1 < l.length → l.getD i 0 < l.getD (i + d + 1) 0 := by
  intro d
  induction d with
  | zero => intro i hi; exact h i hi
  | succ d ih => intro i hi; exact Int.lt_trans (ih i (by omega)) (h (i + d + 1) (by omega))
 intro i j hi hj hij
 have := key (j - i - 1) i (by omega)
 rw [show i + (j - i - 1) + 1 = j by omega] at this
 simpa [List.getD_eq_getElem?_getD, List.getElem?_eq_getElem hi, List.getElem?_eq_getElem hj] using this
theorem sorted_nodup_iff (l : List Int) (h : l.Pairwise (· ≤ ·)) : l.Pairwise (· < ·) ↔ l.Nodup := by
 constructor
 ·intro h'; exact h'.imp (fun hab => by omega)
 ·intro hn
  have := List.Pairwise.and h hn
  exact this.imp (fun ⟨h1, h2⟩ => by omega)
theorem orderB_iff (l : List Int) : orderB l = true ↔ (1 ≤ l.length ∧ l.length ≤ 7) ∧ l.Nodup ∧ ∀ n ∈ l, 0 ≤ n ∧ n ≤ (l.length : Int) - 1 := by
 unfold orderB strictB allB
 rw [Bool.and_eq_true, Bool.and_eq_true, inB_iff, List.all_eq_true]
 have h1 : ascB (sortF l) = true ↔ l.Nodup := by
  rw [← (sortF_perm l).nodup_iff, ← sorted_nodup_iff _ (sortF_sorted l)]
  exact ⟨pairwise_of_asc _, asc_of_pairwise _⟩
 rw [h1]
 constructor
 ·rintro ⟨a, b, c⟩
  exact ⟨by omega, b, fun n hn => inB_iff.1 (c n ((sortF_perm l).mem_iff.2 hn))⟩
 ·rintro ⟨a, b, c⟩
  exact ⟨by omega, b, fun n hn => inB_iff.2 (c n ((sortF_perm l).mem_iff.1 hn))⟩
open Go.RowKit
section
variable {α : Type} {f : α → List Value} {size : Nat}
theorem len_flat (hf : ∀ a, (f a).length = size) (l : List α) : (l.flatMap f).length = l.length * size := by
 induction l with
 | nil => simp
 | cons a l ih => rw [List.flatMap_cons, List.length_append, hf, ih, List.length_cons, Nat.add_mul]; omega
theorem get_flat (hf : ∀ a, (f a).length = size) (l : List α) (k : Nat) (hk : k < l.length) (j : Nat) (hj : j < size) :
  (l.flatMap f)[k * size + j]? = (f l[k])[j]? := by
 induction l generalizing k with
 | nil => simp at hk
 | cons a l ih =>
  rw [List.flatMap_cons]
  cases k with
  | zero => rw [Nat.zero_mul, Nat.zero_add, List.getElem?_append_left (by rw [hf]; exact hj)]; rfl
  | succ k =>
   rw [List.getElem?_append_right (by rw [hf, Nat.add_mul]; omega), hf, show (k + 1) * size + j - size = k * size + j by rw [Nat.add_mul]; omega, ih k (by simpa using hk)]
   rfl
end
def RdS (w : World) (size : Nat) (v : Value) (n : Nat) (xs : List Value) : Prop :=
 xs.length = n * size ∧ ∃ A c, v = .slice A n c ∧ n ≤ c ∧ c ≤ maxLen ∧ (0 < n → ∃ g off, A = some ⟨g, off, none⟩ ∧ ∀ j u, xs[j]? = some u → w.cell? ⟨g, off + j, none⟩ = some u)
def RdL {α : Type} (f : α → List Value) (size : Nat) (w : World) (v : Value) (l : List α) : Prop := RdS w size v l.length (l.flatMap f)
section
variable {w w' : World} {size n : Nat} {v : Value} {xs : List Value}
theorem RdS.keep (h : RdS w size v n xs) (hb : ∀ p : Addr, ∀ u, w.cell? p = some u → w'.cell? p = some u) : RdS w' size v n xs := by
 obtain ⟨h1, A, c, h2, h3, h4, h5⟩ := h
 refine ⟨h1, A, c, h2, h3, h4, fun hn => ?_⟩
 obtain ⟨g, off, hA, hc⟩ := h5 hn
 exact ⟨g, off, hA, fun j u hu => hb _ _ (hc j u hu)⟩
theorem cell_below {B : Nat} (hb : Below B w w') (hB : w.heap.size ≤ B) (p : Addr) (u : Value) (h : w.cell? p = some u) : w'.cell? p = some u :=
 (hb.cell (p := p) (Nat.lt_of_lt_of_le (World.block_lt_of_cell? w p h) hB)).trans h
theorem RdS.below (h : RdS w size v n xs) (hb : Below w.heap.size w w') : RdS w' size v n xs := h.keep (cell_below hb (Nat.le_refl _))
theorem RdS.form (h : RdS w size v n xs) : ∃ A c, v = .slice A n c ∧ n ≤ c ∧ c ≤ maxLen := by
 obtain ⟨_, A, c, h2, h3, h4, _⟩ := h
 exact ⟨A, c, h2, h3, h4⟩
theorem RdS.at_ {A : Option Addr} {c : Nat} (h : RdS w size (.slice A n c) n xs) (hs : 0 < size) (hn : 0 < n) : ∃ g off, A = some ⟨g, off, none⟩ ∧ g < w.heap.size ∧ ∀ j u, xs[j]? = some u → w.cell? ⟨g, off + j, none⟩ = some u := by
 obtain ⟨h1, A', c', h2, h3, h4, h5⟩ := h
 injection h2 with e1 e2 e3
 subst e1
 obtain ⟨g, off, hA, hc⟩ := h5 hn
 have hl : 0 < xs.length := by rw [h1]; exact Nat.mul_pos hn hs
 exact ⟨g, off, hA, World.block_lt_of_cell? w _ (hc 0 xs[0] (List.getElem?_eq_getElem hl)), hc⟩
theorem RdS.of_own {B : Nat} {e : TypeId} (h : w.ownsRow B e size v n xs) : RdS w size v n xs := by
 refine ⟨h.1, ?_⟩
 rcases h.2 with ⟨rfl, rfl⟩ | ⟨g, cap, cur, rfl, _, hh, h1, h2, h3, h4⟩
 ·exact ⟨none, 0, rfl, Nat.le_refl _, by simp [maxLen], fun h => absurd h (by omega)⟩
 ·refine ⟨some ⟨g, 0, none⟩, cap, rfl, h1, h2, fun _ => ⟨g, 0, rfl, fun j u hu => ?_⟩⟩
  have := h.cells (g := g) rfl j u hu
  have hadd : (⟨g, 0, none⟩ : Addr).add j = ⟨g, 0 + j, none⟩ := by unfold Addr.add; split <;> simp_all
  rwa [hadd] at this
end
section
variable {α : Type} {f : α → List Value} {w w' : World} {size : Nat} {v : Value} {l : List α}
theorem RdL.below (h : RdL f size w v l) (hb : Below w.heap.size w w') : RdL f size w' v l := RdS.below h hb
theorem RdL.form (h : RdL f size w v l) : ∃ A c, v = .slice A l.length c ∧ l.length ≤ c ∧ c ≤ 9223372036854775807 := by
 obtain ⟨A, c, h1, h2, h3⟩ := RdS.form h
 exact ⟨A, c, h1, h2, by simpa [maxLen] using h3⟩
theorem RdL.cell {A : Option Addr} {c : Nat} (h : RdL f size w (.slice A l.length c) l) (hf : ∀ a, (f a).length = size) (hs : 0 < size) {k : Nat} (hk : k < l.length) :
  ∃ g off, A = some ⟨g, off, none⟩ ∧ g < w.heap.size ∧ ∀ j u, (f l[k])[j]? = some u → w.cell? ⟨g, off + k * size + j, none⟩ = some u := by
 obtain ⟨g, off, hA, hg, hc⟩ := RdS.at_ h hs (by omega)
 refine ⟨g, off, hA, hg, fun j u hu => ?_⟩
 have hj : j < size := by
  have := (List.getElem?_eq_some_iff.1 hu).1
  rwa [hf] at this
 rw [Nat.add_assoc]
 exact hc _ u (by rw [get_flat hf l k hk j hj]; exact hu)
end
theorem own_below {w w' : World} {B : Nat} {e : TypeId} {size n : Nat} {v : Value} {xs : List Value} (h : w.ownsRow B e size v n xs) (hb : Below w.heap.size w w') : w'.ownsRow B e size v n xs := by
 refine h.kept (row := none) ⟨hb.os, hb.tape, hb.output, hb.size, fun k hk _ => hb.block k hk⟩ ?_
 cases v.ownBlock <;> simp
theorem own_mono {w : World} {B B' : Nat} {e : TypeId} {size n : Nat} {v : Value} {xs : List Value} (h : w.ownsRow B e size v n xs) (hB : B' ≤ B) : w.ownsRow B' e size v n xs := by
 refine ⟨h.1, ?_⟩
 rcases h.2 with h | ⟨g, cap, cur, h1, h2, h3⟩
 ·exact .inl h
 ·exact .inr ⟨g, cap, cur, h1, by omega, h3⟩
/- lists, one element after the other -/
theorem take_snoc_l {α : Type} (l : List α) {k : Nat} (h : k < l.length) : l.take (k + 1) = l.take k ++ [l[k]] := by
 rw [List.take_succ_eq_append_getElem h]
theorem all_take_succ {α : Type} {p : α → Bool} {l : List α} {k : Nat} (h : k < l.length) (h1 : (l.take k).all p = true) (h2 : p l[k] = true) : (l.take (k + 1)).all p = true := by
 rw [take_snoc_l l h, List.all_append, h1]; simp [h2]
theorem all_take_end {α : Type} {p : α → Bool} {l : List α} {k : Nat} (h : ¬ k < l.length) (h1 : (l.take k).all p = true) : l.all p = true := by
 rwa [List.take_of_length_le (by omega)] at h1
theorem all_false_at {α : Type} {p : α → Bool} {l : List α} {k : Nat} (h : k < l.length) (h2 : p l[k] = false) : l.all p = false := by
 rw [List.all_eq_false]; exact ⟨l[k], List.getElem_mem h, by simp [h2]⟩
theorem sum_take_succ {α : Type} (g : α → Nat) (l : List α) {k : Nat} (h : k < l.length) : ((l.take (k + 1)).map g).sum = ((l.take k).map g).sum + g l[k] := by
 rw [List.take_succ_eq_append_getElem h, List.map_append, List.sum_append_nat]; simp
theorem foldl_take_succ {α β : Type} (g : β → α → β) (b : β) (l : List α) {k : Nat} (h : k < l.length) : (l.take (k + 1)).foldl g b = g ((l.take k).foldl g b) l[k] := by
 rw [List.take_succ_eq_append_getElem h, List.foldl_append]; rfl
def cStr (s : ByteArray) : List Value := [.string s]
theorem cStr_len (a : ByteArray) : (cStr a).length = 1 := rfl
theorem int_eq {a b : Int} (h : a = b) : Value.int .i64 a = .int .i64 b := by rw [h]
def cInt (n : Int) : List Value := [.int .i64 n]
theorem cInt_len (a : Int) : (cInt a).length = 1 := rfl
open Go.RowKit
/- bounds -/
/- counts -/
/- who is reached is joined with the start -/
def joined (es : List Edge) (k j : Nat) : Prop := ∀ p : Nat → Nat, (∀ e ∈ es, p e.1 = p e.2) → p j = p k
/- who is known stays known -/
open Go.RowKit
def markC (mk : Int → List Value) (st : Int) (n : Nat) (m : Int) : List Value := (List.range n).flatMap (fun i : Nat => mk (m + (i : Int) * st))
theorem own_form {w : World} {B : Nat} {e : TypeId} {size n : Nat} {v : Value} {xs : List Value} (h : w.ownsRow B e size v n xs) (hn : 0 < n) : ∃ g cap, v = .slice (some ⟨g, 0, none⟩) n cap := by
 rcases h.2 with ⟨_, h0⟩ | ⟨g, cap, cur, h1, _⟩
 ·omega
 ·exact ⟨g, cap, h1⟩
theorem flat_set {α : Type} {f : α → List Value} {size : Nat} (hf : ∀ a, (f a).length = size) (L : List α) (k : Nat) (hk : k < L.length) (j : Nat) (hj : j < size) (u : Value) (r : α) (hr : f r = (f L[k]).set j u) :
  (L.flatMap f).set (k * size + j) u = (L.set k r).flatMap f := by
 induction L generalizing k with
 | nil => simp at hk
 | cons a L ih =>
  cases k with
  | zero =>
   rw [List.flatMap_cons, Nat.zero_mul, Nat.zero_add, List.set_append_left _ _ (by rw [hf]; exact hj), List.set_cons_zero, List.flatMap_cons, hr]
   rfl
  | succ k =>
   rw [List.flatMap_cons, List.set_append_right _ _ (by rw [hf, Nat.add_mul]; omega), hf, show (k + 1) * size + j - size = k * size + j by rw [Nat.add_mul]; omega, List.set_cons_succ, List.flatMap_cons,
    ih k (by simpa using hk) (by simpa using hr)]
open Go.RowKit
section
variable {P : Program} (w : World)
theorem run_append_nil_src (base : Nat) (t ty e : TypeId) (i : TypeInfo) (size : Nat) (ht : P.underlying t = some (.slice e)) (hi : P.info? e = some i)
  (v : Value) (n : Nat) (xs : List Value) (hown : w.ownsRow base e size v n xs) (c : Nat) : (Builtin.append_ #[t, t] ty #[v, .slice none 0 c]).run P w = .ok v w := by
 rcases hown.2 with ⟨rfl, rfl⟩ | ⟨g, cap, cur, rfl, _, _, hnc, _⟩
 ·simp [Builtin.append_, run_underlying ht, sizeOf, typeInfo, hi, Builtin.lenOf, Builtin.firstCells]
 ·simp [Builtin.append_, run_underlying ht, sizeOf, typeInfo, hi, Builtin.lenOf, Builtin.firstCells, hnc, storeCells]
theorem run_appendR (base : Nat) (t ty e : TypeId) (i : TypeInfo) (z : Value) (size bytes : Nat) (ht : P.underlying t = some (.slice e)) (hi : P.info? e = some i) (hz : i.zero = some z)
  (hsize : i.size = size) (hby : i.bytes = bytes) (hzs : z.cells.size = size) (hsz : 0 < size)
  (v : Value) (n : Nat) (xs : List Value) (hown : w.ownsRow base e size v n xs)
  (u : Value) (m : Nat) (news : List Value) (hr : RdS w size u m news) (h1 : ∀ y ∈ news, y.oneCell' = true)
  (h63 : n + m ≤ maxLen) (hbytes : (n + m) * bytes ≤ 140737488355328) (hbase : base ≤ w.heap.size) :
  ∃ v' w', (Builtin.append_ #[t, t] ty #[v, u]).run P w = .ok v' w' ∧ w'.ownsRow base e size v' (n + m) (xs ++ news) ∧ w.grownBy w' v.ownBlock := by
 obtain ⟨hl, A, c, rfl, hmc, hc, hcells⟩ := hr
 rcases Nat.eq_zero_or_pos m with h0 | h0
 ·subst h0
  have hn : news = [] := List.eq_nil_of_length_eq_zero (by simpa using hl)
  subst hn
  rcases A with _ | ad
  ·exact ⟨v, w, run_append_nil_src w base t ty e i size ht hi v n xs hown c, by simpa using hown, World.grownBy.refl w _⟩
  ·obtain ⟨v', w', hrun, h2, h3, _⟩ := run_append_own (P := P) w base t ty e i z size bytes ht hi hz hsize hby hzs hsz v n xs hown ad 0 c [] hl (fun j u hu => by simp at hu) h1 h63 hbytes hbase
   exact ⟨v', w', hrun, h2, h3⟩
 ·obtain ⟨g, off, rfl, hcell⟩ := hcells h0
  obtain ⟨v', w', hrun, h2, h3, _⟩ := run_append_own (P := P) w base t ty e i z size bytes ht hi hz hsize hby hzs hsz v n xs hown ⟨g, off, none⟩ m c news hl
   (fun j u hu => by rw [Addr.add_lit]; exact hcell j u hu) h1 h63 hbytes hbase
  exact ⟨v', w', hrun, h2, h3⟩
theorem wpList_appendR {ops : Array Oper} {rest : List Oper} {o : Oper} {a : Act} {Q : Exit → Act → World → Prop} (hgd : o.guard = none) (s x : Operand) (t : TypeId)
  (ho : o.op = .call { callee := .builtin .append, args := #[s, x], argTypes := #[t, t] })
  (base : Nat) (e : TypeId) (i : TypeInfo) (z : Value) (size bytes : Nat) (ht : P.underlying t = some (.slice e)) (hi : P.info? e = some i) (hz : i.zero = some z)
  (hsize : i.size = size) (hby : i.bytes = bytes) (hzs : z.cells.size = size) (hsz : 0 < size)
  (v : Value) (n : Nat) (xs : List Value) (hs : a.eval s = v) (hown : w.ownsRow base e size v n xs)
  (u : Value) (m : Nat) (news : List Value) (hx : a.eval x = u) (hr : RdS w size u m news) (h1 : ∀ y ∈ news, y.oneCell' = true)
  (h63 : n + m ≤ maxLen) (hbytes : (n + m) * bytes ≤ 140737488355328) (hbase : base ≤ w.heap.size)
  (h : ∀ v' w', w'.ownsRow base e size v' (n + m) (xs ++ news) → w.grownBy w' v.ownBlock → wpList P ops Q rest (a.put o.dst v') w') : wpList P ops Q (o :: rest) a w := by
 refine wpList_plain hgd fun K hK => ?_
 obtain ⟨v', w', hrun, h2, h3⟩ := run_appendR (P := P) w base t o.type e i z size bytes ht hi hz hsize hby hzs hsz v n xs hown u m news hr h1 h63 hbytes hbase
 unfold Oper.wp execOp
 simp only [ho, resolve, invoke, builtin, Sem.run_bind, Sem.run_pure, Result.andThen_ok, List.map_toArray, List.map_cons, List.map_nil, hs, hx, hrun]
 exact hK _ _ (h v' w' h2 h3)
end
theorem below_own {w w' : World} {B : Nat} {e : TypeId} {size n : Nat} {v : Value} {xs : List Value} (hown : w.ownsRow B e size v n xs) (hg : w.grownBy w' v.ownBlock) (hB : B ≤ w.heap.size) : Below B w w' :=
 (Below.refl _ _).grown hg hB (fun k hk => (hown.lt k hk).1)
theorem oneCell_flat {α : Type} {f : α → List Value} (hf : ∀ a, ∀ y ∈ f a, y.oneCell' = true) (l : List α) : ∀ y ∈ l.flatMap f, y.oneCell' = true := by
 intro y hy
 obtain ⟨a, _, h⟩ := List.mem_flatMap.1 hy
 exact hf a y h
theorem rdS_new (w : World) (cs : Array Value) (t : TypeId) (size n : Nat) (hn : cs.size = n * size) (hm : n ≤ maxLen) : RdS (w.alloc (.cells cs t)) size (.slice (some ⟨w.heap.size, 0, none⟩) n n) n cs.toList :=
 ⟨by simpa using hn, some ⟨w.heap.size, 0, none⟩, n, rfl, Nat.le_refl _, hm, fun _ => ⟨w.heap.size, 0, rfl, fun j u hu => by
  rw [Nat.zero_add, cell_of_row _ _ j cs t (0, 0) (heap_alloc_new w _)]; simpa using hu⟩⟩
theorem rdS_newAt (w : World) (b : Nat) (hb : b = w.heap.size) (cs : Array Value) (t : TypeId) (size n : Nat) (hn : cs.size = n * size) (hm : n ≤ maxLen) : RdS (w.alloc (.cells cs t)) size (.slice (some ⟨b, 0, none⟩) n n) n cs.toList := by
 subst hb; exact rdS_new w cs t size n hn hm
open Go.RowKit
def Fresh (B : Nat) (w : World) (S : List Nat) : Prop := S.Nodup ∧ ∀ b ∈ S, B ≤ b ∧ b < w.heap.size
structure Chg (S : List Nat) (w w' : World) : Prop where
 os : w'.os = w.os
 tape : w'.tape = w.tape
 output : w'.output = w.output
 size : w.heap.size ≤ w'.heap.size
 block : ∀ k, k < w.heap.size → k ∉ S → w'.heap[k]? = w.heap[k]?
theorem Chg.of_below {w w' : World} (h : Below w.heap.size w w') (S : List Nat) : Chg S w w' := ⟨h.os, h.tape, h.output, h.size, fun k hk _ => h.block k hk⟩
theorem Chg.trans {S : List Nat} {a b c : World} (h : Chg S a b) (k : Chg S b c) : Chg S a c :=
 ⟨k.os.trans h.os, k.tape.trans h.tape, k.output.trans h.output, Nat.le_trans h.size k.size, fun i hi hn => (k.block i (Nat.lt_of_lt_of_le hi h.size) hn).trans (h.block i hi hn)⟩
theorem Chg.refl (S : List Nat) (w : World) : Chg S w w := ⟨rfl, rfl, rfl, Nat.le_refl _, fun _ _ _ => rfl⟩
theorem Chg.mono {S T : List Nat} {a b : World} (h : Chg S a b) (hs : ∀ k ∈ S, k ∈ T) : Chg T a b :=
 ⟨h.os, h.tape, h.output, h.size, fun k hk hn => h.block k hk (fun hm => hn (hs k hm))⟩
theorem chg_set {w w' : World} {S : List Nat} {g o : Nat} {u : Value} (h : Chg S w w') (hg : g ∈ S) : Chg S w (w'.setCell ⟨g, o, none⟩ u) :=
 ⟨h.os, h.tape, h.output, by simpa [World.setCell] using h.size, fun k hk hn => (Below.heap_setCell w' ⟨g, o, none⟩ u k (fun e => hn (by rw [show k = g from e]; exact hg))).trans (h.block k hk hn)⟩
theorem qC {w w' : World} {S : List Nat} {g o : Nat} {u : Value} (h : Chg S w w') (hg : g ∈ S := by simp) : Chg S w (w'.setCell ⟨g, o, none⟩ u) := chg_set h hg
theorem Chg.of_grown {w w' : World} {v : Value} (h : w.grownBy w' v.ownBlock) : Chg v.ownBlock.toList w w' :=
 ⟨h.os, h.tape, h.output, h.size, fun k hk hn => h.block k hk (fun e => hn (by rw [← e]; simp))⟩
theorem Below.chg {B : Nat} {a w w' : World} {S : List Nat} (h : Below B a w) (hc : Chg S w w') (hB : B ≤ w.heap.size) (hS : ∀ b ∈ S, B ≤ b) : Below B a w' :=
 h.trans ⟨hc.os, hc.tape, hc.output, hc.size, fun k hk => hc.block k (by omega) (fun hm => by have := hS k hm; omega)⟩
theorem carryChg {w w' : World} {S : List Nat} {b o : Nat} {v : Value} (hc : Chg S w w') (h : w.cell? ⟨b, o, none⟩ = some v) (hn : b ∉ S) : w'.cell? ⟨b, o, none⟩ = some v :=
 (World.cell?_of_block (w := w) (w' := w') (a := ⟨b, o, none⟩) (hc.block b (World.block_lt_of_cell? w _ h) hn)).trans h
theorem carryChgF {w w' : World} {S : List Nat} {b o : Nat} {v : Value} (hc : Chg S w w') (h : w.cell? ⟨b, o, none⟩ = some v) (hf : w.frozen? ⟨b, o, none⟩ = false) (hn : b ∉ S) : w'.frozen? ⟨b, o, none⟩ = false :=
 (World.frozen?_of_block (w := w) (w' := w') (a := ⟨b, o, none⟩) (hc.block b (World.block_lt_of_cell? w _ h) hn)).trans hf
theorem bl_alloc {w w' : World} {o : Obj} (h : Below (w.alloc o).heap.size (w.alloc o) w') : Below w.heap.size w w' :=
 ((Below.refl _ _).alloc (Nat.le_refl _) o).trans (h.mono (by simp))
def OwL {α : Type} (e : TypeId) (f : α → List Value) (size : Nat) (w : World) (S : List Nat) (v : Value) (l : List α) : Prop :=
 w.ownsRow 0 e size v l.length (l.flatMap f) ∧ S = v.ownBlock.toList
def MkL (e : TypeId) (mk : Int → List Value) (size : Nat) (w : World) (S : List Nat) (v : Value) (n : Nat) (m : Int) : Prop :=
 w.ownsRow 0 e size v n (markC mk size n m) ∧ S = v.ownBlock.toList
theorem own_chg {w w' : World} {B : Nat} {e : TypeId} {size n : Nat} {v : Value} {xs : List Value} {S : List Nat} (h : w.ownsRow B e size v n xs) (hc : Chg S w w') (hn : ∀ b ∈ v.ownBlock.toList, b ∉ S) : w'.ownsRow B e size v n xs := by
 refine ⟨h.1, ?_⟩
 rcases h.2 with h0 | ⟨g, cap, cur, rfl, hb, hg, r⟩
 ·exact .inl h0
 ·refine .inr ⟨g, cap, cur, rfl, hb, ?_, r⟩
  rw [hc.block g (Array.getElem?_eq_some_iff.1 hg).1 (hn g (by simp [Value.ownBlock]))]
  exact hg
section
variable {α : Type} {e : TypeId} {f : α → List Value} {mk : Int → List Value} {size : Nat} {w w' : World} {S T : List Nat} {v : Value} {l : List α} {n : Nat} {m : Int}
theorem OwL.mk_ {B : Nat} (h : w.ownsRow B e size v l.length (l.flatMap f)) : OwL e f size w v.ownBlock.toList v l := ⟨own_mono h (Nat.zero_le _), rfl⟩
theorem fresh_of {B : Nat} {xs : List Value} (h : w.ownsRow B e size v n xs) : Fresh B w v.ownBlock.toList := by
 refine ⟨by cases v.ownBlock <;> simp, fun b hb => h.lt b ?_⟩
 simpa using hb
theorem OwL.rd (h : OwL e f size w S v l) : RdL f size w v l := RdS.of_own h.1
theorem OwL.below (h : OwL e f size w S v l) (hb : Below w.heap.size w w') : OwL e f size w' S v l := ⟨own_below h.1 hb, h.2⟩
theorem OwL.chg (h : OwL e f size w S v l) (hc : Chg T w w') (hn : ∀ b ∈ S, b ∉ T) : OwL e f size w' S v l := ⟨own_chg h.1 hc (by rw [← h.2]; exact hn), h.2⟩
theorem MkL.rd (h : MkL e mk size w S v n m) : RdS w size v n (markC mk size n m) := RdS.of_own h.1
theorem MkL.below (h : MkL e mk size w S v n m) (hb : Below w.heap.size w w') : MkL e mk size w' S v n m := ⟨own_below h.1 hb, h.2⟩
theorem MkL.chg (h : MkL e mk size w S v n m) (hc : Chg T w w') (hn : ∀ b ∈ S, b ∉ T) : MkL e mk size w' S v n m := ⟨own_chg h.1 hc (by rw [← h.2]; exact hn), h.2⟩
end
open Go.RowKit
theorem fresh_mono {B B' : Nat} {w w' : World} {S : List Nat} (h : Fresh B w S) (hB : B' ≤ B) (hw : w.heap.size ≤ w'.heap.size) : Fresh B' w' S := ⟨h.1, fun b hb => by have := h.2 b hb; omega⟩
theorem nodup2 {S T : List Nat} (h : (S ++ T).Nodup) : S.Nodup ∧ T.Nodup ∧ (∀ b ∈ S, b ∉ T) ∧ (∀ b ∈ T, b ∉ S) := by
 obtain ⟨h1, h2, h3⟩ := List.nodup_append.1 h
 exact ⟨h1, h2, fun b hs ht => h3 b hs b ht rfl, fun b ht hs => h3 b hs b ht rfl⟩
open Go.RowKit
def neB (n : Int) (x : Int) : Bool := !(x == n)
def idxN (l : List Int) (n : Int) : Nat := l.findIdx (· == n)
def idxF (l : List Int) (n : Int) : Int := if idxN l n < l.length then (idxN l n : Int) else -1
theorem neB_t {n x : Int} (h : x ≠ n) : neB n x = true := by simp [neB, h]
theorem idxN_at {l : List Int} {n : Int} {k : Nat} (hk : k < l.length) (h1 : (l.take k).all (neB n) = true) (h2 : l[k] = n) : idxN l n = k := by
 unfold idxN
 rw [List.findIdx_eq hk]
 refine ⟨by simp [h2], fun j hj => ?_⟩
 have := List.all_eq_true.1 h1 (l[j]) (List.mem_take_iff_getElem.2 ⟨j, by omega, rfl⟩)
 simpa [neB] using this
theorem idxF_at {l : List Int} {n : Int} {k : Nat} (hk : k < l.length) (h1 : (l.take k).all (neB n) = true) (h2 : l[k] = n) : idxF l n = k := by
 rw [idxF, idxN_at hk h1 h2, if_pos hk]
theorem idxF_none {l : List Int} {n : Int} (h1 : l.all (neB n) = true) : idxF l n = -1 := by
 rw [idxF, if_neg]
 intro h
 have hg : (fun x : Int => x == n) (l[l.findIdx (· == n)]'h) = true := List.findIdx_getElem (w := h)
 have := List.all_eq_true.1 h1 _ (List.getElem_mem h)
 simp [neB] at this hg
 exact this hg
theorem idxN_mem {l : List Int} {n : Int} (h : n ∈ l) : idxN l n < l.length := by
 unfold idxN
 rw [List.findIdx_lt_length]
 exact ⟨n, h, by simp⟩
theorem idxF_mem {l : List Int} {n : Int} (h : n ∈ l) : idxF l n = idxN l n := by rw [idxF, if_pos (idxN_mem h)]
theorem idxF_le {l : List Int} {n : Int} : -1 ≤ idxF l n ∧ idxF l n < l.length := by
 unfold idxF
 split <;> omega
structure Vote (n : Nat) (v : List Int) : Prop where
 len : v.length = n
 nodup : v.Nodup
 bd : ∀ x ∈ v, 0 ≤ x ∧ x < n
theorem Vote.all {n : Nat} {v : List Int} (h : Vote n v) {p : Nat} (hp : p < n) : (p : Int) ∈ v := by
 have hm : (v.map Int.toNat).Nodup := by
  rw [List.nodup_iff_pairwise_ne, List.pairwise_map]
  refine List.Pairwise.imp_of_mem ?_ h.nodup
  intro a b ha hb hab e
  have := h.bd a ha
  have := h.bd b hb
  omega
 have hsub : v.map Int.toNat ⊆ List.range n := by
  intro x hx
  obtain ⟨a, ha, rfl⟩ := List.mem_map.1 hx
  have := h.bd a ha
  simp; omega
 have hlen : (v.map Int.toNat).length = n := by simp [h.len]
 have hmem : p ∈ v.map Int.toNat := Classical.byContradiction fun hc => by
  have := List.Nodup.length_le_of_subset (List.nodup_cons.2 ⟨hc, hm⟩) (fun x hx => by
   rcases List.mem_cons.1 hx with rfl | hx
   ·simpa using hp
   ·exact hsub hx : p :: v.map Int.toNat ⊆ List.range n)
  simp at this
  have := h.len
  omega
 obtain ⟨a, ha, e⟩ := List.mem_map.1 hmem
 have := h.bd a ha
 rw [show (p : Int) = a by omega]
 exact ha
end Go.Proofs.YteidpejjjphecaaGreatDoor
