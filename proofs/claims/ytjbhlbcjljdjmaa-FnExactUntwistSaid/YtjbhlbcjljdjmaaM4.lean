/- Footprints: which blocks a value owns; a step that writes into the blocks of a footprint alone. No program in sight. -/
import Derived.Test.YtjbhlbcjljdjmaaM3
namespace Go.Proofs.Ytjbhlbcjljdjmaa
open Go.RowKit

/-- The footprint S is new since block B, in the world w. -/
def Fresh (B : Nat) (w : World) (S : List Nat) : Prop := S.Nodup ∧ ∀ b ∈ S, B ≤ b ∧ b < w.heap.size
/-- From w to w' the blocks of S alone may have turned; blocks may have come. -/
structure Chg (S : List Nat) (w w' : World) : Prop where
  os : w'.os = w.os
  tape : w'.tape = w.tape
  output : w'.output = w.output
  size : w.heap.size ≤ w'.heap.size
  block : ∀ k, k < w.heap.size → k ∉ S → w'.heap[k]? = w.heap[k]?
theorem Chg.of_below {w w' : World} (h : Below w.heap.size w w') (S : List Nat) : Chg S w w' := ⟨h.os, h.tape, h.output, h.size, fun k hk _ => h.block k hk⟩
theorem Chg.trans {S : List Nat} {a b c : World} (h : Chg S a b) (k : Chg S b c) : Chg S a c :=
  ⟨k.os.trans h.os, k.tape.trans h.tape, k.output.trans h.output, Nat.le_trans h.size k.size, fun i hi hn => (k.block i (Nat.lt_of_lt_of_le hi h.size) hn).trans (h.block i hi hn)⟩
theorem Chg.refl (S : List Nat) (w : World) : Chg S w w := ⟨rfl, rfl, rfl, Nat.le_refl _, fun _ _ _ => rfl⟩
theorem Chg.mono {S T : List Nat} {a b : World} (h : Chg S a b) (hs : ∀ k ∈ S, k ∈ T) : Chg T a b :=
  ⟨h.os, h.tape, h.output, h.size, fun k hk hn => h.block k hk (fun hm => hn (hs k hm))⟩
theorem chg_set {w w' : World} {S : List Nat} {g o : Nat} {u : Value} (h : Chg S w w') (hg : g ∈ S) : Chg S w (w'.setCell ⟨g, o, none⟩ u) :=
  ⟨h.os, h.tape, h.output, by simpa [World.setCell] using h.size, fun k hk hn => (Below.heap_setCell w' ⟨g, o, none⟩ u k (fun e => hn (by rw [show k = g from e]; exact hg))).trans (h.block k hk hn)⟩
theorem Chg.of_grown {w w' : World} {v : Value} (h : w.grownBy w' v.ownBlock) : Chg v.ownBlock.toList w w' :=
  ⟨h.os, h.tape, h.output, h.size, fun k hk hn => h.block k hk (fun e => hn (by rw [← e]; simp))⟩
theorem Below.chg {B : Nat} {a w w' : World} {S : List Nat} (h : Below B a w) (hc : Chg S w w') (hB : B ≤ w.heap.size) (hS : ∀ b ∈ S, B ≤ b) : Below B a w' :=
  h.trans ⟨hc.os, hc.tape, hc.output, hc.size, fun k hk => hc.block k (by omega) (fun hm => by have := hS k hm; omega)⟩
theorem carryChg {w w' : World} {S : List Nat} {b o : Nat} {v : Value} (hc : Chg S w w') (h : w.cell? ⟨b, o, none⟩ = some v) (hn : b ∉ S) : w'.cell? ⟨b, o, none⟩ = some v :=
  (World.cell?_of_block (w := w) (w' := w') (a := ⟨b, o, none⟩) (hc.block b (World.block_lt_of_cell? w _ h) hn)).trans h
theorem carryChgF {w w' : World} {S : List Nat} {b o : Nat} {v : Value} (hc : Chg S w w') (h : w.cell? ⟨b, o, none⟩ = some v) (hf : w.frozen? ⟨b, o, none⟩ = false) (hn : b ∉ S) : w'.frozen? ⟨b, o, none⟩ = false :=
  (World.frozen?_of_block (w := w) (w' := w') (a := ⟨b, o, none⟩) (hc.block b (World.block_lt_of_cell? w _ h) hn)).trans hf
theorem fresh_not {B : Nat} {w : World} {S : List Nat} {b : Nat} (h : Fresh B w S) (hb : b < B ∨ w.heap.size ≤ b) : b ∉ S := fun hm => by have := h.2 b hm; omega
theorem fresh_disj {B B' : Nat} {w w' : World} {S S' : List Nat} (h : Fresh B w S) (h' : Fresh B' w' S') (hl : w.heap.size ≤ B' ∨ w'.heap.size ≤ B) : ∀ b ∈ S, b ∉ S' := fun b hb hb' => by
  have h1 := h.2 b hb
  have h2 := h'.2 b hb'
  omega
theorem eq_below {w w' : World} (h : w = w') : Below w.heap.size w w' := by subst h; exact Below.refl _ _
theorem bl_alloc {w w' : World} {o : Obj} (h : Below (w.alloc o).heap.size (w.alloc o) w') : Below w.heap.size w w' :=
  ((Below.refl _ _).alloc (Nat.le_refl _) o).trans (h.mono (by simp))

/-- The slice v is the call's own: it holds the records l, in the blocks S (one, or none). -/
def OwL {α : Type} (e : TypeId) (f : α → List Value) (size : Nat) (w : World) (S : List Nat) (v : Value) (l : List α) : Prop :=
  w.ownsRow 0 e size v l.length (l.flatMap f) ∧ S = v.ownBlock.toList
/-- The same, of marks. -/
def MkL (e : TypeId) (mk : Int → List Value) (size : Nat) (w : World) (S : List Nat) (v : Value) (n : Nat) (m : Int) : Prop :=
  w.ownsRow 0 e size v n (markC mk size n m) ∧ S = v.ownBlock.toList
theorem own_chg {w w' : World} {B : Nat} {e : TypeId} {size n : Nat} {v : Value} {xs : List Value} {S : List Nat} (h : w.ownsRow B e size v n xs) (hc : Chg S w w') (hn : ∀ b ∈ v.ownBlock.toList, b ∉ S) : w'.ownsRow B e size v n xs := by
  refine ⟨h.1, ?_⟩
  rcases h.2 with h0 | ⟨g, cap, cur, rfl, hb, hg, r⟩
  · exact .inl h0
  · refine .inr ⟨g, cap, cur, rfl, hb, ?_, r⟩
    rw [hc.block g (Array.getElem?_eq_some_iff.1 hg).1 (hn g (by simp [Value.ownBlock]))]
    exact hg
section
variable {α : Type} {e : TypeId} {f : α → List Value} {mk : Int → List Value} {size : Nat} {w w' : World} {S T : List Nat} {v : Value} {l : List α} {n : Nat} {m : Int}
theorem OwL.mk_ {B : Nat} (h : w.ownsRow B e size v l.length (l.flatMap f)) : OwL e f size w v.ownBlock.toList v l := ⟨own_mono h (Nat.zero_le _), rfl⟩
theorem fresh_of {B : Nat} {xs : List Value} (h : w.ownsRow B e size v n xs) : Fresh B w v.ownBlock.toList := by
  refine ⟨by cases v.ownBlock <;> simp, fun b hb => h.lt b ?_⟩
  simpa using hb
theorem OwL.rd (h : OwL e f size w S v l) : RdL f size w v l := RdS.of_own h.1
theorem OwL.below (h : OwL e f size w S v l) (hb : Below w.heap.size w w') : OwL e f size w' S v l := ⟨own_below h.1 hb, h.2⟩
theorem OwL.chg (h : OwL e f size w S v l) (hc : Chg T w w') (hn : ∀ b ∈ S, b ∉ T) : OwL e f size w' S v l := ⟨own_chg h.1 hc (by rw [← h.2]; exact hn), h.2⟩
theorem MkL.rd (h : MkL e mk size w S v n m) : RdS w size v n (markC mk size n m) := RdS.of_own h.1
theorem MkL.below (h : MkL e mk size w S v n m) (hb : Below w.heap.size w w') : MkL e mk size w' S v n m := ⟨own_below h.1 hb, h.2⟩
theorem MkL.chg (h : MkL e mk size w S v n m) (hc : Chg T w w') (hn : ∀ b ∈ S, b ∉ T) : MkL e mk size w' S v n m := ⟨own_chg h.1 hc (by rw [← h.2]; exact hn), h.2⟩
end
end Go.Proofs.Ytjbhlbcjljdjmaa
