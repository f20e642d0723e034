/- Several texts in one: append at a step of a region that draws its order; a block whose cells are known. Over any program. A law for regions that draw their order and only make memory, ahead of one last operation. Over any program. -/
import Derived.Maps.AppendAt
import Derived.Deep.RegionHeld3
import Derived.Test.YtolfclbcfddhpaaDoorBdA1x6
namespace Go.Proofs.YtolfclbcfddhpaaDoor
open Go.RowKit
section
variable {P : Program} (w : World)
end
def Loc (w : World) (b : Nat) (cs : List Value) : Prop := ∀ (i : Nat) (u : Value), cs[i]? = some u → w.cell? ⟨b, i, none⟩ = some u ∧ w.frozen? ⟨b, i, none⟩ = false
section
variable {w w' : World} {b : Nat} {cs : List Value}
theorem Loc.below (h : Loc w b cs) (hb : Below w.heap.size w w') : Loc w' b cs := fun i u hu => ⟨carry hb (h i u hu).1, carryF hb (h i u hu).1 (h i u hu).2⟩
theorem Loc.drew (h : Loc w b cs) : Loc w.drew b cs := h
theorem Loc.alloc (h : Loc w b cs) (o : Obj) : Loc (w.alloc o) b cs := h.below ((Below.refl _ _).alloc (Nat.le_refl _) o)
theorem Loc.chg {S : List Nat} (h : Loc w b cs) (hc : Chg S w w') (hn : b ∉ S) : Loc w' b cs := fun i u hu => ⟨carryChg hc (h i u hu).1 hn, carryChgF hc (h i u hu).1 (h i u hu).2 hn⟩
theorem Loc.new (w : World) (cs : Array Value) (t : TypeId) : Loc (w.alloc (.cells cs t)) w.heap.size cs.toList := fun i u hu => by
 refine ⟨?_, ?_⟩
 ·rw [cell_of_row _ _ i cs t (0, 0) (heap_alloc_new w _)]; simpa using hu
 ·exact frozen_of_row _ _ i _ _ (heap_alloc_new w _)
end
open Go.RowKit
section
variable {P : Program} {ops : Array Oper} {Q : Exit → Act → World → Prop}
def slotOf (a : Act) (o : Oper) : Value := match o.dst with | some d => a.tmps.getD d undef | none => undef
def AllP {α : Type} (f : α → Prop) : List α → Prop
 | [] => True
 | x :: l => f x ∧ AllP f l
theorem AllP.of {α : Type} {f : α → Prop} {l : List α} (h : ∀ x ∈ l, f x) : AllP f l := by
 induction l with
 | nil => trivial
 | cons y l ih => exact ⟨h y List.mem_cons_self, ih (fun x hx => h x (List.mem_cons_of_mem _ hx))⟩
def keptL (ops : Array Oper) (L n : Nat) : List Nat := (List.range n).filter fun k => (List.range L).all fun j => !((ops[j]?).bind (·.dst) == some k)
structure Agree (L n : Nat) (ops : Array Oper) (a0 a : Act) : Prop where
 size : a.tmps.size = n
 defers : a.defers = a0.defers
 kept : ∀ k, (keptL ops L n).contains k = true → a.tmps.getD k undef = a0.tmps.getD k undef
def depsOf (o : Oper) : List Nat := (o.after.toList.filter (Region.binds .any)).map (·.on)
def ghNew (gh : Nat → Nat) (B c : Nat) : Nat → Nat := fun b => if b < B then gh b else c
def MadePost (a : Act) (dst : Option Tmp) (w : World) (J : World → Prop) (q : Value → World → Prop) (e : Exit) (a' : Act) (w' : World) : Prop := e = .normal ∧ ∃ v, a' = a.put dst v ∧ q v w' ∧ J w' ∧ Below w.heap.size w w'
def StepAt (L n : Nat) (P : Program) (ops : Array Oper) (a0 : Act) (J : World → Prop) (cl : Nat → Nat) (p : Nat → Value → (Nat → Nat) → World → Prop) (i : Nat) (o : Oper) : Prop :=
 ∀ (a : Act) (gh : Nat → Nat) (w : World), Agree L n ops a0 a → J w → (∀ j, (depsOf o).contains j = true → ∀ oj, ops[j]? = some oj → p j (slotOf a oj) gh w) →
  wpList P #[o] (MadePost a o.dst w J (fun v w' => p i v (ghNew gh w.heap.size (cl i)) w')) [o] a w
def StepsFrom (L n : Nat) (P : Program) (ops : Array Oper) (a0 : Act) (J : World → Prop) (cl : Nat → Nat) (p : Nat → Value → (Nat → Nat) → World → Prop) : Nat → Nat → List Oper → Prop
 | 0, _, _ => True
 | _ + 1, _, [] => True
 | m + 1, i, o :: l => StepAt L n P ops a0 J cl p i o ∧ StepsFrom L n P ops a0 J cl p m (i + 1) l
theorem StepsFrom.at_ {L n : Nat} {a0 : Act} {J : World → Prop} {cl : Nat → Nat} {p : Nat → Value → (Nat → Nat) → World → Prop} (m : Nat) : ∀ (l : List Oper) (k : Nat), StepsFrom L n P ops a0 J cl p m k l → ∀ (i : Nat) (o : Oper), i < m → l[i]? = some o → StepAt L n P ops a0 J cl p (k + i) o := by
 induction m with
 | zero => intro l k _ i o h; omega
 | succ m ih =>
  intro l k h i o hi ho
  match l, h with
  | [], _ => simp at ho
  | x :: l, h =>
   cases i with
   | zero => simp at ho; subst ho; exact h.1
   | succ i =>
    have := ih l (k + 1) h.2 i o (by omega) (by simpa using ho)
    rwa [show k + 1 + i = k + (i + 1) by omega] at this
end
end Go.Proofs.YtolfclbcfddhpaaDoor
