/- Contracts of the small functions on plain numbers: within, l01In, ThreadOk, PullThread, eqThread, toThread. No conditions beside well-formed ints. -/
import Derived.Test.YtjbhlbcjljdjmaaRows
import Derived.WalkKit
import Derived.WalkSpells
import Derived.WalkLawsBesides
import Derived.Lib.Hide
namespace Go.Proofs.Ytjbhlbcjljdjmaa
open Go.RowKit

/-- An int of 64 bits. -/
def I64 (n : Int) : Prop := -9223372036854775808 ≤ n ∧ n ≤ 9223372036854775807

theorem bl_refl (w : World) : Below w.heap.size w w := Below.refl _ _
theorem bl_trans {a b c : World} (h : Below a.heap.size a b) (k : Below b.heap.size b c) : Below a.heap.size a c := h.trans (k.mono h.size)
theorem ret_bool {a b : Bool} (h : a = b) : Ending.returned (.bool a) = .returned (.bool b) := by rw [h]
theorem ret_int {a b : Int} (h : a = b) : Ending.returned (.int .i64 a) = .returned (.int .i64 b) := by rw [h]

def inB (n a b : Int) : Bool := decide (a ≤ n) && decide (n ≤ b)
theorem inB_iff {n a b : Int} : inB n a b = true ↔ a ≤ n ∧ n ≤ b := by simp [inB]
theorem inB_false {n a b : Int} : inB n a b = false ↔ ¬ (a ≤ n ∧ n ≤ b) := by rw [← inB_iff]; simp

theorem within_any (n a b : Int) (w : World) :
    Calls Try.prog 53 #[.int .i64 n, .int .i64 a, .int .i64 b] w fun e w' => e = .returned (.bool (inB n a b)) ∧ w = w' := by
  by_cases h1 : a ≤ n <;> by_cases h2 : n ≤ b
  all_goals
    have H : inB n a b = (decide (a ≤ n) && decide (n ≤ b)) := rfl
    simp only [h1, h2, decide_true, decide_false, Bool.and_self, Bool.and_true, Bool.and_false] at H
    have H' := Lib.hid H
    clear H
    go_enter Try.func53, Try.ntmps53
    go_wp2
    go_ret
    exact ⟨by rw [H'.out]; rfl, rfl⟩
theorem l01In_any (n a b : Int) (w : World) :
    Calls Try.prog 126 #[.int .i64 n, .int .i64 a, .int .i64 b] w fun e w' => e = .returned (.bool (inB n a b)) ∧ w = w' := by
  by_cases h1 : a ≤ n <;> by_cases h2 : n ≤ b
  all_goals
    have H : inB n a b = (decide (a ≤ n) && decide (n ≤ b)) := rfl
    simp only [h1, h2, decide_true, decide_false, Bool.and_self, Bool.and_true, Bool.and_false] at H
    have H' := Lib.hid H
    clear H
    go_enter Try.func126, Try.ntmps126
    go_wp2
    go_ret
    exact ⟨by rw [H'.out]; rfl, rfl⟩

/-- A contract of a Bool function, taken in two ways; the fact is hidden from the walk. -/
theorem two {P : Program} {f : FuncId} {args : Array Value} {w : World} {c : Bool} {R : Ending → World → Prop}
    (h : Calls P f args w fun e w' => e = .returned (.bool c) ∧ w = w')
    (k1 : Hid (c = true) → R (.returned (.bool true)) w) (k2 : Hid (c = false) → R (.returned (.bool false)) w) : Calls P f args w R := by
  refine h.mono ?_
  rintro e w' ⟨rfl, rfl⟩
  cases c
  · exact k2 rfl
  · exact k1 rfl
/-- The same, of a range: the bounds are laid as inequalities. -/
theorem twoI {P : Program} {f : FuncId} {args : Array Value} {w : World} {n a b : Int} {R : Ending → World → Prop}
    (h : Calls P f args w fun e w' => e = .returned (.bool (inB n a b)) ∧ w = w')
    (k1 : Hid (inB n a b = true) → a ≤ n → n ≤ b → R (.returned (.bool true)) w) (k2 : Hid (inB n a b = false) → R (.returned (.bool false)) w) : Calls P f args w R :=
  two h (fun hc => k1 hc (inB_iff.1 hc.out).1 (inB_iff.1 hc.out).2) k2
/-- The same, of one that makes memory. -/
theorem twoB {P : Program} {f : FuncId} {args : Array Value} {w : World} {c : Bool} {R : Ending → World → Prop}
    (h : Calls P f args w fun e w' => e = .returned (.bool c) ∧ Below w.heap.size w w')
    (k1 : ∀ w', Hid (c = true) → Below w.heap.size w w' → R (.returned (.bool true)) w') (k2 : ∀ w', Hid (c = false) → Below w.heap.size w w' → R (.returned (.bool false)) w') : Calls P f args w R := by
  refine h.mono ?_
  rintro e w' ⟨rfl, hb⟩
  cases c
  · exact k2 w' rfl hb
  · exact k1 w' rfl hb
theorem bcell {W w1 : World} (hb : Below W.heap.size W w1) : (∀ b o, b < W.heap.size → w1.cell? ⟨b, o, none⟩ = W.cell? ⟨b, o, none⟩) ∧ (∀ b o, b < W.heap.size → w1.frozen? ⟨b, o, none⟩ = W.frozen? ⟨b, o, none⟩) :=
  ⟨fun b o h => hb.cell (p := ⟨b, o, none⟩) h, fun b o h => hb.frozen (p := ⟨b, o, none⟩) h⟩
theorem carry {w w' : World} {b o : Nat} {v : Value} (hb : Below w.heap.size w w') (h : w.cell? ⟨b, o, none⟩ = some v) : w'.cell? ⟨b, o, none⟩ = some v :=
  (hb.cell (p := ⟨b, o, none⟩) (World.block_lt_of_cell? w _ h)).trans h
theorem cell_alloc {w : World} {p : Addr} {v : Value} (o : Obj) (h : w.cell? p = some v) : (w.alloc o).cell? p = some v := (World.cell?_alloc_lt w o p (World.block_lt_of_cell? w _ h)).trans h
theorem carryF {w w' : World} {b o : Nat} {v : Value} (hb : Below w.heap.size w w') (h : w.cell? ⟨b, o, none⟩ = some v) (hf : w.frozen? ⟨b, o, none⟩ = false) : w'.frozen? ⟨b, o, none⟩ = false :=
  (hb.frozen (p := ⟨b, o, none⟩) (World.block_lt_of_cell? w _ h)).trans hf
end Go.Proofs.Ytjbhlbcjljdjmaa
