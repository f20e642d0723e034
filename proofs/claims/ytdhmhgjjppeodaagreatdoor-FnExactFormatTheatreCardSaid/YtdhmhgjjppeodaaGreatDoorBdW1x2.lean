/- Several texts in one: The drawing of inputs: the cursor, a byte, a number below n. What is said of a drawn number is its range alone. The drawing of words. -/
import Derived.BigQuiet
import Derived.Deep.QuietTactic
import Derived.Test.YtdhmhgjjppeodaaGreatDoorBdA1x8
import Derived.Test.YtdhmhgjjppeodaaGreatDoorBdC1x9
namespace Go.Proofs.YtdhmhgjjppeodaaGreatDoor
open Go.RowKit
def cU8 (n : Int) : List Value := [.int .u8 n]
structure Cur (w0 w : World) (g : Nat) (A : Option Addr) (c : Nat) (bs : List Int) : Prop where
 code : RdL cU8 1 w0 (.slice A bs.length c) bs
 bytes : ∀ x ∈ bs, 0 ≤ x ∧ x ≤ 255
 len : bs.length ≤ 9223372036854775807
 base : w0.heap.size ≤ g
 below : Below w0.heap.size w0 w
 cells : ∃ i h : Int, w.heap[g]? = some (.cells #[.slice A bs.length c, .int .i64 i, .int .i64 h] 100 (0, 0)) ∧ 0 ≤ i ∧ i ≤ bs.length
section
variable {w0 w w' : World} {g : Nat} {A : Option Addr} {c : Nat} {bs : List Int}
theorem Cur.lt (h : Cur w0 w g A c bs) : g < w.heap.size := by
 obtain ⟨i, x, hg, _⟩ := h.cells
 exact (Array.getElem?_eq_some_iff.1 hg).1
theorem Cur.chg {S : List Nat} (h : Cur w0 w g A c bs) (hc : Chg S w w') (hn : g ∉ S) (hS : ∀ b ∈ S, w0.heap.size ≤ b) : Cur w0 w' g A c bs := by
 obtain ⟨i, x, hg, hi⟩ := h.cells
 exact ⟨h.code, h.bytes, h.len, h.base, Below.chg h.below hc h.below.size hS, i, x, (hc.block g h.lt hn).trans hg, hi⟩
theorem Cur.keep (h : Cur w0 w g A c bs) (hb : Below w.heap.size w w') : Cur w0 w' g A c bs :=
 h.chg (Chg.of_below hb []) (by simp) (by simp)
end
theorem chg_drewN {w w' : World} {S : List Nat} (h : Chg S w w') (n : Nat) : Chg S w (w'.drewN n) := ⟨h.os, h.tape, h.output, h.size, h.block⟩
open Go.RowKit
theorem Chg.alloc {S : List Nat} {w w' : World} (h : Chg S w w') (o : Obj) : Chg S w (w'.alloc o) := h.trans (Chg.of_below ((Below.refl _ _).alloc (Nat.le_refl _) o) S)
end Go.Proofs.YtdhmhgjjppeodaaGreatDoor
