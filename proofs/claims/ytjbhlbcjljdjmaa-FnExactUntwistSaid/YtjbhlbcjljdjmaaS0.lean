/- Words for structs by value: sizes. No program in sight. -/
import Derived.Test.YtjbhlbcjljdjmaaM4
namespace Go.Proofs.Ytjbhlbcjljdjmaa
open Go.RowKit
/-- A size is taken off; memory may have come. -/
def SzB (m : Int) (tot : Nat) (w : World) (e : Ending) (w' : World) : Prop := ∃ r : Int, e = .returned (.int .i64 r) ∧ Below w.heap.size w w' ∧ r ≤ m ∧ (0 ≤ r → (tot : Int) = m - r)
theorem szB_of {P : Program} {f : FuncId} {args : Array Value} {m : Int} {tot : Nat} {w : World} (h : Calls P f args w (SzPost m tot w)) : Calls P f args w (SzB m tot w) :=
  h.mono fun _ _ ⟨r, he, hw, h1, h2⟩ => ⟨r, he, eq_below hw, h1, h2⟩
theorem fresh_mono {B B' : Nat} {w w' : World} {S : List Nat} (h : Fresh B w S) (hB : B' ≤ B) (hw : w.heap.size ≤ w'.heap.size) : Fresh B' w' S := ⟨h.1, fun b hb => by have := h.2 b hb; omega⟩
theorem nodup2 {S T : List Nat} (h : (S ++ T).Nodup) : S.Nodup ∧ T.Nodup ∧ (∀ b ∈ S, b ∉ T) ∧ (∀ b ∈ T, b ∉ S) := by
  obtain ⟨h1, h2, h3⟩ := List.nodup_append.1 h
  exact ⟨h1, h2, fun b hs ht => h3 b hs b ht rfl, fun b ht hs => h3 b hs b ht rfl⟩
theorem fresh_append {B0 B1 : Nat} {w0 w1 w' : World} {S0 S1 : List Nat} (f0 : Fresh B0 w0 S0) (f1 : Fresh B1 w1 S1) (h0 : B0 ≤ B1) (h1 : w0.heap.size ≤ B1) (h2 : w1.heap.size ≤ w'.heap.size) (h3 : w0.heap.size ≤ w1.heap.size) : Fresh B0 w' (S0 ++ S1) := by
  refine ⟨List.nodup_append.2 ⟨f0.1, f1.1, fun a ha b hb e => ?_⟩, fun b hb => ?_⟩
  · have := f0.2 a ha
    have := f1.2 b hb
    omega
  · rcases List.mem_append.1 hb with hb | hb
    · have := f0.2 b hb; omega
    · have := f1.2 b hb; omega
end Go.Proofs.Ytjbhlbcjljdjmaa
