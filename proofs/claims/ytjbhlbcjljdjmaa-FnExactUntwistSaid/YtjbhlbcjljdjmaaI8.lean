/- Slices of slices of ints: the marks. -/
import Derived.Test.YtjbhlbcjljdjmaaI7
namespace Go.Proofs.Ytjbhlbcjljdjmaa
open Go.RowKit

theorem blocks_take_sub (vs : List Value) (k : Nat) : ∀ b ∈ blocksOf (vs.take k), b ∈ blocksOf vs := by
  intro b hb
  rw [← List.take_append_drop k vs, blocksOf, List.flatMap_append]
  exact List.mem_append_left _ hb
theorem blocks_apart {vs : List Value} (h : (blocksOf vs).Nodup) {k : Nat} {v : Value} (hv : vs[k]? = some v) : ∀ b ∈ v.ownBlock.toList, b ∉ blocksOf (vs.take k) := by
  intro b hb hm
  have hk := (List.getElem?_eq_some_iff.1 hv).1
  have e : vs = vs.take k ++ v :: vs.drop (k + 1) := by
    have := List.getElem_cons_drop hk
    rw [(List.getElem?_eq_some_iff.1 hv).2] at this
    rw [this, List.take_append_drop]
  rw [e, blocksOf, List.flatMap_append] at h
  have := (List.nodup_append.1 h).2.2 b hm b (by rw [List.flatMap_cons]; exact List.mem_append_left _ hb)
  exact this rfl
theorem blocks_take_succ {vs : List Value} {k : Nat} {v : Value} (hv : vs[k]? = some v) : blocksOf (vs.take (k + 1)) = blocksOf (vs.take k) ++ v.ownBlock.toList := by
  rw [List.take_add_one, hv]
  exact blocks_snoc _ _
/-- how many numbers the first k rows hold -/
def sumTo (ll : List (List Int)) (k : Nat) : Nat := ((ll.take k).map List.length).sum
theorem sumTo_end (ll : List (List Int)) : sumTo ll ll.length = (ll.map List.length).sum := by unfold sumTo; rw [List.take_length]
end Go.Proofs.Ytjbhlbcjljdjmaa
