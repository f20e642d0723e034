/- Contracts: slices of strings; LongestLine. -/
import Derived.Test.YthponccjbbkhaaaM1
import Derived.BigQuiet
namespace Go.Proofs.Ythponccjbbkhaaa
open Go.RowKit

def strsTot (l : List ByteArray) : Nat := l.length + (l.map ByteArray.size).sum
theorem strsTot_len {l : List ByteArray} (h : strsTot l ≤ 1048576) : l.length ≤ 1048576 := by unfold strsTot at h; omega
def longF (l : List ByteArray) : Nat := l.foldl (fun n s => max n s.size) 0
set_option maxHeartbeats 1000000 in
theorem implLongestLine_any (v : Value) (l : List ByteArray) (w : World) (h : RdL cStr 1 w v l) :
    Calls Try.prog 70 #[v] w fun e w' => e = .returned (.int .i64 (longF l)) ∧ w = w' := by
  obtain ⟨A, c, rfl, h1, h2⟩ := h.form
  go_enter Try.func70, Try.ntmps70
  go_wp2_with fail
  go_loop [3, 8] (fun t i => ∃ k : Nat, k ≤ l.length ∧ i = .int .i64 k ∧ t = .int .i64 (longF (l.take k))) (fun _ i => l.length - (intOf i).toNat)
  case atStart => exact ⟨0, Nat.zero_le _, rfl, rfl⟩
  case round =>
    obtain ⟨k, hk, rfl, rfl⟩ := hrel
    by_cases hlt : k < l.length
    · obtain ⟨g, off, rfl, hg, hc⟩ := h.cell cStr_len (by omega) hlt
      have k0 := hc 0 _ rfl
      simp only [Nat.add_zero, Nat.mul_one] at k0
      clear hc
      have hst : longF (l.take (k + 1)) = max (longF (l.take k)) l[k].size := foldl_take_succ _ _ l hlt
      have Hst := Lib.hid hst
      clear hst
      go_wp2_with fail
      go_round
      case rel => exact ⟨k + 1, by omega, by go_num, int_eq (by rw [Hst.out]; exact ite_max _ _)⟩
      case measure => simp [intOf]; omega
    · go_wp2_with fail
      go_ret
      exact ⟨ret_int (by rw [List.take_of_length_le (by omega)]), rfl⟩
theorem infoString : (Try.prog.info? 9).map (fun i => (i.zero, i.size, i.bytes)) = some (some (.string ByteArray.empty), 1, 16) := by kernel_rfl

end Go.Proofs.Ythponccjbbkhaaa
