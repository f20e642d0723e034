/- Contracts: slices of strings; LongestLine. -/
import Derived.Test.YtghjjaijmlkbdaaM1
import Derived.BigQuiet
namespace Go.Proofs.Ytghjjaijmlkbdaa
open Go.RowKit

def strsTot (l : List ByteArray) : Nat := l.length + (l.map ByteArray.size).sum
theorem strsTot_len {l : List ByteArray} (h : strsTot l ≤ 1048576) : l.length ≤ 1048576 := by unfold strsTot at h; omega
set_option maxHeartbeats 1000000 in
theorem szStringS_any (v : Value) (l : List ByteArray) (m : Int) (w : World) (h : RdL cStr 1 w v l) (hs : ∀ s ∈ l, s.size ≤ 9223372036854775807) (hm : 0 ≤ m ∧ m ≤ 1048576) :
    Calls Try.prog 21 #[v, .int .i64 m] w (SzPost m (strsTot l) w) := by
  obtain ⟨A, c, rfl, h1, h2⟩ := h.form
  have Hs := Lib.hid hs
  clear hs
  by_cases hlt : m < l.length
  · go_enter Try.func21, Try.ntmps21
    go_wp2_with fail
    go_ret
    exact ⟨-1, rfl, rfl, by omega, by omega⟩
  · go_enter Try.func21, Try.ntmps21
    go_wp2_with fail
    go_loop [1, 5] (fun t i => ∃ k : Nat, k ≤ l.length ∧ i = .int .i64 k ∧ ∃ r : Int, t = .int .i64 r ∧ 0 ≤ r ∧ r ≤ m ∧ Hid ((l.length : Int) + (((l.take k).map ByteArray.size).sum : Nat) = m - r)) (fun _ i => l.length - (intOf i).toNat)
    case atStart => exact ⟨0, Nat.zero_le _, rfl, _, rfl, by omega, by omega, by simp [Hid]; omega⟩
    case round =>
      obtain ⟨k, hk, rfl, r, rfl, hr0, hr1, hr⟩ := hrel
      by_cases hlt : k < l.length
      · obtain ⟨g, off, rfl, hg, hc⟩ := h.cell cStr_len (by omega) hlt
        have k0 := hc 0 _ rfl
        simp only [Nat.add_zero, Nat.mul_one] at k0
        clear hc
        have hsz := Hs.out l[k] (List.getElem_mem hlt)
        have hst := sum_take_succ ByteArray.size l hlt
        have Hst := Lib.hid hst
        clear hst
        by_cases hneg : r < l[k].size
        · go_wp2_with fail
          go_ret
          exact ⟨-1, rfl, rfl, by omega, by omega⟩
        · go_wp2_with fail
          go_round
          case rel => exact ⟨k + 1, by omega, by go_num, _, rfl, by omega, by omega, by have a := hr.out; have b := Hst.out; show _ = _; omega⟩
          case measure => simp [intOf]; omega
      · go_wp2_with fail
        go_ret
        refine ⟨r, rfl, rfl, hr1, fun _ => ?_⟩
        have := hr.out
        rw [List.take_of_length_le (by omega)] at this
        unfold strsTot
        omega
def longF (l : List ByteArray) : Nat := l.foldl (fun n s => max n s.size) 0
set_option maxHeartbeats 1000000 in
theorem implLongestLine_any (v : Value) (l : List ByteArray) (w : World) (h : RdL cStr 1 w v l) :
    Calls Try.prog 24 #[v] w fun e w' => e = .returned (.int .i64 (longF l)) ∧ w = w' := by
  obtain ⟨A, c, rfl, h1, h2⟩ := h.form
  go_enter Try.func24, Try.ntmps24
  go_wp2_with fail
  go_loop [3, 8] (fun t i => ∃ k : Nat, k ≤ l.length ∧ i = .int .i64 k ∧ t = .int .i64 (longF (l.take k))) (fun _ i => l.length - (intOf i).toNat)
  case atStart => exact ⟨0, Nat.zero_le _, rfl, rfl⟩
  case round =>
    obtain ⟨k, hk, rfl, rfl⟩ := hrel
    by_cases hlt : k < l.length
    · obtain ⟨g, off, rfl, hg, hc⟩ := h.cell cStr_len (by omega) hlt
      have k0 := hc 0 _ rfl
      simp only [Nat.add_zero, Nat.mul_one] at k0
      clear hc
      have hst : longF (l.take (k + 1)) = max (longF (l.take k)) l[k].size := foldl_take_succ _ _ l hlt
      have Hst := Lib.hid hst
      clear hst
      go_wp2_with fail
      go_round
      case rel => exact ⟨k + 1, by omega, by go_num, int_eq (by rw [Hst.out]; exact ite_max _ _)⟩
      case measure => simp [intOf]; omega
    · go_wp2_with fail
      go_ret
      exact ⟨ret_int (by rw [List.take_of_length_le (by omega)]), rfl⟩
set_option maxHeartbeats 1000000 in
theorem specLongestLine_any (v : Value) (l : List ByteArray) (w : World) (h : RdL cStr 1 w v l) :
    Calls Try.prog 22 #[v] w fun e w' => e = .returned (.int .i64 (longF l)) ∧ w = w' := by
  obtain ⟨A, c, rfl, h1, h2⟩ := h.form
  go_enter Try.func22, Try.ntmps22
  go_wp2_with fail
  go_loop [3, 4] (fun t i => ∃ k : Nat, k ≤ l.length ∧ i = .int .i64 k ∧ t = .int .i64 (longF (l.take k))) (fun _ i => l.length - (intOf i).toNat)
  case atStart => exact ⟨0, Nat.zero_le _, rfl, rfl⟩
  case round =>
    obtain ⟨k, hk, rfl, rfl⟩ := hrel
    by_cases hlt : k < l.length
    · obtain ⟨g, off, rfl, hg, hc⟩ := h.cell cStr_len (by omega) hlt
      have k0 := hc 0 _ rfl
      simp only [Nat.add_zero, Nat.mul_one] at k0
      clear hc
      have hst : longF (l.take (k + 1)) = max (longF (l.take k)) l[k].size := foldl_take_succ _ _ l hlt
      have Hst := Lib.hid hst
      clear hst
      go_wp2_with fail
      go_round
      case rel => exact ⟨k + 1, by omega, by go_num, int_eq (by rw [Hst.out]; exact ite_max _ _)⟩
      case measure => simp [intOf]; omega
    · go_wp2_with fail
      go_ret
      exact ⟨ret_int (by rw [List.take_of_length_le (by omega)]), rfl⟩
theorem infoString : (Try.prog.info? 9).map (fun i => (i.zero, i.size, i.bytes)) = some (some (.string ByteArray.empty), 1, 16) := by kernel_rfl
set_option maxHeartbeats 1000000 in
set_option maxRecDepth 100000 in
theorem toStringS_any (v : Value) (l : List ByteArray) (w : World) (h : RdL cStr 1 w v l) (hl : l.length ≤ 1048576) :
    Calls Try.prog 23 #[v] w fun e w' => ∃ v', e = .returned v' ∧ w'.ownsRow w.heap.size 9 1 v' l.length (l.flatMap cStr) ∧ Below w.heap.size w w' := by
  obtain ⟨A, c, rfl, h1, h2⟩ := h.form
  obtain ⟨i0, hi0, hz0, hz1, hz2⟩ := info_parts infoString
  go_enter Try.func23, Try.ntmps23
  go_wp2_with (at_make; refine wpList_make_full _ rfl _ _ _ rfl w.heap.size 9 i0 _ 1 Try.underlying36 hi0 hz0 hz1 _ _ _ _ l.length rfl rfl rfl rfl (by rw [hz2]; omega) (by simp [maxLen]; omega) (Nat.le_refl _) ?_; intro w1 hown hgr)
  have hb1 : Below w.heap.size w w1 := (Below.refl _ _).grown hgr (Nat.le_refl _) (by simp)
  go_loopw [4] (fun i wr => ∃ (k : Nat) (xs : List Value), k ≤ l.length ∧ i = .int .i64 k ∧ wr.ownsRow w.heap.size 9 1 (.slice (some ⟨w.heap.size, 0, none⟩) l.length l.length) l.length xs ∧ Hid (xs.take k = (l.take k).flatMap cStr) ∧ Below w.heap.size w wr) (fun i _ => l.length - (intOf i).toNat)
  case atStart => exact ⟨0, _, Nat.zero_le _, rfl, hown, by simp [Hid], hb1⟩
  case round =>
    obtain ⟨k, xs, hk, rfl, hown, ht, hb⟩ := hrel
    have hz := hb.size
    by_cases hlt : k < l.length
    · have hr1 := h.below hb
      obtain ⟨g, off, rfl, hg, hc⟩ := hr1.cell cStr_len (by omega) hlt
      have k0 := hc 0 _ rfl
      simp only [Nat.add_zero, Nat.mul_one] at k0
      clear hc
      have hxl := hown.1
      obtain ⟨u0, c0⟩ : ∃ u, wr.cell? ⟨w.heap.size, k, none⟩ = some u := ⟨_, (hown.cellAt k (by omega)).trans (List.getElem?_eq_getElem (by omega))⟩
      have f0 := hown.frozenAt k
      have Hxl := Lib.hid hxl
      clear hxl
      go_wp2_with fail
      have ho1 := hown.stored k (.string l[k])
      go_roundw
      case rel =>
        refine ⟨k + 1, _, by omega, by go_num, ho1.1, ?_, by (repeat' (first | exact Below.refl _ _ | (refine Below.setCell ?_ (by first | omega | (simp; omega) | (simp; done)) _) | (refine Below.alloc ?_ (by first | omega | (simp; omega) | (simp; done)) _) | (refine Below.drew ?_) | (refine below_drewN ?_ _) | (refine Below.trans ?_ (Below.mono (by assumption) (by first | omega | (simp; omega) | (simp; done))))))⟩
        show _ = _
        rw [flat_snoc cStr l hlt]
        exact size_set1 _ ht.out (by rw [Hxl.out]; omega)
      case measure => simp [intOf]; omega
    · go_wp2_with fail
      go_ret
      refine ⟨_, rfl, ?_, by (repeat' (first | exact Below.refl _ _ | (refine Below.setCell ?_ (by first | omega | (simp; omega) | (simp; done)) _) | (refine Below.alloc ?_ (by first | omega | (simp; omega) | (simp; done)) _) | (refine Below.drew ?_) | (refine below_drewN ?_ _) | (refine Below.trans ?_ (Below.mono (by assumption) (by first | omega | (simp; omega) | (simp; done))))))⟩
      have e := ht.out
      rw [List.take_of_length_le (by rw [hown.1]; omega), List.take_of_length_le (by omega)] at e
      rw [← e]; exact hown

set_option maxHeartbeats 1000000 in
set_option maxRecDepth 100000 in
theorem eqStringS_any (v v' : Value) (l : List ByteArray) (w : World) (h : RdL cStr 1 w v l) (hq : RdL cStr 1 w v' l) :
    Calls Try.prog 25 #[v, v'] w fun e w' => e = .returned (.bool true) ∧ Below w.heap.size w w' := by
  obtain ⟨A, c, rfl, h1, h2⟩ := h.form
  obtain ⟨A', c', rfl, h1', h2'⟩ := hq.form
  go_enter Try.func25, Try.ntmps25
  go_wp2_with fail
  go_loopw [5] (fun i wr => ∃ k : Nat, k ≤ l.length ∧ i = .int .i64 k ∧ Below w.heap.size w wr) (fun i _ => l.length - (intOf i).toNat)
  case atStart => exact ⟨0, Nat.zero_le _, rfl, by (repeat' (first | exact Below.refl _ _ | (refine Below.setCell ?_ (by first | omega | (simp; omega) | (simp; done)) _) | (refine Below.alloc ?_ (by first | omega | (simp; omega) | (simp; done)) _) | (refine Below.drew ?_) | (refine below_drewN ?_ _) | (refine Below.trans ?_ (Below.mono (by assumption) (by first | omega | (simp; omega) | (simp; done))))))⟩
  case round =>
    obtain ⟨k, hk, rfl, hb⟩ := hrel
    have hz := hb.size
    by_cases hlt : k < l.length
    · have hr1 := h.below hb
      have hr2 := hq.below hb
      obtain ⟨g, off, rfl, hg, hc⟩ := hr1.cell cStr_len (by omega) hlt
      have k0 := hc 0 _ rfl
      obtain ⟨g', off', rfl, hg', hc'⟩ := hr2.cell cStr_len (by omega) hlt
      have k2 := hc' 0 _ rfl
      simp only [Nat.add_zero, Nat.mul_one] at k0 k2
      clear hc hc'
      go_wp2_with fail
      go_quiet (fail)
      go_wp2_with fail
      go_roundw
      case rel => exact ⟨k + 1, by omega, by go_num, by (repeat' (first | exact Below.refl _ _ | (refine Below.setCell ?_ (by first | omega | (simp; omega) | (simp; done)) _) | (refine Below.alloc ?_ (by first | omega | (simp; omega) | (simp; done)) _) | (refine Below.drew ?_) | (refine below_drewN ?_ _) | (refine Below.trans ?_ (Below.mono (by assumption) (by first | omega | (simp; omega) | (simp; done))))))⟩
      case measure => simp [intOf]; omega
    · go_wp2_with fail
      go_ret
      exact ⟨rfl, by (repeat' (first | exact Below.refl _ _ | (refine Below.setCell ?_ (by first | omega | (simp; omega) | (simp; done)) _) | (refine Below.alloc ?_ (by first | omega | (simp; omega) | (simp; done)) _) | (refine Below.drew ?_) | (refine below_drewN ?_ _) | (refine Below.trans ?_ (Below.mono (by assumption) (by first | omega | (simp; omega) | (simp; done))))))⟩
end Go.Proofs.Ytghjjaijmlkbdaa
