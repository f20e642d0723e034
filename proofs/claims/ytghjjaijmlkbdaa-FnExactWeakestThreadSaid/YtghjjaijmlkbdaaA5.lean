/- Contracts: slices of threads, the helpers of the laws. -/
import Derived.Test.YtghjjaijmlkbdaaA4
import Derived.StillTailTactics
import Derived.Deep.RegionHeld3
import Derived.BigQuiet
namespace Go.Proofs.Ytghjjaijmlkbdaa
open Go.RowKit

set_option maxHeartbeats 1000000 in
theorem l34Ok_any (v : Value) (l : List (Int × Int)) (w : World) (h : RdL cPair 2 w v l) :
    Calls Try.prog 59 #[v] w fun e w' => e = .returned (.bool (thrsB l)) ∧ Below w.heap.size w w' := by
  obtain ⟨A, c, rfl, h1, h2⟩ := h.form
  go_enter Try.func59, Try.ntmps59
  go_wp2_with fail
  go_loopw [3] (fun i wr => ∃ k : Nat, k ≤ l.length ∧ i = .int .i64 k ∧ Hid ((l.take k).all (fun t => thrB t.1 t.2) = true) ∧ Below w.heap.size w wr) (fun i _ => l.length - (intOf i).toNat)
  case atStart => exact ⟨0, Nat.zero_le _, rfl, by rfl, by (repeat' (first | exact Below.refl _ _ | (refine Below.setCell ?_ (by first | omega | (simp; omega) | (simp; done)) _) | (refine Below.alloc ?_ (by first | omega | (simp; omega) | (simp; done)) _) | (refine Below.drew ?_) | (refine below_drewN ?_ _) | (refine Below.trans ?_ (Below.mono (by assumption) (by first | omega | (simp; omega) | (simp; done))))))⟩
  case round =>
    obtain ⟨k, hk, rfl, hall, hb⟩ := hrel
    have hz := hb.size
    by_cases hlt : k < l.length
    · have h' := h.below hb
      obtain ⟨g, off, rfl, hg, hc⟩ := h'.cell cPair_len (by omega) hlt
      have k0 := hc 0 _ rfl
      have k1 := hc 1 _ rfl
      simp only [Nat.add_zero] at k0 k1
      clear hc
      go_wp2_with (go_at_call 56; refine twoB (specThreadOk_any _ _ _) (fun w' ht hb' => ?_) (fun w' ht hb' => ?_))
      · go_roundw
        case rel => exact ⟨k + 1, by omega, by go_num, all_take_succ hlt hall.out ht.out, by (repeat' (first | exact Below.refl _ _ | (refine Below.setCell ?_ (by first | omega | (simp; omega) | (simp; done)) _) | (refine Below.alloc ?_ (by first | omega | (simp; omega) | (simp; done)) _) | (refine Below.drew ?_) | (refine below_drewN ?_ _) | (refine Below.trans ?_ (Below.mono (by assumption) (by first | omega | (simp; omega) | (simp; done))))))⟩
        case measure => simp [intOf]; omega
      · go_ret
        exact ⟨ret_bool (thrsB_f (all_false_at hlt ht.out)).symm, by (repeat' (first | exact Below.refl _ _ | (refine Below.setCell ?_ (by first | omega | (simp; omega) | (simp; done)) _) | (refine Below.alloc ?_ (by first | omega | (simp; omega) | (simp; done)) _) | (refine Below.drew ?_) | (refine below_drewN ?_ _) | (refine Below.trans ?_ (Below.mono (by assumption) (by first | omega | (simp; omega) | (simp; done))))))⟩
    · go_wp2_with fail
      go_ret
      refine ⟨ret_bool ?_, by (repeat' (first | exact Below.refl _ _ | (refine Below.setCell ?_ (by first | omega | (simp; omega) | (simp; done)) _) | (refine Below.alloc ?_ (by first | omega | (simp; omega) | (simp; done)) _) | (refine Below.drew ?_) | (refine below_drewN ?_ _) | (refine Below.trans ?_ (Below.mono (by assumption) (by first | omega | (simp; omega) | (simp; done))))))⟩
      rw [thrsB_all (all_take_end hlt hall.out)]
      simp; omega

theorem szThreadS_any (v : Value) (l : List (Int × Int)) (m : Int) (w : World) (h : RdL cPair 2 w v l) (hm : 0 ≤ m ∧ m ≤ 1048576) :
    Calls Try.prog 26 #[v, .int .i64 m] w fun e w' => e = .returned (.int .i64 (szLen m l.length)) ∧ w = w' := by
  obtain ⟨A, c, rfl, h1, h2⟩ := h.form
  by_cases hlt : m < l.length
  all_goals
    rw [show szLen m l.length = _ from by first | exact if_pos hlt | exact if_neg hlt]
    go_enter Try.func26, Try.ntmps26
    go_wp2_with fail
    go_ret
    exact ⟨rfl, rfl⟩

set_option maxHeartbeats 1000000 in
set_option maxRecDepth 100000 in
theorem eqThreadS_any (v v' : Value) (l : List (Int × Int)) (w : World) (h : RdL cPair 2 w v l) (hq : RdL cPair 2 w v' l) :
    Calls Try.prog 30 #[v, v'] w fun e w' => e = .returned (.bool true) ∧ Below w.heap.size w w' := by
  obtain ⟨A, c, rfl, h1, h2⟩ := h.form
  obtain ⟨A', c', rfl, h1', h2'⟩ := hq.form
  go_enter Try.func30, Try.ntmps30
  go_wp2_with fail
  go_loopw [5] (fun i wr => ∃ k : Nat, k ≤ l.length ∧ i = .int .i64 k ∧ Below w.heap.size w wr) (fun i _ => l.length - (intOf i).toNat)
  case atStart => exact ⟨0, Nat.zero_le _, rfl, by (repeat' (first | exact Below.refl _ _ | (refine Below.setCell ?_ (by first | omega | (simp; omega) | (simp; done)) _) | (refine Below.alloc ?_ (by first | omega | (simp; omega) | (simp; done)) _) | (refine Below.drew ?_) | (refine below_drewN ?_ _) | (refine Below.trans ?_ (Below.mono (by assumption) (by first | omega | (simp; omega) | (simp; done))))))⟩
  case round =>
    obtain ⟨k, hk, rfl, hb⟩ := hrel
    have hz := hb.size
    by_cases hlt : k < l.length
    · have hr1 := h.below hb
      have hr2 := hq.below hb
      obtain ⟨g, off, rfl, hg, hc⟩ := hr1.cell cPair_len (by omega) hlt
      have k0 := hc 0 _ rfl
      have k1 := hc 1 _ rfl
      obtain ⟨g', off', rfl, hg', hc'⟩ := hr2.cell cPair_len (by omega) hlt
      have k2 := hc' 0 _ rfl
      have k3 := hc' 1 _ rfl
      simp only [Nat.add_zero] at k0 k1 k2 k3
      clear hc hc'
      go_wp2_with fail
      go_still_tail 8, (by kernel_rfl)
      change wpList _ _ _ _ _ wr.drew
      go_wp2_with (go_at_call 17; refine (eqThread_same _ _ _).mono ?_; rintro e w' ⟨rfl, hb'⟩)
      go_roundw
      case rel => exact ⟨k + 1, by omega, by go_num, by (repeat' (first | exact Below.refl _ _ | (refine Below.setCell ?_ (by first | omega | (simp; omega) | (simp; done)) _) | (refine Below.alloc ?_ (by first | omega | (simp; omega) | (simp; done)) _) | (refine Below.drew ?_) | (refine below_drewN ?_ _) | (refine Below.trans ?_ (Below.mono (by assumption) (by first | omega | (simp; omega) | (simp; done))))))⟩
      case measure => simp [intOf]; omega
    · go_wp2_with fail
      go_ret
      exact ⟨rfl, by (repeat' (first | exact Below.refl _ _ | (refine Below.setCell ?_ (by first | omega | (simp; omega) | (simp; done)) _) | (refine Below.alloc ?_ (by first | omega | (simp; omega) | (simp; done)) _) | (refine Below.drew ?_) | (refine below_drewN ?_ _) | (refine Below.trans ?_ (Below.mono (by assumption) (by first | omega | (simp; omega) | (simp; done))))))⟩

theorem size_set2 {xs A : List Value} {k : Nat} (a b : Value) (h : xs.take (k * 2) = A) (hk : k * 2 + 1 < xs.length) : ((xs.set (k * 2) a).set (k * 2 + 1) b).take ((k + 1) * 2) = A ++ [a, b] := by
  subst h
  apply List.ext_getElem?
  intro j
  rw [List.getElem?_take, List.getElem?_append, List.length_take, Nat.min_eq_left (by omega)]
  rw [List.getElem?_set, List.getElem?_set, List.length_set]
  by_cases h1 : j < k * 2
  · rw [if_pos (by omega), if_pos h1, if_neg (by omega), if_neg (by omega), List.getElem?_take, if_pos h1]
  · rw [if_neg h1]
    by_cases h2 : j = k * 2
    · subst h2
      rw [if_pos (by omega), if_neg (by omega), if_pos rfl, if_pos (by omega)]; simp
    · by_cases h3 : j = k * 2 + 1
      · subst h3
        rw [if_pos (by omega), if_pos rfl, if_pos (by omega)]; simp
      · rw [if_neg (by omega)]
        rw [List.getElem?_eq_none]; simp; omega
theorem infoThread : (Try.prog.info? 24).map (fun i => (i.zero, i.size, i.bytes)) = some (some (.agg #[.int .i64 0, .int .i64 0]), 2, 16) := by kernel_rfl

set_option maxHeartbeats 1000000 in
set_option maxRecDepth 100000 in
theorem toThreadS_any (v : Value) (l : List (Int × Int)) (w : World) (h : RdL cPair 2 w v l) (hl : l.length ≤ 1048576) :
    Calls Try.prog 28 #[v] w fun e w' => ∃ v', e = .returned v' ∧ w'.ownsRow w.heap.size 24 2 v' l.length (l.flatMap cPair) ∧ Below w.heap.size w w' := by
  obtain ⟨A, c, rfl, h1, h2⟩ := h.form
  obtain ⟨i0, hi0, hz0, hz1, hz2⟩ := info_parts infoThread
  go_enter Try.func28, Try.ntmps28
  go_wp2_with (at_make; refine wpList_make_full _ rfl _ _ _ rfl w.heap.size 24 i0 _ 2 Try.underlying45 hi0 hz0 hz1 _ _ _ _ l.length rfl rfl rfl rfl (by rw [hz2]; omega) (by simp [maxLen]; omega) (Nat.le_refl _) ?_; intro w1 hown hgr)
  have hb1 : Below w.heap.size w w1 := (Below.refl _ _).grown hgr (Nat.le_refl _) (by simp)
  go_loopw [4] (fun i wr => ∃ (k : Nat) (xs : List Value), k ≤ l.length ∧ i = .int .i64 k ∧ wr.ownsRow w.heap.size 24 2 (.slice (some ⟨w.heap.size, 0, none⟩) l.length l.length) l.length xs ∧ Hid (xs.take (k * 2) = (l.take k).flatMap cPair) ∧ Below w.heap.size w wr) (fun i _ => l.length - (intOf i).toNat)
  case atStart => exact ⟨0, _, Nat.zero_le _, rfl, hown, by simp [Hid], hb1⟩
  case round =>
    obtain ⟨k, xs, hk, rfl, hown, ht, hb⟩ := hrel
    have hz := hb.size
    by_cases hlt : k < l.length
    · have hr1 := h.below hb
      obtain ⟨g, off, rfl, hg, hc⟩ := hr1.cell cPair_len (by omega) hlt
      have k0 := hc 0 _ rfl
      have k1 := hc 1 _ rfl
      simp only [Nat.add_zero] at k0 k1
      clear hc
      have hxl := hown.1
      obtain ⟨u0, c0⟩ : ∃ u, wr.cell? ⟨w.heap.size, k * 2, none⟩ = some u := ⟨_, (hown.cellAt (k * 2) (by omega)).trans (List.getElem?_eq_getElem (by omega))⟩
      obtain ⟨u1, c1⟩ : ∃ u, wr.cell? ⟨w.heap.size, k * 2 + 1, none⟩ = some u := ⟨_, (hown.cellAt (k * 2 + 1) (by omega)).trans (List.getElem?_eq_getElem (by omega))⟩
      clear hxl
      have f0 := hown.frozenAt (k * 2)
      have f1 := hown.frozenAt (k * 2 + 1)
      go_wp2_with fail
      refine (toThread_any _ _ _).mono ?_
      rintro e w' ⟨rfl, hb'⟩
      have d0 := cell_below hb' (Nat.le_refl _) _ _ c0
      have d1 := cell_below hb' (Nat.le_refl _) _ _ c1
      have e0 := (hb'.frozen (p := ⟨w.heap.size, k * 2, none⟩) (World.block_lt_of_cell? wr _ c0)).trans f0
      have e1 := (hb'.frozen (p := ⟨w.heap.size, k * 2 + 1, none⟩) (World.block_lt_of_cell? wr _ c1)).trans f1
      clear k0 k1 c0 c1 f0 f1
      go_wp2_with fail
      have ho1 := ((own_below hown hb').stored (k * 2) (.int .i64 l[k].1)).1.stored (k * 2 + 1) (.int .i64 l[k].2)
      go_roundw
      case rel =>
        refine ⟨k + 1, _, by omega, by go_num, ho1.1, ?_, by (repeat' (first | exact Below.refl _ _ | (refine Below.setCell ?_ (by first | omega | (simp; omega) | (simp; done)) _) | (refine Below.alloc ?_ (by first | omega | (simp; omega) | (simp; done)) _) | (refine Below.drew ?_) | (refine below_drewN ?_ _) | (refine Below.trans ?_ (Below.mono (by assumption) (by first | omega | (simp; omega) | (simp; done))))))⟩
        show _ = _
        rw [flat_snoc cPair l hlt]
        exact size_set2 _ _ ht.out (by rw [hown.1]; omega)
      case measure => simp [intOf]; omega
    · go_wp2_with fail
      go_ret
      refine ⟨_, rfl, ?_, by (repeat' (first | exact Below.refl _ _ | (refine Below.setCell ?_ (by first | omega | (simp; omega) | (simp; done)) _) | (refine Below.alloc ?_ (by first | omega | (simp; omega) | (simp; done)) _) | (refine Below.drew ?_) | (refine below_drewN ?_ _) | (refine Below.trans ?_ (Below.mono (by assumption) (by first | omega | (simp; omega) | (simp; done))))))⟩
      have e := ht.out
      rw [List.take_of_length_le (by rw [hown.1]; omega), List.take_of_length_le (by omega)] at e
      rw [← e]; exact hown
end Go.Proofs.Ytghjjaijmlkbdaa
