/- Contracts: allWithin, isStrict, put, sorted, OrderOk of the program. -/
import Derived.Test.YtjbhlbcjljdjmaaI1
import Derived.Test.YtjbhlbcjljdjmaaI2
namespace Go.Proofs.Ytjbhlbcjljdjmaa
open Go.RowKit

set_option maxHeartbeats 1000000 in
theorem allWithin_any (v : Value) (l : List Int) (a b : Int) (w : World) (h : RdL cInt 1 w v l) :
    Calls Try.prog 153 #[v, .int .i64 a, .int .i64 b] w fun e w' => e = .returned (.bool (allB a b l)) ∧ w = w' := by
  obtain ⟨A, c, rfl, h1, h2⟩ := h.form
  go_enter Try.func153, Try.ntmps153
  go_wp2_with fail
  go_loop [11] (fun i => ∃ k : Nat, k ≤ l.length ∧ i = .int .i64 k ∧ Hid ((l.take k).all (fun n => inB n a b) = true)) (fun i => l.length - (intOf i).toNat)
  case atStart => exact ⟨0, Nat.zero_le _, rfl, by rfl⟩
  case round =>
    obtain ⟨k, hk, rfl, hall⟩ := hrel
    by_cases hlt : k < l.length
    · obtain ⟨g, off, rfl, hg, hc⟩ := h.cell cInt_len (by omega) hlt
      have k0 := hc 0 _ rfl
      simp only [Nat.add_zero, Nat.mul_one] at k0
      clear hc
      go_wp2_with (go_at_call 53; refine two (within_any _ _ _ _) (fun hc => ?_) (fun hc => ?_))
      · go_round
        case rel => exact ⟨k + 1, by omega, by go_num, all_take_succ hlt hall.out hc.out⟩
        case measure => simp [intOf]; omega
      · go_ret
        exact ⟨ret_bool (all_false_at hlt hc.out).symm, rfl⟩
    · go_wp2_with fail
      go_ret
      exact ⟨ret_bool (all_take_end hlt hall.out).symm, rfl⟩

theorem asc_succ {l : List Int} {k : Nat} (h1 : (List.range k).all (ascAt l) = true) (h2 : ascAt l k = true) : (List.range (k + 1)).all (ascAt l) = true := by
  rw [List.range_succ, List.all_append, h1]; simp [h2]
theorem asc_false {l : List Int} {k : Nat} (h : k < l.length) (h2 : ascAt l k = false) : ascB l = false := by
  unfold ascB; rw [List.all_eq_false]; exact ⟨k, by simpa using h, by simp [h2]⟩
theorem ascAt_get {l : List Int} {k : Nat} (h : k < l.length) (h0 : 0 < k) : ascAt l k = decide (l[k - 1] < l[k]) := by
  unfold ascAt
  rw [show (k == 0) = false by simp; omega, Bool.false_or, List.getD_eq_getElem?_getD, List.getD_eq_getElem?_getD, List.getElem?_eq_getElem (show k - 1 < l.length by omega), List.getElem?_eq_getElem h]
  rfl
theorem strict_f {l : List Int} {a b : Int} (h : ascB l = false) : strictB l a b = false := by rw [strictB, h]; rfl
theorem strict_t {l : List Int} {a b : Int} (h : ascB l = true) : strictB l a b = allB a b l := by rw [strictB, h]; rfl

set_option maxHeartbeats 1000000 in
theorem isStrict_any (v : Value) (l : List Int) (a b : Int) (w : World) (h : RdL cInt 1 w v l) :
    Calls Try.prog 136 #[v, .int .i64 a, .int .i64 b] w fun e w' => e = .returned (.bool (strictB l a b)) ∧ Below w.heap.size w w' := by
  obtain ⟨A, c, rfl, h1, h2⟩ := h.form
  go_enter Try.func136, Try.ntmps136
  go_wp2_with fail
  go_loopw [10] (fun i wr => ∃ k : Nat, k ≤ l.length ∧ i = .int .i64 k ∧ Hid ((List.range k).all (ascAt l) = true) ∧ Below w.heap.size w wr) (fun i _ => l.length - (intOf i).toNat)
  case atStart => exact ⟨0, Nat.zero_le _, rfl, by rfl, by (repeat' (first | exact Below.refl _ _ | (refine Below.setCell ?_ (by first | omega | (simp; omega) | (simp; done)) _) | (refine Below.alloc ?_ (by first | omega | (simp; omega) | (simp; done)) _) | (refine Below.drew ?_) | (refine below_drewN ?_ _) | (refine Below.trans ?_ (Below.mono (by assumption) (by first | omega | (simp; omega) | (simp; done))))))⟩
  case round =>
    obtain ⟨k, hk, rfl, hall, hb⟩ := hrel
    have hz := hb.size
    by_cases hlt : k < l.length
    · have hr := h.below hb
      obtain ⟨g, off, rfl, hg, hc⟩ := hr.cell cInt_len (by omega) hlt
      have k0 := hc 0 _ rfl
      by_cases h0 : 0 < k
      · obtain ⟨g', off', hAA, hg', hc'⟩ := hr.cell (k := k - 1) cInt_len (by omega) (by omega)
        injection hAA with hAA
        injection hAA with e1 e2
        subst e1 e2
        have k1 := hc' 0 _ rfl
        simp only [Nat.add_zero, Nat.mul_one] at k0 k1
        clear hc hc'
        have hat := ascAt_get hlt h0
        have Hat := Lib.hid hat
        clear hat
        by_cases hle : l[k] ≤ l[k - 1]
        · go_wp2_with fail
          go_quiet (fail)
          go_wp2_with fail
          go_ret
          exact ⟨ret_bool (strict_f (asc_false hlt (by rw [Hat.out]; simp; omega))).symm, by (repeat' (first | exact Below.refl _ _ | (refine Below.setCell ?_ (by first | omega | (simp; omega) | (simp; done)) _) | (refine Below.alloc ?_ (by first | omega | (simp; omega) | (simp; done)) _) | (refine Below.drew ?_) | (refine below_drewN ?_ _) | (refine Below.trans ?_ (Below.mono (by assumption) (by first | omega | (simp; omega) | (simp; done))))))⟩
        · go_wp2_with fail
          go_quiet (fail)
          go_wp2_with fail
          go_roundw
          case rel => exact ⟨k + 1, by omega, by go_num, asc_succ hall.out (by rw [Hat.out]; simp; omega), by (repeat' (first | exact Below.refl _ _ | (refine Below.setCell ?_ (by first | omega | (simp; omega) | (simp; done)) _) | (refine Below.alloc ?_ (by first | omega | (simp; omega) | (simp; done)) _) | (refine Below.drew ?_) | (refine below_drewN ?_ _) | (refine Below.trans ?_ (Below.mono (by assumption) (by first | omega | (simp; omega) | (simp; done))))))⟩
          case measure => simp [intOf]; omega
      · obtain rfl : k = 0 := by omega
        simp only [Nat.add_zero, Nat.mul_one, Nat.zero_mul] at k0
        clear hc
        go_wp2_with fail
        go_quiet (fail)
        go_wp2_with fail
        go_roundw
        case rel => exact ⟨1, by omega, by rfl, by rfl, by (repeat' (first | exact Below.refl _ _ | (refine Below.setCell ?_ (by first | omega | (simp; omega) | (simp; done)) _) | (refine Below.alloc ?_ (by first | omega | (simp; omega) | (simp; done)) _) | (refine Below.drew ?_) | (refine below_drewN ?_ _) | (refine Below.trans ?_ (Below.mono (by assumption) (by first | omega | (simp; omega) | (simp; done))))))⟩
        case measure => simp [intOf]; omega
    · go_wp2_with (go_at_call 153; refine (allWithin_any _ l a b _ (h.below hb)).mono ?_; rintro e w' ⟨rfl, rfl⟩)
      go_ret
      obtain rfl : k = l.length := by omega
      exact ⟨ret_bool (strict_t hall.out).symm, by (repeat' (first | exact Below.refl _ _ | (refine Below.setCell ?_ (by first | omega | (simp; omega) | (simp; done)) _) | (refine Below.alloc ?_ (by first | omega | (simp; omega) | (simp; done)) _) | (refine Below.drew ?_) | (refine below_drewN ?_ _) | (refine Below.trans ?_ (Below.mono (by assumption) (by first | omega | (simp; omega) | (simp; done))))))⟩
end Go.Proofs.Ytjbhlbcjljdjmaa
