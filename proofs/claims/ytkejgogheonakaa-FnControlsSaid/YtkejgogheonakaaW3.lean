/- Contracts of the laws' small helpers: big, at, btoi. -/
import Derived.Test.YtkejgogheonakaaW1
namespace Go.Proofs.Ytkejgogheonakaa
open Go.RowKit
set_option maxHeartbeats 1000000 in
theorem big_any (A : Option Addr) (n : Nat) (c : Nat) (w : World) :
    Calls Try.prog 13 #[.slice A n c] w fun e w' => e = .returned (.bool (decide (1048576 < (n : Int)))) ∧ Below w.heap.size w w' := by
  go_enter Try.func13, Try.ntmps13
  go_wp2_with fail
  go_ret
  exact ⟨rfl, by (repeat' (first | exact Below.refl _ _ | (refine Below.setCell ?_ (by first | omega | (simp; omega) | (simp; done)) _) | (refine Below.alloc ?_ (by first | omega | (simp; omega) | (simp; done)) _) | (refine Below.drew ?_) | (refine below_drewN ?_ _) | (refine Below.trans ?_ (Below.mono (by assumption) (by first | omega | (simp; omega) | (simp; done))))))⟩
set_option maxHeartbeats 1000000 in
theorem at_any (A : Option Addr) (c : Nat) (bs : List Int) (k : Int) (w : World) (h : RdL cU8 1 w (.slice A bs.length c) bs) (hby : ∀ x ∈ bs, 0 ≤ x ∧ x ≤ 255) (hlen : bs.length ≤ 1048576) (hk0 : 0 ≤ k) (hk1 : k ≤ 1048576) :
    Calls Try.prog 24 #[.slice A bs.length c, .int .i64 k] w fun e w' => ∃ r : Int, e = .returned (.int .i64 r) ∧ (0 ≤ r ∧ r ≤ 255) ∧ Below w.heap.size w w' := by
  by_cases hl : bs.length = 0
  · have hl' : ((bs.length : Int) == 0) = true := by rw [beq_iff_eq]; omega
    go_enter Try.func24, Try.ntmps24
    go_wp2_with fail
    go_ret
    exact ⟨_, rfl, by omega, by (repeat' (first | exact Below.refl _ _ | (refine Below.setCell ?_ (by first | omega | (simp; omega) | (simp; done)) _) | (refine Below.alloc ?_ (by first | omega | (simp; omega) | (simp; done)) _) | (refine Below.drew ?_) | (refine below_drewN ?_ _) | (refine Below.trans ?_ (Below.mono (by assumption) (by first | omega | (simp; omega) | (simp; done))))))⟩
  · have hl' : ((bs.length : Int) == 0) = false := by rw [beq_eq_false_iff_ne]; omega
    have hp : (0 : Int) < bs.length := by omega
    have hm0 := Int.emod_nonneg (k * 5 + 1) (show (bs.length : Int) ≠ 0 by omega)
    have hm1 := Int.emod_lt_of_pos (k * 5 + 1) hp
    have ht : (k * 5 + 1).tmod bs.length = (k * 5 + 1) % bs.length := Int.tmod_eq_emod_of_nonneg (by omega)
    generalize hr : (k * 5 + 1) % (bs.length : Int) = r at *
    obtain ⟨n, rfl⟩ := Int.eq_ofNat_of_zero_le hm0
    have hnl : n < bs.length := by omega
    obtain ⟨g, off, rfl, hg, hc⟩ := h.cell (fun _ => rfl) (by omega) hnl
    have k0 := hc 0 _ rfl
    simp only [Nat.add_zero, Nat.mul_one] at k0
    clear hc
    have hx := hby _ (List.getElem_mem hnl)
    generalize bs[n] = x at *
    go_enter Try.func24, Try.ntmps24
    go_wp2_with fail
    go_ret
    exact ⟨_, rfl, hx, by (repeat' (first | exact Below.refl _ _ | (refine Below.setCell ?_ (by first | omega | (simp; omega) | (simp; done)) _) | (refine Below.alloc ?_ (by first | omega | (simp; omega) | (simp; done)) _) | (refine Below.drew ?_) | (refine below_drewN ?_ _) | (refine Below.trans ?_ (Below.mono (by assumption) (by first | omega | (simp; omega) | (simp; done))))))⟩
set_option maxHeartbeats 1000000 in
theorem btoi_any (b : Bool) (w : World) :
    Calls Try.prog 19 #[.bool b] w fun e w' => e = .returned (.int .i64 (if b = true then 1 else 0)) ∧ Below w.heap.size w w' := by
  go_enter Try.func19, Try.ntmps19
  cases b
  · go_wp2_with fail
    go_ret
    exact ⟨rfl, by (repeat' (first | exact Below.refl _ _ | (refine Below.setCell ?_ (by first | omega | (simp; omega) | (simp; done)) _) | (refine Below.alloc ?_ (by first | omega | (simp; omega) | (simp; done)) _) | (refine Below.drew ?_) | (refine below_drewN ?_ _) | (refine Below.trans ?_ (Below.mono (by assumption) (by first | omega | (simp; omega) | (simp; done))))))⟩
  · go_wp2_with fail
    go_ret
    exact ⟨rfl, by (repeat' (first | exact Below.refl _ _ | (refine Below.setCell ?_ (by first | omega | (simp; omega) | (simp; done)) _) | (refine Below.alloc ?_ (by first | omega | (simp; omega) | (simp; done)) _) | (refine Below.drew ?_) | (refine below_drewN ?_ _) | (refine Below.trans ?_ (Below.mono (by assumption) (by first | omega | (simp; omega) | (simp; done))))))⟩
end Go.Proofs.Ytkejgogheonakaa
