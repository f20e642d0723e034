/- Contracts: slices of threads. -/
import Derived.Test.YtghjjaijmlkbdaaA3
import Derived.Test.YtghjjaijmlkbdaaM1
namespace Go.Proofs.Ytghjjaijmlkbdaa
open Go.RowKit

def thrsB (l : List (Int × Int)) : Bool := l.all (fun t => thrB t.1 t.2) && decide (l.length ≤ 20)
theorem thrsB_all {l : List (Int × Int)} (h : l.all (fun t => thrB t.1 t.2) = true) : thrsB l = decide (l.length ≤ 20) := by rw [thrsB, h, Bool.true_and]
theorem thrsB_f {l : List (Int × Int)} (h : l.all (fun t => thrB t.1 t.2) = false) : thrsB l = false := by rw [thrsB, h, Bool.false_and]
set_option maxHeartbeats 1000000 in
theorem areThreads_any (v : Value) (l : List (Int × Int)) (w : World) (h : RdL cThread 2 w v l) :
    Calls Try.prog 60 #[v] w fun e w' => e = .returned (.bool (thrsB l)) ∧ Below w.heap.size w w' := by
  obtain ⟨A, c, rfl, h1, h2⟩ := h.form
  go_enter Try.func60, Try.ntmps60
  go_wp2_with fail
  go_loopw [7] (fun i wr => ∃ k : Nat, k ≤ l.length ∧ i = .int .i64 k ∧ Hid ((l.take k).all (fun t => thrB t.1 t.2) = true) ∧ Below w.heap.size w wr) (fun i _ => l.length - (intOf i).toNat)
  case atStart => exact ⟨0, Nat.zero_le _, rfl, by rfl, by (repeat' (first | exact Below.refl _ _ | (refine Below.setCell ?_ (by first | omega | (simp; omega) | (simp; done)) _) | (refine Below.alloc ?_ (by first | omega | (simp; omega) | (simp; done)) _) | (refine Below.drew ?_) | (refine below_drewN ?_ _) | (refine Below.trans ?_ (Below.mono (by assumption) (by first | omega | (simp; omega) | (simp; done))))))⟩
  case round =>
    obtain ⟨k, hk, rfl, hall, hb⟩ := hrel
    have hz := hb.size
    by_cases hlt : k < l.length
    · have h' := h.below hb
      obtain ⟨g, off, rfl, hg, hc⟩ := h'.cell cThread_len (by omega) hlt
      have k0 := hc 0 _ rfl
      have k1 := hc 1 _ rfl
      simp only [Nat.add_zero] at k0 k1
      clear hc
      go_wp2_with (go_at_call 35; refine twoB (implThreadOk_any _ _ _) (fun w' ht hb' => ?_) (fun w' ht hb' => ?_))
      · go_roundw
        case rel => exact ⟨k + 1, by omega, by go_num, all_take_succ hlt hall.out ht.out, by (repeat' (first | exact Below.refl _ _ | (refine Below.setCell ?_ (by first | omega | (simp; omega) | (simp; done)) _) | (refine Below.alloc ?_ (by first | omega | (simp; omega) | (simp; done)) _) | (refine Below.drew ?_) | (refine below_drewN ?_ _) | (refine Below.trans ?_ (Below.mono (by assumption) (by first | omega | (simp; omega) | (simp; done))))))⟩
        case measure => simp [intOf]; omega
      · go_ret
        exact ⟨ret_bool (thrsB_f (all_false_at hlt ht.out)).symm, by (repeat' (first | exact Below.refl _ _ | (refine Below.setCell ?_ (by first | omega | (simp; omega) | (simp; done)) _) | (refine Below.alloc ?_ (by first | omega | (simp; omega) | (simp; done)) _) | (refine Below.drew ?_) | (refine below_drewN ?_ _) | (refine Below.trans ?_ (Below.mono (by assumption) (by first | omega | (simp; omega) | (simp; done))))))⟩
    · go_wp2_with fail
      go_ret
      refine ⟨ret_bool ?_, by (repeat' (first | exact Below.refl _ _ | (refine Below.setCell ?_ (by first | omega | (simp; omega) | (simp; done)) _) | (refine Below.alloc ?_ (by first | omega | (simp; omega) | (simp; done)) _) | (refine Below.drew ?_) | (refine below_drewN ?_ _) | (refine Below.trans ?_ (Below.mono (by assumption) (by first | omega | (simp; omega) | (simp; done))))))⟩
      rw [thrsB_all (all_take_end hlt hall.out)]
      simp; omega
theorem thr_bd {l : List (Int × Int)} (h : thrsB l = true) {k : Nat} (hk : k < l.length) : (1 ≤ l[k].1 ∧ l[k].1 ≤ 10000) ∧ 0 ≤ l[k].2 ∧ l[k].2 ≤ l[k].1 := by
  rw [thrsB, Bool.and_eq_true] at h
  exact thrB_iff.1 (List.all_eq_true.1 h.1 l[k] (List.getElem_mem hk))
end Go.Proofs.Ytghjjaijmlkbdaa
