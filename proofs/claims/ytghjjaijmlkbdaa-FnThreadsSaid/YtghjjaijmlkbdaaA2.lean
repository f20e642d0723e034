/- Contracts: threads, one by one. -/
import Derived.Test.YtghjjaijmlkbdaaA1
namespace Go.Proofs.Ytghjjaijmlkbdaa
open Go.RowKit

def thrB (s u : Int) : Bool := inB s 1 10000 && inB u 0 s

theorem implThreadOk_any (s u : Int) (w : World) :
    Calls Try.prog 35 #[.agg #[.int .i64 s, .int .i64 u]] w fun e w' => e = .returned (.bool (thrB s u)) ∧ Below w.heap.size w w' := by
  go_enter Try.func35, Try.ntmps35
  go_wp2_with (go_at_call 58; refine two (within_any _ _ _ _) (fun hc => ?_) (fun hc => ?_))
  all_goals
    go_ret
    refine ⟨ret_bool ?_, by (repeat' (first | exact Below.refl _ _ | (refine Below.setCell ?_ (by first | omega | (simp; omega) | (simp; done)) _) | (refine Below.alloc ?_ (by first | omega | (simp; omega) | (simp; done)) _) | (refine Below.drew ?_) | (refine below_drewN ?_ _) | (refine Below.trans ?_ (Below.mono (by assumption) (by first | omega | (simp; omega) | (simp; done))))))⟩
    show _ = (inB s 1 10000 && inB u 0 s)
    simp_all [Hid]
theorem specThreadOk_any (s u : Int) (w : World) :
    Calls Try.prog 56 #[.agg #[.int .i64 s, .int .i64 u]] w fun e w' => e = .returned (.bool (thrB s u)) ∧ Below w.heap.size w w' := by
  go_enter Try.func56, Try.ntmps56
  go_wp2_with (go_at_call 57; refine two (l01In_any _ _ _ _) (fun hc => ?_) (fun hc => ?_))
  all_goals
    go_ret
    refine ⟨ret_bool ?_, by (repeat' (first | exact Below.refl _ _ | (refine Below.setCell ?_ (by first | omega | (simp; omega) | (simp; done)) _) | (refine Below.alloc ?_ (by first | omega | (simp; omega) | (simp; done)) _) | (refine Below.drew ?_) | (refine below_drewN ?_ _) | (refine Below.trans ?_ (Below.mono (by assumption) (by first | omega | (simp; omega) | (simp; done))))))⟩
    show _ = (inB s 1 10000 && inB u 0 s)
    simp_all [Hid]
end Go.Proofs.Ytghjjaijmlkbdaa
