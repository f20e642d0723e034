/- Several texts in one: Contracts: distances. Contracts: has and sameInts of the laws; ControlOk, PullsOf, JointsHeld at controls as they are drawn. -/
import Derived.Deep.DeepCutAuto
import Derived.Deep.QuietTactic
import Derived.StillTailTactics
import Derived.IntWalk
import Derived.Test.YtlhdeojkpmpecaaGreatBdG1x2
import Derived.Test.YtlhdeojkpmpecaaGreatBdC1x8
import Derived.Test.YtlhdeojkpmpecaaGreatBdK3x9
import Derived.Test.YtlhdeojkpmpecaaGreatBdRLimbx2
import Derived.Test.YtlhdeojkpmpecaaGreatBdM7x3
import Derived.Test.YtlhdeojkpmpecaaGreatBdK1x7
namespace Go.Proofs.YtlhdeojkpmpecaaGreat
open Go.RowKit
/- the step, case by case -/
open Go.RowKit
def eqB (n x : Int) : Bool := decide (x = n)
def hasB (l : List Int) (n : Int) : Bool := l.any (eqB n)
theorem hasB_iff {l : List Int} {n : Int} : hasB l n = true ↔ n ∈ l := by
 unfold hasB
 rw [List.any_eq_true]
 constructor
 ·rintro ⟨x, hx, e⟩; have := of_decide_eq_true e; subst this; exact hx
 ·intro h; exact ⟨n, h, decide_eq_true rfl⟩
set_option maxHeartbeats 1000000 in
theorem has_any (v : Value) (l : List Int) (n : Int) (w : World) (h : RdL cInt 1 w v l) :
  Calls Tryz.prog 35 #[v, .int .i64 n] w fun e w' => e = .returned (.bool (hasB l n)) ∧ w = w' := by
 obtain ⟨A, c, rfl, h1, h2⟩ := h.form
 go_enter Tryz.func35, Tryz.ntmps35
 go_wp2_with fail
 go_loop [5] (fun i => ∃ k : Nat, k ≤ l.length ∧ i = .int .i64 k ∧ Hid ((l.take k).any (eqB n) = false)) (fun i => l.length - (intOf i).toNat)
 case atStart => exact ⟨0, Nat.zero_le _, rfl, by rfl⟩
 case round =>
  obtain ⟨k, hk, rfl, hall⟩ := hrel
  by_cases hlt : k < l.length
  ·obtain ⟨g, off, rfl, hg, hc⟩ := h.cell cInt_len (by omega) hlt
   have k0 := hc 0 _ rfl
   simp only [Nat.add_zero, Nat.mul_one] at k0
   clear hc
   by_cases he : l[k] = n
   ·have he' : (l[k] == n) = true := by rw [beq_iff_eq]; exact he
    have He := Lib.hid he
    clear he
    go_wp2_with fail
    go_ret
    exact ⟨ret_bool (any_true_at hlt (decide_eq_true He.out)).symm, rfl⟩
   ·have he' : (l[k] == n) = false := by rw [beq_eq_false_iff_ne]; exact he
    have He := Lib.hid he
    clear he
    go_wp2_with fail
    go_round
    case rel => exact ⟨k + 1, by omega, by go_num, any_take_succ hlt hall.out (decide_eq_false He.out)⟩
    case measure => simp [intOf]; omega
  ·go_wp2_with fail
   go_ret
   exact ⟨ret_bool (any_take_end hlt hall.out).symm, rfl⟩
end Go.Proofs.YtlhdeojkpmpecaaGreat
