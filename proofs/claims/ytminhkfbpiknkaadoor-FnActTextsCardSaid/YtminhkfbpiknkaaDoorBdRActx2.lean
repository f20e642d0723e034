/- Several texts in one: Contracts of the laws' helpers for records Act. Written by a program (gen_rec.py). Contracts: ActOk, toAct, eqAct. -/
import Derived.StillTailTactics
import Derived.BigQuiet
import Derived.Test.YtminhkfbpiknkaaDoorBdA1x6
namespace Go.Proofs.YtminhkfbpiknkaaDoor
open Go.RowKit
abbrev RAct := Int × Int × Int
def cAct (t : RAct) : List Value := [.int .i64 t.1, .int .i64 t.2.1, .int .i64 t.2.2]
theorem cAct_len (a : RAct) : (cAct a).length = 3 := rfl
theorem infoAct : (Tryd.prog.info? 23).map (fun i => (i.zero, i.size, i.bytes)) = some (some (.agg #[.int .i64 0, .int .i64 0, .int .i64 0]), 3, 24) := by kernel_rfl
set_option maxHeartbeats 1000000 in
theorem eqAct_same (a0 : Int) (a1 : Int) (a2 : Int) (w : World) :
  Calls Tryd.prog 7 #[.agg #[.int .i64 a0, .int .i64 a1, .int .i64 a2], .agg #[.int .i64 a0, .int .i64 a1, .int .i64 a2]] w fun e w' => e = .returned (.bool true) ∧ Below w.heap.size w w' := by
 go_enter Tryd.func7, Tryd.ntmps7
 go_wp2
 go_ret
 exact ⟨rfl, by (repeat' (first | exact Below.refl _ _ | refine qS ?_ _ | refine qA ?_ _ | refine qD ?_ | refine qN ?_ _ | refine qT ?_ (by assumption)))⟩
open Go.RowKit
def actB (k a b : Int) : Bool :=
 if k = 1 then inB a 0 2 && b == 0
 else if k = 2 then inB a 0 5 && inB b 0 6
 else if k = 3 then inB a 0 5 && b == 0
 else if k = 4 then inB a 0 5 && b == 0
 else if k = 6 then inB a 0 365 && b == 0
 else if k = 5 then a == 0 && b == 0
 else if k = 7 then a == 0 && b == 0 else false
set_option maxHeartbeats 4000000 in
theorem implActOk_any (k a b : Int) (w : World) :
  Calls Tryd.prog 22 #[.agg #[.int .i64 k, .int .i64 a, .int .i64 b]] w fun e w' => e = .returned (.bool (actB k a b)) ∧ Below w.heap.size w w' := by
 have H : ∀ r, r = actB k a b → Ending.returned (.bool r) = .returned (.bool (actB k a b)) := fun r h => by rw [h]
 have H' := Lib.hid H
 clear H
 by_cases hk : k = 1 ∨ k = 2 ∨ k = 3 ∨ k = 4 ∨ k = 5 ∨ k = 6 ∨ k = 7
 ·rcases hk with rfl | rfl | rfl | rfl | rfl | rfl | rfl
  all_goals
   by_cases ha : a = 0 <;> by_cases hb : b = 0
   all_goals
    first | have ha1 : (a == 0) = true := by simp [ha] | have ha1 : (a == 0) = false := by simp [ha]
    first | have hb1 : (b == 0) = true := by simp [hb] | have hb1 : (b == 0) = false := by simp [hb]
    clear ha hb
    go_enter Tryd.func22, Tryd.ntmps22
    go_wp2_with (go_at_call 16; refine two (within_any _ _ _ _) (fun hc => ?_) (fun hc => ?_))
    all_goals
     go_ret
     refine ⟨H'.out _ ?_, by (repeat' (first | exact Below.refl _ _ | refine qS ?_ _ | refine qA ?_ _ | refine qD ?_ | refine qN ?_ _ | refine qT ?_ (by assumption)))⟩
     simp_all [Hid, actB]
 ·have h1 : (k == 1) = false := by simp; omega
  have h2 : (k == 2) = false := by simp; omega
  have h3 : (k == 3) = false := by simp; omega
  have h4 : (k == 4) = false := by simp; omega
  have h5 : (k == 5) = false := by simp; omega
  have h6 : (k == 6) = false := by simp; omega
  have h7 : (k == 7) = false := by simp; omega
  have hz : actB k a b = false := by
   unfold actB
   rw [if_neg (by omega), if_neg (by omega), if_neg (by omega), if_neg (by omega), if_neg (by omega), if_neg (by omega), if_neg (by omega)]
  have hz' := Lib.hid hz
  clear hz hk
  go_enter Tryd.func22, Tryd.ntmps22
  go_wp2_with fail
  go_ret
  exact ⟨H'.out _ hz'.out.symm, by (repeat' (first | exact Below.refl _ _ | refine qS ?_ _ | refine qA ?_ _ | refine qD ?_ | refine qN ?_ _ | refine qT ?_ (by assumption)))⟩
set_option maxHeartbeats 4000000 in
theorem specActOk_any (k a b : Int) (w : World) :
  Calls Tryd.prog 25 #[.agg #[.int .i64 k, .int .i64 a, .int .i64 b]] w fun e w' => e = .returned (.bool (actB k a b)) ∧ Below w.heap.size w w' := by
 have H : ∀ r, r = actB k a b → Ending.returned (.bool r) = .returned (.bool (actB k a b)) := fun r h => by rw [h]
 have H' := Lib.hid H
 clear H
 by_cases hk : k = 1 ∨ k = 2 ∨ k = 3 ∨ k = 4 ∨ k = 5 ∨ k = 6 ∨ k = 7
 ·rcases hk with rfl | rfl | rfl | rfl | rfl | rfl | rfl
  all_goals
   by_cases ha : a = 0 <;> by_cases hb : b = 0
   all_goals
    first | have ha1 : (a == 0) = true := by simp [ha] | have ha1 : (a == 0) = false := by simp [ha]
    first | have hb1 : (b == 0) = true := by simp [hb] | have hb1 : (b == 0) = false := by simp [hb]
    clear ha hb
    go_enter Tryd.func25, Tryd.ntmps25
    go_wp2_with (go_at_call 12; refine two (l01In_any _ _ _ _) (fun hc => ?_) (fun hc => ?_))
    all_goals
     go_ret
     refine ⟨H'.out _ ?_, by (repeat' (first | exact Below.refl _ _ | refine qS ?_ _ | refine qA ?_ _ | refine qD ?_ | refine qN ?_ _ | refine qT ?_ (by assumption)))⟩
     simp_all [Hid, actB]
 ·have h1 : (k == 1) = false := by simp; omega
  have h2 : (k == 2) = false := by simp; omega
  have h3 : (k == 3) = false := by simp; omega
  have h4 : (k == 4) = false := by simp; omega
  have h5 : (k == 5) = false := by simp; omega
  have h6 : (k == 6) = false := by simp; omega
  have h7 : (k == 7) = false := by simp; omega
  have hz : actB k a b = false := by
   unfold actB
   rw [if_neg (by omega), if_neg (by omega), if_neg (by omega), if_neg (by omega), if_neg (by omega), if_neg (by omega), if_neg (by omega)]
  have hz' := Lib.hid hz
  clear hz hk
  go_enter Tryd.func25, Tryd.ntmps25
  go_wp2_with fail
  go_ret
  exact ⟨H'.out _ hz'.out.symm, by (repeat' (first | exact Below.refl _ _ | refine qS ?_ _ | refine qA ?_ _ | refine qD ?_ | refine qN ?_ _ | refine qT ?_ (by assumption)))⟩
end Go.Proofs.YtminhkfbpiknkaaDoor
