/- Contracts: VotesOk of the program and of the reference. -/
import Derived.Test.YtkejgogheonakaaI6
import Derived.Test.YtkejgogheonakaaI7
import Derived.Deep.QuietTactic
import Derived.BigQuiet
namespace Go.Proofs.Ytkejgogheonakaa
open Go.RowKit

def voteB (n0 : Nat) (v : List Int) : Bool := orderB v && v.length == n0
def votesB (vv : List (List Int)) : Bool := vv.all (voteB (vv.getD 0 []).length) && inB vv.length 1 15
theorem row0_len {vv : List (List Int)} (h : 0 < vv.length) : (vv.getD 0 []).length = vv[0].length := by rw [List.getD_eq_getElem?_getD, List.getElem?_eq_getElem h]; rfl
theorem votes_f1 {vv : List (List Int)} (h : vv.all (voteB (vv.getD 0 []).length) = false) : votesB vv = false := by rw [votesB, h]; rfl
theorem votes_f2 {vv : List (List Int)} (h : inB vv.length 1 15 = false) : votesB vv = false := by rw [votesB, h, Bool.and_false]
theorem votes_t {vv : List (List Int)} (h : vv.all (voteB (vv.getD 0 []).length) = true) : votesB vv = inB vv.length 1 15 := by rw [votesB, h]; rfl

set_option maxHeartbeats 2000000 in
theorem implVotesOk_any (v : Value) (vv : List (List Int)) (w : World) (h : RdRows w v vv) :
    Calls Try.prog 21 #[v] w fun e w' => e = .returned (.bool (votesB vv)) ∧ Below w.heap.size w w' := by
  obtain ⟨A, c, rfl, h1, h2⟩ := h.form
  go_enter Try.func21, Try.ntmps21
  go_wp2_with fail
  go_loopw [7] (fun i wr => ∃ k : Nat, k ≤ vv.length ∧ i = .int .i64 k ∧ Hid ((vv.take k).all (voteB (vv.getD 0 []).length) = true) ∧ Below w.heap.size w wr) (fun i _ => vv.length - (intOf i).toNat)
  case atStart => exact ⟨0, Nat.zero_le _, rfl, by rfl, by (repeat' (first | exact Below.refl _ _ | (refine Below.setCell ?_ (by first | omega | (simp; omega) | (simp; done)) _) | (refine Below.alloc ?_ (by first | omega | (simp; omega) | (simp; done)) _) | (refine Below.drew ?_) | (refine below_drewN ?_ _) | (refine Below.trans ?_ (Below.mono (by assumption) (by first | omega | (simp; omega) | (simp; done))))))⟩
  case round =>
    obtain ⟨k, hk, rfl, hall, hb⟩ := hrel
    have hz := hb.size
    by_cases hlt : k < vv.length
    · have h0 : 0 < vv.length := by omega
      have hr := h.below hb
      obtain ⟨g, off, u, rfl, hg, k0, hru⟩ := hr.cell hlt
      obtain ⟨g', off', u', hA, hg', k1, hru'⟩ := hr.cell h0
      injection hA with hA
      injection hA with e1 e2
      subst e1 e2
      obtain ⟨A1, c1, rfl, _, _⟩ := hru.form
      obtain ⟨A2, c2, rfl, _, _⟩ := hru'.form
      simp only [Nat.add_zero] at k1
      have hl0 := row0_len h0
      have Hl0 := Lib.hid hl0
      clear hl0
      by_cases hle : vv[k].length = vv[0].length
      · have he1 : ((vv[k].length : Int) != (vv[0].length : Int)) = false := by rw [bne_eq_false_iff_eq]; omega
        have Hle := Lib.hid hle
        clear hle
        go_wp2_with (go_at_call 75; refine twoB (implOrderOk_any _ vv[k] _ hru) (fun w' ho hb' => ?_) (fun w' ho hb' => ?_) <;> have k2 := carry hb' k1)
        · go_roundw
          case rel => exact ⟨k + 1, by omega, by go_num, all_take_succ hlt hall.out (by rw [voteB, ho.out, Hl0.out, Hle.out]; simp), by (repeat' (first | exact Below.refl _ _ | (refine Below.setCell ?_ (by first | omega | (simp; omega) | (simp; done)) _) | (refine Below.alloc ?_ (by first | omega | (simp; omega) | (simp; done)) _) | (refine Below.drew ?_) | (refine below_drewN ?_ _) | (refine Below.trans ?_ (Below.mono (by assumption) (by first | omega | (simp; omega) | (simp; done))))))⟩
          case measure => simp [intOf]; omega
        · go_ret
          exact ⟨ret_bool (votes_f1 (all_false_at hlt (by rw [voteB, ho.out]; rfl))).symm, by (repeat' (first | exact Below.refl _ _ | (refine Below.setCell ?_ (by first | omega | (simp; omega) | (simp; done)) _) | (refine Below.alloc ?_ (by first | omega | (simp; omega) | (simp; done)) _) | (refine Below.drew ?_) | (refine below_drewN ?_ _) | (refine Below.trans ?_ (Below.mono (by assumption) (by first | omega | (simp; omega) | (simp; done))))))⟩
      · have he1 : ((vv[k].length : Int) != (vv[0].length : Int)) = true := by rw [bne_iff_ne]; omega
        have Hle := Lib.hid hle
        clear hle
        go_wp2_with (go_at_call 75; refine twoB (implOrderOk_any _ vv[k] _ hru) (fun w' ho hb' => ?_) (fun w' ho hb' => ?_) <;> have k2 := carry hb' k1)
        all_goals
          go_ret
          exact ⟨ret_bool (votes_f1 (all_false_at hlt (by rw [voteB, Hl0.out]; simp [Hle.out]))).symm, by (repeat' (first | exact Below.refl _ _ | (refine Below.setCell ?_ (by first | omega | (simp; omega) | (simp; done)) _) | (refine Below.alloc ?_ (by first | omega | (simp; omega) | (simp; done)) _) | (refine Below.drew ?_) | (refine below_drewN ?_ _) | (refine Below.trans ?_ (Below.mono (by assumption) (by first | omega | (simp; omega) | (simp; done))))))⟩
    · obtain rfl : k = vv.length := by omega
      have hall' := hall.out
      rw [List.take_length] at hall'
      have Hall := Lib.hid hall'
      clear hall'
      go_wp2_with (go_at_call 73; refine (within_any _ _ _ _).mono ?_; rintro e w' ⟨rfl, rfl⟩)
      go_ret
      exact ⟨ret_bool (votes_t Hall.out).symm, by (repeat' (first | exact Below.refl _ _ | (refine Below.setCell ?_ (by first | omega | (simp; omega) | (simp; done)) _) | (refine Below.alloc ?_ (by first | omega | (simp; omega) | (simp; done)) _) | (refine Below.drew ?_) | (refine below_drewN ?_ _) | (refine Below.trans ?_ (Below.mono (by assumption) (by first | omega | (simp; omega) | (simp; done))))))⟩

end Go.Proofs.Ytkejgogheonakaa
