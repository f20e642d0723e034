/- Contracts: indexOf, PlaceOf, l35Before, Prefers, beats. -/
import Derived.IntWalk
import Derived.Test.YtjbhlbcjljdjmaaV1
import Derived.Test.YtjbhlbcjljdjmaaBdA1x8
namespace Go.Proofs.Ytjbhlbcjljdjmaa
open Go.RowKit

theorem vote_of {l : List Int} {n : Nat} (h : orderB l = true) (hl : l.length = n) : Vote n l := by
  obtain ⟨h1, h2, h3⟩ := (orderB_iff l).1 h
  exact ⟨hl, h2, fun x hx => by have := h3 x hx; omega⟩
theorem votes_vote {vv : List (List Int)} (h : votesB vv = true) : (1 ≤ vv.length ∧ vv.length ≤ 15) ∧ (1 ≤ (vv.getD 0 []).length ∧ (vv.getD 0 []).length ≤ 7) ∧ ∀ v ∈ vv, orderB v = true ∧ Vote (vv.getD 0 []).length v := by
  rw [votesB, Bool.and_eq_true, inB_iff] at h
  have hall : ∀ v ∈ vv, orderB v = true ∧ v.length = (vv.getD 0 []).length := by
    intro v hv
    have := List.all_eq_true.1 h.1 v hv
    rw [voteB, Bool.and_eq_true] at this
    exact ⟨this.1, by simpa using this.2⟩
  have h0 : 0 < vv.length := by omega
  have hm : vv[0] ∈ vv := List.getElem_mem h0
  have hl := row0_len h0
  refine ⟨by omega, ?_, fun v hv => ⟨(hall v hv).1, vote_of (hall v hv).1 (hall v hv).2⟩⟩
  have := ((orderB_iff vv[0]).1 (hall _ hm).1).1
  omega

theorem indexOf_any (v : Value) (l : List Int) (n : Int) (w : World) (h : RdL cInt 1 w v l) :
    Calls Try.prog 109 #[v, .int .i64 n] w fun e w' => e = .returned (.int .i64 (idxF l n)) ∧ w = w' := by
  obtain ⟨A, c, rfl, h1, h2⟩ := h.form
  go_enter Try.func109, Try.ntmps109
  go_wp2_with fail
  go_loop [9] (fun i => ∃ k : Nat, k ≤ l.length ∧ i = .int .i64 k ∧ Hid ((l.take k).all (neB n) = true)) (fun i => l.length - (intOf i).toNat)
  case atStart => exact ⟨0, Nat.zero_le _, rfl, by rfl⟩
  case round =>
    obtain ⟨k, hk, rfl, hall⟩ := hrel
    by_cases hlt : k < l.length
    · obtain ⟨g, off, rfl, hg, hc⟩ := h.cell cInt_len (by omega) hlt
      have k0 := hc 0 _ rfl
      simp only [Nat.add_zero, Nat.mul_one] at k0
      clear hc
      by_cases he : l[k] = n
      · have he' : (l[k] == n) = true := by rw [beq_iff_eq]; exact he
        have He := Lib.hid he
        clear he
        go_wp2_with fail
        go_ret
        exact ⟨ret_int (idxF_at hlt hall.out He.out).symm, rfl⟩
      · have he' : (l[k] == n) = false := by rw [beq_eq_false_iff_ne]; exact he
        have He := Lib.hid he
        clear he
        go_wp2_with fail
        go_round
        case rel => exact ⟨k + 1, by omega, by go_num, all_take_succ hlt hall.out (neB_t He.out)⟩
        case measure => simp [intOf]; omega
    · go_wp2_with fail
      go_ret
      exact ⟨ret_int (idxF_none (all_take_end hlt hall.out)).symm, rfl⟩

theorem DrewOf.trans {a b c : World} (h : DrewOf a b) (k : DrewOf b c) : DrewOf a c := by obtain ⟨d, rfl⟩ := h; obtain ⟨d', rfl⟩ := k; exact ⟨d + d', by simp⟩

def prefF (vv : List (List Int)) (i k : Int) : Int := if votesB vv = true ∧ i ≠ k ∧ inB i 0 ((vv.getD 0 []).length - 1) = true ∧ inB k 0 ((vv.getD 0 []).length - 1) = true then befN vv i k else -1
theorem pref_t {vv : List (List Int)} {i k : Int} (h1 : votesB vv = true) (h2 : i ≠ k) (h3 : inB i 0 ((vv.getD 0 []).length - 1) = true) (h4 : inB k 0 ((vv.getD 0 []).length - 1) = true) : prefF vv i k = befN vv i k := if_pos ⟨h1, h2, h3, h4⟩
theorem pref_f {vv : List (List Int)} {i k : Int} (h : ¬ (votesB vv = true ∧ i ≠ k ∧ inB i 0 ((vv.getD 0 []).length - 1) = true ∧ inB k 0 ((vv.getD 0 []).length - 1) = true)) : prefF vv i k = -1 := if_neg h
theorem idx_dec {vv : List (List Int)} (_ : votesB vv = true) {i : Int} {n : Nat} (hn : (vv.getD 0 []).length = n) : inB i 0 (n - 1) = inB i 0 ((vv.getD 0 []).length - 1) := by rw [hn]
end Go.Proofs.Ytjbhlbcjljdjmaa
