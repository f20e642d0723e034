/- Contracts: indexOf, PlaceOf, l35Before, Prefers, beats. -/
import Derived.Test.YtkejgogheonakaaV1
import Derived.Test.YtkejgogheonakaaV2
import Derived.IntWalk
namespace Go.Proofs.Ytkejgogheonakaa
open Go.RowKit

theorem vote_of {l : List Int} {n : Nat} (h : orderB l = true) (hl : l.length = n) : Vote n l := by
  obtain ⟨h1, h2, h3⟩ := (orderB_iff l).1 h
  exact ⟨hl, h2, fun x hx => by have := h3 x hx; omega⟩
theorem votes_vote {vv : List (List Int)} (h : votesB vv = true) : (1 ≤ vv.length ∧ vv.length ≤ 15) ∧ (1 ≤ (vv.getD 0 []).length ∧ (vv.getD 0 []).length ≤ 7) ∧ ∀ v ∈ vv, orderB v = true ∧ Vote (vv.getD 0 []).length v := by
  rw [votesB, Bool.and_eq_true, inB_iff] at h
  have hall : ∀ v ∈ vv, orderB v = true ∧ v.length = (vv.getD 0 []).length := by
    intro v hv
    have := List.all_eq_true.1 h.1 v hv
    rw [voteB, Bool.and_eq_true] at this
    exact ⟨this.1, by simpa using this.2⟩
  have h0 : 0 < vv.length := by omega
  have hm : vv[0] ∈ vv := List.getElem_mem h0
  have hl := row0_len h0
  refine ⟨by omega, ?_, fun v hv => ⟨(hall v hv).1, vote_of (hall v hv).1 (hall v hv).2⟩⟩
  have := ((orderB_iff vv[0]).1 (hall _ hm).1).1
  omega

theorem indexOf_any (v : Value) (l : List Int) (n : Int) (w : World) (h : RdL cInt 1 w v l) :
    Calls Try.prog 74 #[v, .int .i64 n] w fun e w' => e = .returned (.int .i64 (idxF l n)) ∧ w = w' := by
  obtain ⟨A, c, rfl, h1, h2⟩ := h.form
  go_enter Try.func74, Try.ntmps74
  go_wp2_with fail
  go_loop [9] (fun i => ∃ k : Nat, k ≤ l.length ∧ i = .int .i64 k ∧ Hid ((l.take k).all (neB n) = true)) (fun i => l.length - (intOf i).toNat)
  case atStart => exact ⟨0, Nat.zero_le _, rfl, by rfl⟩
  case round =>
    obtain ⟨k, hk, rfl, hall⟩ := hrel
    by_cases hlt : k < l.length
    · obtain ⟨g, off, rfl, hg, hc⟩ := h.cell cInt_len (by omega) hlt
      have k0 := hc 0 _ rfl
      simp only [Nat.add_zero, Nat.mul_one] at k0
      clear hc
      by_cases he : l[k] = n
      · have he' : (l[k] == n) = true := by rw [beq_iff_eq]; exact he
        have He := Lib.hid he
        clear he
        go_wp2_with fail
        go_ret
        exact ⟨ret_int (idxF_at hlt hall.out He.out).symm, rfl⟩
      · have he' : (l[k] == n) = false := by rw [beq_eq_false_iff_ne]; exact he
        have He := Lib.hid he
        clear he
        go_wp2_with fail
        go_round
        case rel => exact ⟨k + 1, by omega, by go_num, all_take_succ hlt hall.out (neB_t He.out)⟩
        case measure => simp [intOf]; omega
    · go_wp2_with fail
      go_ret
      exact ⟨ret_int (idxF_none (all_take_end hlt hall.out)).symm, rfl⟩

theorem DrewOf.trans {a b c : World} (h : DrewOf a b) (k : DrewOf b c) : DrewOf a c := by obtain ⟨d, rfl⟩ := h; obtain ⟨d', rfl⟩ := k; exact ⟨d + d', by simp⟩

def prefF (vv : List (List Int)) (i k : Int) : Int := if votesB vv = true ∧ i ≠ k ∧ inB i 0 ((vv.getD 0 []).length - 1) = true ∧ inB k 0 ((vv.getD 0 []).length - 1) = true then befN vv i k else -1
theorem pref_t {vv : List (List Int)} {i k : Int} (h1 : votesB vv = true) (h2 : i ≠ k) (h3 : inB i 0 ((vv.getD 0 []).length - 1) = true) (h4 : inB k 0 ((vv.getD 0 []).length - 1) = true) : prefF vv i k = befN vv i k := if_pos ⟨h1, h2, h3, h4⟩
theorem pref_f {vv : List (List Int)} {i k : Int} (h : ¬ (votesB vv = true ∧ i ≠ k ∧ inB i 0 ((vv.getD 0 []).length - 1) = true ∧ inB k 0 ((vv.getD 0 []).length - 1) = true)) : prefF vv i k = -1 := if_neg h
theorem idx_dec {vv : List (List Int)} (h : votesB vv = true) {i : Int} {n : Nat} (hn : (vv.getD 0 []).length = n) : inB i 0 (n - 1) = inB i 0 ((vv.getD 0 []).length - 1) := by rw [hn]
set_option maxHeartbeats 2000000 in
set_option maxRecDepth 100000 in
theorem implPrefers_any (v : Value) (vv : List (List Int)) (i k : Int) (w : World) (h : RdRows w v vv) :
    Calls Try.prog 18 #[v, .int .i64 i, .int .i64 k] w fun e w' => e = .returned (.int .i64 (prefF vv i k)) ∧ Below w.heap.size w w' := by
  have h0 := h
  obtain ⟨A, c, rfl, h1, h2⟩ := h.form
  cases hv : votesB vv
  · have hcon := fun W (h : RdRows W (.slice A vv.length c) vv) => implVotesOk_any _ vv W h
    rw [hv] at hcon
    have Hv := Lib.hid hv
    have Hcon := Lib.hid hcon
    clear hv hcon
    go_enter Try.func18, Try.ntmps18
    go_wp2_with (go_at_call 21; refine (Hcon.out _ h0).mono ?_; rintro e w' ⟨rfl, hb⟩)
    go_ret
    exact ⟨ret_int (pref_f (fun h => by rw [Hv.out] at h; cases h.1)).symm, by (repeat' (first | exact Below.refl _ _ | (refine Below.setCell ?_ (by first | omega | (simp; omega) | (simp; done)) _) | (refine Below.alloc ?_ (by first | omega | (simp; omega) | (simp; done)) _) | (refine Below.drew ?_) | (refine below_drewN ?_ _) | (refine Below.trans ?_ (Below.mono (by assumption) (by first | omega | (simp; omega) | (simp; done))))))⟩
  · obtain ⟨hl1, hl2, hvt⟩ := votes_vote hv
    have hcon := fun W (h : RdRows W (.slice A vv.length c) vv) => implVotesOk_any _ vv W h
    rw [hv] at hcon
    have Hv := Lib.hid hv
    have Hcon := Lib.hid hcon
    have Hvt := Lib.hid hvt
    have hn := row0_len (vv := vv) (by omega)
    clear hv hcon hvt
    by_cases hik : i = k
    · have hik' : (i == k) = true := by rw [beq_iff_eq]; exact hik
      have Hik := Lib.hid hik
      clear hik
      go_enter Try.func18, Try.ntmps18
      go_wp2_with (go_at_call 21; refine (Hcon.out _ h0).mono ?_; rintro e w' ⟨rfl, hb⟩)
      go_ret
      exact ⟨ret_int (pref_f (fun h => h.2.1 Hik.out)).symm, by (repeat' (first | exact Below.refl _ _ | (refine Below.setCell ?_ (by first | omega | (simp; omega) | (simp; done)) _) | (refine Below.alloc ?_ (by first | omega | (simp; omega) | (simp; done)) _) | (refine Below.drew ?_) | (refine below_drewN ?_ _) | (refine Below.trans ?_ (Below.mono (by assumption) (by first | omega | (simp; omega) | (simp; done))))))⟩
    · have hik' : (i == k) = false := by rw [beq_eq_false_iff_ne]; exact hik
      have Hik := Lib.hid hik
      clear hik
      obtain ⟨g, off, u, rfl, hg, k0, hru⟩ := h0.cell (k := 0) (by omega)
      simp only [Nat.add_zero] at k0
      obtain ⟨A1, c1, rfl, _, _⟩ := hru.form
      rw [hn] at hl2
      have Hn := Lib.hid hn
      clear hn
      go_enter Try.func18, Try.ntmps18
      go_wp2_with (go_at_call 21; refine (Hcon.out _ h0).mono ?_; rintro e w' ⟨rfl, hb⟩; replace k0 := carry hb k0)
      refine two (within_any _ _ _ _) (fun hc1 => ?_) (fun hc1 => ?_)
      · go_wp2_with fail
        refine two (within_any _ _ _ _) (fun hc2 => ?_) (fun hc2 => ?_)
        · have hq := Lib.hid (pref_t Hv.out Hik.out (by rw [Hn.out]; exact hc1.out) (by rw [Hn.out]; exact hc2.out))
          have hr := h0.below hb
          go_wp2_with fail
          go_loop [7, 40] (fun q x => ∃ m : Nat, m ≤ vv.length ∧ x = .int .i64 m ∧ q = .int .i64 (befN (vv.take m) i k)) (fun _ x => vv.length - (intOf x).toNat)
          case atStart => exact ⟨0, Nat.zero_le _, rfl, rfl⟩
          case round =>
            obtain ⟨m, hm, rfl, rfl⟩ := hrel
            have hle := befN_le (vv.take m) i k
            rw [List.length_take, Nat.min_eq_left hm] at hle
            by_cases hlt : m < vv.length
            · obtain ⟨g', off', u', hA, hg', k1, hru'⟩ := hr.cell hlt
              injection hA with hA
              injection hA with e1 e2
              subst e1 e2
              have c1 := indexOf_any u' vv[m] i w' hru'
              have c2 := indexOf_any u' vv[m] k w' hru'
              have C1 := Lib.hid c1
              have C2 := Lib.hid c2
              clear c1 c2
              by_cases hbf : idxF vv[m] i < idxF vv[m] k
              · have Hs := Lib.hid (befN_succ_t hlt hbf)
                go_wp2_with fail
                refine C1.out.mono ?_
                rintro e w2 ⟨rfl, rfl⟩
                go_wp2_with fail
                refine C2.out.mono ?_
                rintro e w2 ⟨rfl, rfl⟩
                go_wp2_with fail
                go_round
                case rel => exact ⟨m + 1, by omega, by go_num, int_eq (by rw [Hs.out]; omega)⟩
                case measure => simp [intOf]; omega
              · have Hs := Lib.hid (befN_succ_f hlt hbf)
                go_wp2_with fail
                refine C1.out.mono ?_
                rintro e w2 ⟨rfl, rfl⟩
                go_wp2_with fail
                refine C2.out.mono ?_
                rintro e w2 ⟨rfl, rfl⟩
                go_wp2_with fail
                go_round
                case rel => exact ⟨m + 1, by omega, by go_num, int_eq (by rw [Hs.out])⟩
                case measure => simp [intOf]; omega
            · obtain rfl : m = vv.length := by omega
              rw [List.take_length]
              go_wp2_with fail
              go_ret
              exact ⟨ret_int hq.out.symm, by (repeat' (first | exact Below.refl _ _ | (refine Below.setCell ?_ (by first | omega | (simp; omega) | (simp; done)) _) | (refine Below.alloc ?_ (by first | omega | (simp; omega) | (simp; done)) _) | (refine Below.drew ?_) | (refine below_drewN ?_ _) | (refine Below.trans ?_ (Below.mono (by assumption) (by first | omega | (simp; omega) | (simp; done))))))⟩
        · go_wp2_with fail
          go_ret
          exact ⟨ret_int (pref_f (fun h => by rw [← Hn.out] at hc2; rw [hc2.out] at h; cases h.2.2.2)).symm, by (repeat' (first | exact Below.refl _ _ | (refine Below.setCell ?_ (by first | omega | (simp; omega) | (simp; done)) _) | (refine Below.alloc ?_ (by first | omega | (simp; omega) | (simp; done)) _) | (refine Below.drew ?_) | (refine below_drewN ?_ _) | (refine Below.trans ?_ (Below.mono (by assumption) (by first | omega | (simp; omega) | (simp; done))))))⟩
      · go_wp2_with fail
        go_ret
        exact ⟨ret_int (pref_f (fun h => by rw [← Hn.out] at hc1; rw [hc1.out] at h; cases h.2.2.1)).symm, by (repeat' (first | exact Below.refl _ _ | (refine Below.setCell ?_ (by first | omega | (simp; omega) | (simp; done)) _) | (refine Below.alloc ?_ (by first | omega | (simp; omega) | (simp; done)) _) | (refine Below.drew ?_) | (refine below_drewN ?_ _) | (refine Below.trans ?_ (Below.mono (by assumption) (by first | omega | (simp; omega) | (simp; done))))))⟩
end Go.Proofs.Ytkejgogheonakaa
