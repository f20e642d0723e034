/- Contracts: OrderOk of the reference. -/
import Derived.Test.YtjbhlbcjljdjmaaI5
namespace Go.Proofs.Ytjbhlbcjljdjmaa
open Go.RowKit
theorem getD_get (l : List Int) (k : Nat) (hk : k < l.length) : l.getD k 0 = l[k] := by rw [List.getD_eq_getElem?_getD, List.getElem?_eq_getElem hk]; rfl
theorem ordAt_t {l : List Int} {k : Nat} (h1 : inB (l.getD k 0) 0 (l.length - 1) = true) (h2 : (List.range k).all (fun i => !(l.getD i 0 == l.getD k 0)) = true) : ordAt l k = true := by unfold ordAt; rw [h1, h2]; rfl
theorem ordAt_f1 {l : List Int} {k : Nat} (h1 : inB (l.getD k 0) 0 (l.length - 1) = false) : ordAt l k = false := by unfold ordAt; rw [h1]; rfl
theorem ordAt_f2 {l : List Int} {k i : Nat} (hi : i < k) (h1 : l.getD i 0 = l.getD k 0) : ordAt l k = false := by
  unfold ordAt
  rw [show (List.range k).all (fun i => !(l.getD i 0 == l.getD k 0)) = false from by
    rw [List.all_eq_false]; exact ⟨i, by simpa using hi, by rw [h1, beq_self_eq_true]; decide⟩, Bool.and_false]
theorem range_all_succ {p : Nat → Bool} {k : Nat} (h1 : (List.range k).all p = true) (h2 : p k = true) : (List.range (k + 1)).all p = true := by
  rw [List.range_succ, List.all_append, h1]; simp [h2]
/-- Only answers have been drawn. -/
def DrewOf (w w' : World) : Prop := ∃ d, w' = w.drewN d
theorem DrewOf.refl (w : World) : DrewOf w w := ⟨0, rfl⟩
theorem DrewOf.drewN {w w' : World} (h : DrewOf w w') (n : Nat) : DrewOf w (w'.drewN n) := by obtain ⟨d, rfl⟩ := h; exact ⟨d + n, by simp⟩
theorem DrewOf.below {w w' : World} (h : DrewOf w w') : Below w.heap.size w w' := by obtain ⟨d, rfl⟩ := h; exact below_drewN (Below.refl _ _) d
set_option maxHeartbeats 2000000 in
theorem specOrderOk_q (v : Value) (l : List Int) (w : World) (h : RdL cInt 1 w v l) :
    Calls Try.prog 98 #[v] w fun e w' => e = .returned (.bool (orderB l)) ∧ DrewOf w w' := by
  obtain ⟨A, c, rfl, h1, h2⟩ := h.form
  go_enter Try.func98, Try.ntmps98
  go_wp2_with fail
  go_loopw [3, 4] (fun i _ wr => ∃ k : Nat, k ≤ l.length ∧ i = .int .i64 k ∧ Hid ((List.range k).all (ordAt l) = true) ∧ DrewOf w wr) (fun i _ _ => l.length - (intOf i).toNat)
  case atStart => exact ⟨0, Nat.zero_le _, rfl, by rfl, DrewOf.refl w⟩
  case round =>
    obtain ⟨k, hk, rfl, hall, hd⟩ := hrel
    have hb := hd.below
    by_cases hlt : k < l.length
    · have hr := h.below hb
      obtain ⟨g, off, rfl, hg, hc⟩ := hr.cell cInt_len (by omega) hlt
      have k0 := hc 0 _ rfl
      simp only [Nat.add_zero, Nat.mul_one] at k0
      clear hc
      have Hgk := Lib.hid (getD_get l k hlt)
      go_wp2_with (go_at_call 126; refine two (l01In_any _ _ _ _) (fun hc => ?_) (fun hc => ?_))
      · obtain ⟨wo, rfl⟩ : ∃ wo : World, wo = wr := ⟨_, rfl⟩
        go_loopw [4] (fun i wi => ∃ j : Nat, j ≤ k ∧ i = .int .i64 j ∧ Hid ((List.range j).all (fun i => !(l.getD i 0 == l.getD k 0)) = true) ∧ DrewOf w wi) (fun i _ => k - (intOf i).toNat)
        case atStart => exact ⟨0, Nat.zero_le _, rfl, by rfl, hd⟩
        case round =>
          obtain ⟨j, hj, rfl, hin, hdi⟩ := hrel
          have hbi := hdi.below
          by_cases hltj : j < k
          · have hri := h.below hbi
            obtain ⟨g1, off1, hA1, hg1, hc1⟩ := hri.cell (k := j) cInt_len (by omega) (by omega)
            injection hA1 with hA1
            injection hA1 with e1 e2
            subst e1 e2
            obtain ⟨g2, off2, hA2, hg2, hc2⟩ := hri.cell (k := k) cInt_len (by omega) hlt
            injection hA2 with hA2
            injection hA2 with e1 e2
            subst e1 e2
            have k1 := hc1 0 _ rfl
            have k2 := hc2 0 _ rfl
            simp only [Nat.add_zero, Nat.mul_one] at k1 k2
            clear hc1 hc2 k0
            have Hgj := Lib.hid (getD_get l j (by omega))
            by_cases he : l[j] = l[k]
            · have he' : (l[j] == l[k]) = true := by rw [beq_iff_eq]; exact he
              clear he
              go_wp2_with fail
              go_quiet (fail)
              go_wp2_with fail
              go_ret
              exact ⟨ret_bool (ord_f l hlt (ordAt_f2 hltj (by rw [Hgj.out, Hgk.out]; exact beq_iff_eq.1 he'))).symm, by first | exact hdi.drewN _ | exact hdi | exact hd⟩
            · have he' : (l[j] == l[k]) = false := by rw [beq_eq_false_iff_ne]; exact he
              clear he
              go_wp2_with fail
              go_quiet (fail)
              go_wp2_with fail
              go_roundw
              case rel => exact ⟨j + 1, by omega, by go_num, range_all_succ hin.out (by rw [Hgj.out, Hgk.out, he']; rfl), by first | exact hdi.drewN _ | exact hdi | exact hd⟩
              case measure => simp [intOf]; omega
          · obtain rfl : j = k := by omega
            go_wp2_with fail
            go_roundw
            case rel => exact ⟨j + 1, by omega, by go_num, range_all_succ hall.out (ordAt_t (by rw [Hgk.out]; exact hc.out) hin.out), by first | exact hdi.drewN _ | exact hdi | exact hd⟩
            case measure => simp [intOf]; omega
      · go_ret
        exact ⟨ret_bool (ord_f l hlt (ordAt_f1 (by rw [Hgk.out]; exact hc.out))).symm, by first | exact hdi.drewN _ | exact hdi | exact hd⟩
    · obtain rfl : k = l.length := by omega
      go_wp2_with (go_at_call 126; refine two (l01In_any _ _ _ _) (fun hc => ?_) (fun hc => ?_))
      · go_ret
        exact ⟨ret_bool (ord_all l hall.out hc.out).symm, by first | exact hdi.drewN _ | exact hdi | exact hd⟩
      · go_ret
        exact ⟨ret_bool (ord_f2 hc.out).symm, by first | exact hdi.drewN _ | exact hdi | exact hd⟩
theorem specOrderOk_any (v : Value) (l : List Int) (w : World) (h : RdL cInt 1 w v l) :
    Calls Try.prog 98 #[v] w fun e w' => e = .returned (.bool (orderB l)) ∧ Below w.heap.size w w' :=
  (specOrderOk_q v l w h).mono fun _ _ ⟨he, hd⟩ => ⟨he, hd.below⟩
end Go.Proofs.Ytjbhlbcjljdjmaa
