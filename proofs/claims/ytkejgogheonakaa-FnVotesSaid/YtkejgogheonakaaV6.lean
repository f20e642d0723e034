/- Contracts: HasCircle. -/
import Derived.Test.YtkejgogheonakaaV5
namespace Go.Proofs.Ytkejgogheonakaa
open Go.RowKit

def circF (vv : List (List Int)) : Bool := votesB vv && circB vv (vv.getD 0 []).length
theorem circF_f {vv : List (List Int)} (h : votesB vv = false) : circF vv = false := by rw [circF, h]; rfl
def circ1 (vv : List (List Int)) (n a : Nat) : Bool := (List.range n).any (fun b => (List.range n).any (fun c => circP vv a b c))
def circ2 (vv : List (List Int)) (n a b : Nat) : Bool := (List.range n).any (fun c => circP vv a b c)
theorem circF_at {vv : List (List Int)} (h : votesB vv = true) {n a b c : Nat} (hn : (vv.getD 0 []).length = n) (ha : a < n) (hb : b < n) (hc : c < n) (hp : circP vv a b c = true) : circF vv = true := by
  rw [circF, h, hn, Bool.true_and]
  exact range_any_at ha (range_any_at hb (range_any_at hc hp))
theorem circF_none {vv : List (List Int)} {n : Nat} (hn : (vv.getD 0 []).length = n) (h1 : (List.range n).any (circ1 vv n) = false) : circF vv = false := by
  rw [circF, hn, Bool.and_eq_false_iff]; exact .inr h1
theorem circP_f {vv : List (List Int)} {a b c : Nat} (h : ¬ (a ≠ b ∧ b ≠ c ∧ a ≠ c)) : circP vv a b c = false := by rw [circP, decide_eq_false h]; rfl
theorem circP_t {vv : List (List Int)} {a b c : Nat} (h : a ≠ b ∧ b ≠ c ∧ a ≠ c) : circP vv a b c = (beatB vv a b && (beatB vv b c && beatB vv c a)) := by rw [circP, decide_eq_true h]; rfl
theorem circF_cube {vv : List (List Int)} {n : Nat} (hn0 : 0 < n) (hn : (vv.getD 0 []).length = n) (h1 : (List.range (n * n * n)).any (fun x => circP vv (x / n / n) (x / n % n) (x % n)) = false) : circF vv = false := by
  rw [circF, hn, Bool.and_eq_false_iff]
  refine .inr ?_
  rw [← Bool.not_eq_true]
  intro h
  unfold circB at h
  simp only [List.any_eq_true, List.mem_range] at h
  obtain ⟨a, ha, b, hb, c, hc, hp⟩ := h
  rw [← Bool.not_eq_true, List.any_eq_true] at h1
  apply h1
  have hx : a * n * n + b * n + c < n * n * n := by
    have h1 : (a * n + b + 1) * n ≤ n * n * n := Nat.mul_le_mul_right _ (by
      have := Nat.mul_le_mul_right n (show a + 1 ≤ n by omega)
      rw [Nat.add_mul] at this; omega)
    rw [Nat.add_mul, Nat.add_mul] at h1
    omega
  have e1 : (a * n * n + b * n + c) / n = a * n + b := by
    rw [show a * n * n + b * n + c = n * (a * n + b) + c by rw [Nat.mul_add, Nat.mul_comm n (a * n), Nat.mul_comm n b], Nat.mul_add_div hn0, Nat.div_eq_of_lt hc, Nat.add_zero]
  have e2 : (a * n * n + b * n + c) % n = c := by
    rw [show a * n * n + b * n + c = n * (a * n + b) + c by rw [Nat.mul_add, Nat.mul_comm n (a * n), Nat.mul_comm n b], Nat.mul_add_mod, Nat.mod_eq_of_lt hc]
  refine ⟨a * n * n + b * n + c, by simpa using hx, ?_⟩
  rw [e1, e2]
  rw [show a * n + b = n * a + b by rw [Nat.mul_comm], Nat.mul_add_div hn0, Nat.div_eq_of_lt hb, Nat.mul_add_mod, Nat.mod_eq_of_lt hb, Nat.add_zero]
  exact hp
theorem circF_at2 {vv : List (List Int)} (h : votesB vv = true) {n x : Nat} (hn : (vv.getD 0 []).length = n) (hn0 : 0 < n) (hx : x < n * n * n) (hp : circP vv (x / n / n) (x / n % n) (x % n) = true) : circF vv = true := by
  refine circF_at h hn ?_ (Nat.mod_lt _ hn0) (Nat.mod_lt _ hn0) hp
  rw [Nat.div_div_eq_div_mul]
  exact (Nat.div_lt_iff_lt_mul (Nat.mul_pos hn0 hn0)).2 (by rw [Nat.mul_assoc] at hx; exact hx)
theorem int_ne {a b : Nat} : ((a : Int) != (b : Int)) = decide (a ≠ b) := by
  rw [Bool.eq_iff_iff, bne_iff_ne, decide_eq_true_iff]; omega
set_option maxHeartbeats 4000000 in
set_option maxRecDepth 100000 in
theorem implHasCircle_any (v : Value) (vv : List (List Int)) (w : World) (h : RdRows w v vv) :
    Calls Try.prog 20 #[v] w fun e w' => e = .returned (.bool (circF vv)) ∧ Below w.heap.size w w' := by
  have h0 := h
  obtain ⟨A, c, rfl, h1, h2⟩ := h.form
  have hcon := fun W (h : RdRows W (.slice A vv.length c) vv) => implVotesOk_any _ vv W h
  cases hv : votesB vv <;> rw [hv] at hcon <;> have Hv := Lib.hid hv <;> have Hcon := Lib.hid hcon <;> clear hcon
  · clear hv
    go_enter Try.func20, Try.ntmps20
    go_wp2_with (go_at_call 21; refine (Hcon.out _ h0).mono ?_; rintro e w' ⟨rfl, hb⟩)
    go_ret
    exact ⟨ret_bool (circF_f Hv.out).symm, by (repeat' (first | exact Below.refl _ _ | (refine Below.setCell ?_ (by first | omega | (simp; omega) | (simp; done)) _) | (refine Below.alloc ?_ (by first | omega | (simp; omega) | (simp; done)) _) | (refine Below.drew ?_) | (refine below_drewN ?_ _) | (refine Below.trans ?_ (Below.mono (by assumption) (by first | omega | (simp; omega) | (simp; done))))))⟩
  · obtain ⟨n, hl2, hl1, hn, hvt⟩ := votes_n hv
    have Hvt := Lib.hid hvt
    have Hn := Lib.hid hn
    clear hn hv hvt
    obtain ⟨g, off, u, rfl, hg, k0, hru⟩ := h0.cell (k := 0) (by omega)
    simp only [Nat.add_zero] at k0
    obtain ⟨A1, c1, rfl, _, _⟩ := hru.form
    rw [(Hvt.out 0 (by omega)).2.len] at k0
    clear hru
    go_enter Try.func20, Try.ntmps20
    go_wp2_with (go_at_call 21; refine (Hcon.out _ h0).mono ?_; rintro e w1 ⟨rfl, hb1⟩; have k1 := carry hb1 k0)
    go_loopw [13] (fun i wr => ∃ a : Nat, a ≤ n ∧ i = .int .i64 a ∧ Hid ((List.range a).any (circ1 vv n) = false) ∧ Below w.heap.size w wr) (fun i _ => n - (intOf i).toNat)
    case atStart => exact ⟨0, Nat.zero_le _, rfl, by rfl, hb1⟩
    case round =>
      obtain ⟨a, ha, rfl, halla, hbr⟩ := hrel
      by_cases hlta : a < n
      · have k2 := carry hbr k0
        go_wp2_with fail
        obtain ⟨wo, rfl⟩ : ∃ wo : World, wo = wr := ⟨_, rfl⟩
        go_loopw [20] (fun i wi => ∃ b : Nat, b ≤ n ∧ i = .int .i64 b ∧ Hid ((List.range b).any (circ2 vv n a) = false) ∧ Below w.heap.size w wi) (fun i _ => n - (intOf i).toNat)
        case atStart => exact ⟨0, Nat.zero_le _, rfl, by rfl, hbr⟩
        case round =>
          obtain ⟨b, hb, rfl, hallb, hbi⟩ := hrel
          by_cases hltb : b < n
          · have k3 := carry hbi k0
            go_wp2_with fail
            obtain ⟨wp, rfl⟩ : ∃ wp : World, wp = wr := ⟨_, rfl⟩
            go_loopw [27] (fun i wi => ∃ c : Nat, c ≤ n ∧ i = .int .i64 c ∧ Hid ((List.range c).any (circP vv a b) = false) ∧ Below w.heap.size w wi) (fun i _ => n - (intOf i).toNat)
            case atStart => exact ⟨0, Nat.zero_le _, rfl, by rfl, hbi⟩
            case round =>
              obtain ⟨d, hd, rfl, hallc, hbj⟩ := hrel
              by_cases hltc : d < n
              · have e1 := int_ne (a := a) (b := b)
                have e2 := int_ne (a := b) (b := d)
                have e3 := int_ne (a := a) (b := d)
                by_cases hne : a ≠ b ∧ b ≠ d ∧ a ≠ d
                · rw [decide_eq_true hne.1] at e1
                  rw [decide_eq_true hne.2.1] at e2
                  rw [decide_eq_true hne.2.2] at e3
                  have hp := circP_t (vv := vv) hne
                  have c1 := fun W (hW : Below w.heap.size w W) => beats_any _ vv n a b W (h0.below hW) Hv.out Hn.out hlta hltb hne.1
                  have c2 := fun W (hW : Below w.heap.size w W) => beats_any _ vv n b d W (h0.below hW) Hv.out Hn.out hltb hltc hne.2.1
                  have c3 := fun W (hW : Below w.heap.size w W) => beats_any _ vv n d a W (h0.below hW) Hv.out Hn.out hltc hlta (Ne.symm hne.2.2)
                  have C1 := Lib.hid c1
                  have C2 := Lib.hid c2
                  have C3 := Lib.hid c3
                  have Hp := Lib.hid hp
                  clear hne hp c1 c2 c3
                  generalize beatB vv a b = b1 at *
                  generalize beatB vv b d = b2 at *
                  generalize beatB vv d a = b3 at *
                  cases b1
                  · go_wp2_with fail
                    refine (C1.out _ hbj).mono ?_
                    rintro e w3 ⟨rfl, hb3⟩
                    have hb3' := hbj.trans (hb3.mono hbj.size)
                    go_wp2_with fail
                    go_roundw
                    case rel => exact ⟨d + 1, by omega, by go_num, range_any_succ hallc.out Hp.out, hb3'⟩
                    case measure => simp [intOf]; omega
                  · go_wp2_with fail
                    refine (C1.out _ hbj).mono ?_
                    rintro e w3 ⟨rfl, hb3⟩
                    have hb3' := hbj.trans (hb3.mono hbj.size)
                    go_wp2_with fail
                    refine (C2.out _ hb3').mono ?_
                    rintro e w4 ⟨rfl, hb4⟩
                    have hb4' := hb3'.trans (hb4.mono hb3'.size)
                    cases b2
                    · go_wp2_with fail
                      go_roundw
                      case rel => exact ⟨d + 1, by omega, by go_num, range_any_succ hallc.out Hp.out, hb4'⟩
                      case measure => simp [intOf]; omega
                    · go_wp2_with fail
                      refine (C3.out _ hb4').mono ?_
                      rintro e w5 ⟨rfl, hb5⟩
                      have hb5' := hb4'.trans (hb5.mono hb4'.size)
                      cases b3
                      · go_wp2_with fail
                        go_roundw
                        case rel => exact ⟨d + 1, by omega, by go_num, range_any_succ hallc.out Hp.out, hb5'⟩
                        case measure => simp [intOf]; omega
                      · go_wp2_with fail
                        go_ret
                        exact ⟨ret_bool (circF_at Hv.out Hn.out hlta hltb hltc Hp.out).symm, hb5'⟩
                · have hp := circP_f (vv := vv) hne
                  have Hp := Lib.hid hp
                  have Hne := Lib.hid hne
                  clear hp
                  by_cases h1 : a = b
                  · have hd1 : decide (a ≠ b) = false := by simpa using h1
                    rw [hd1] at e1
                    clear hne hd1 h1
                    go_wp2_with fail
                    go_roundw
                    case rel => exact ⟨d + 1, by omega, by go_num, range_any_succ hallc.out Hp.out, hbj⟩
                    case measure => simp [intOf]; omega
                  · have hd1 : decide (a ≠ b) = true := by simpa using h1
                    rw [hd1] at e1
                    by_cases h2 : b = d
                    · have hd2 : decide (b ≠ d) = false := by simpa using h2
                      rw [hd2] at e2
                      clear hne hd1 hd2 h1 h2
                      go_wp2_with fail
                      go_roundw
                      case rel => exact ⟨d + 1, by omega, by go_num, range_any_succ hallc.out Hp.out, hbj⟩
                      case measure => simp [intOf]; omega
                    · have hd2 : decide (b ≠ d) = true := by simpa using h2
                      have hd3 : decide (a ≠ d) = false := by simp only [ne_eq, decide_not]; by_cases h3 : a = d; · simp [h3]
                                                              · exact absurd ⟨h1, h2, h3⟩ hne
                      rw [hd2] at e2
                      rw [hd3] at e3
                      clear hne hd1 hd2 hd3 h1 h2
                      go_wp2_with fail
                      go_roundw
                      case rel => exact ⟨d + 1, by omega, by go_num, range_any_succ hallc.out Hp.out, hbj⟩
                      case measure => simp [intOf]; omega
              · obtain rfl : d = n := by omega
                go_wp2_with fail
                go_roundw
                case rel => exact ⟨b + 1, by omega, by go_num, range_any_succ hallb.out hallc.out, hbj⟩
                case measure => simp [intOf]; omega
          · obtain rfl : b = n := by omega
            go_wp2_with fail
            go_roundw
            case rel => exact ⟨a + 1, by omega, by go_num, range_any_succ halla.out hallb.out, hbi⟩
            case measure => simp [intOf]; omega
      · obtain rfl : a = n := by omega
        go_wp2_with fail
        go_ret
        exact ⟨ret_bool (circF_none Hn.out halla.out).symm, hbr⟩
end Go.Proofs.Ytkejgogheonakaa
