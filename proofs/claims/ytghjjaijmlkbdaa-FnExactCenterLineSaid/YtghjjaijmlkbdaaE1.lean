/- Contracts: CenterLine. -/
import Derived.Test.YtghjjaijmlkbdaaD1
import Derived.Test.YtghjjaijmlkbdaaShelf
namespace Go.Proofs.Ytghjjaijmlkbdaa
open Go.RowKit

def spcs (c : Nat) : ByteArray := ⟨(Lib.repeatL [32] c).toArray⟩
theorem spcs_size (c : Nat) : (spcs c).size = c := by
  show (Lib.repeatL [32] c).toArray.size = c
  rw [List.size_toArray, Lib.repeatL_length]; simp
theorem spcs_succ (c : Nat) : spcs c ++ ⟨#[32]⟩ = spcs (c + 1) := by
  have h : Lib.repeatL [32] (c + 1) = Lib.repeatL [32] c ++ ([32] : List UInt8) := by
    induction c with
    | zero => rfl
    | succ c ih => rw [Lib.repeatL, ih, ← List.append_assoc, ← ih]; rfl
  unfold spcs
  rw [h]
  apply ByteArray.ext
  simp [ByteArray.data_append]
def centB (s : ByteArray) (m : Int) : Bool := (inB m 1 60 && decide ((s.size : Int) ≤ m)) && bytesB s 32 126
def centF (s : ByteArray) (m : Int) : ByteArray := if centB s m = true then spcs ((m - s.size) / 2).toNat ++ s else ByteArray.empty
theorem centB_f1 {s : ByteArray} {m : Int} (h : inB m 1 60 = false) : centB s m = false := by rw [centB, h]; rfl
theorem centB_f2 {s : ByteArray} {m : Int} (h : m < s.size) : centB s m = false := by rw [centB, show decide ((s.size : Int) ≤ m) = false by simp; omega, Bool.and_false]; rfl
theorem centB_f3 {s : ByteArray} {m : Int} (h : bytesB s 32 126 = false) : centB s m = false := by rw [centB, h, Bool.and_false]
theorem centF_f {s : ByteArray} {m : Int} (h : centB s m = false) : Ending.returned (.string ByteArray.empty) = .returned (.string (centF s m)) := by rw [centF, h]; rfl
theorem centF_t {s : ByteArray} {m : Int} (h1 : inB m 1 60 = true) (h2 : (s.size : Int) ≤ m) (h3 : bytesB s 32 126 = true) (c : Nat) (hc : (c : Int) = (m - s.size) / 2) : Ending.returned (.string (spcs c ++ s)) = .returned (.string (centF s m)) := by
  have hb : centB s m = true := by rw [centB, h1, h3, show decide ((s.size : Int) ≤ m) = true by simp; omega]; rfl
  rw [centF, if_pos hb, ← hc]; rfl

set_option maxHeartbeats 1000000 in
theorem implCenterLine_any (s : ByteArray) (m : Int) (w : World) (hs : s.size ≤ 9223372036854775807) :
    Calls Try.prog 55 #[.string s, .int .i64 m] w fun e w' => e = .returned (.string (centF s m)) ∧ Below w.heap.size w w' := by
  by_cases hlen : m < s.size
  · go_enter Try.func55, Try.ntmps55
    go_wp2_with (go_at_call 58; refine two (within_any _ _ _ _) (fun hc => ?_) (fun hc => ?_))
    all_goals
      go_ret
      exact ⟨centF_f (centB_f2 hlen), by (repeat' (first | exact Below.refl _ _ | (refine Below.setCell ?_ (by first | omega | (simp; omega) | (simp; done)) _) | (refine Below.alloc ?_ (by first | omega | (simp; omega) | (simp; done)) _) | (refine Below.drew ?_) | (refine below_drewN ?_ _) | (refine Below.trans ?_ (Below.mono (by assumption) (by first | omega | (simp; omega) | (simp; done))))))⟩
  · go_enter Try.func55, Try.ntmps55
    go_wp2_with (go_at_call 58; refine two (within_any _ _ _ _) (fun hc => ?_) (fun hc => ?_))
    · have hm := inB_iff.1 hc.out
      refine two (areBytes_any _ _ _ _ hs (by omega) (by omega)) (fun hq => ?_) (fun hq => ?_)
      · obtain ⟨c, hc2⟩ := Int.eq_ofNat_of_zero_le (show 0 ≤ (m - s.size) / 2 by omega)
        have hcm : c ≤ 60 := by omega
        have Hc := Lib.hid hc2
        have hz := spcs_size c
        have hsz : ¬ 9223372036854775807 < (spcs c).size + s.size := by omega
        go_wp2_with (go_at_call 72; refine (lib_strings_Repeat ⟨#[32]⟩ c _ (by omega) (by show 1 * c ≤ _; omega)).mono ?_; rintro e w1 ⟨rfl, hb1⟩;skip)
        go_ret
        exact ⟨centF_t hc.out (by omega) hq.out c Hc.out.symm, by (repeat' (first | exact Below.refl _ _ | (refine Below.setCell ?_ (by first | omega | (simp; omega) | (simp; done)) _) | (refine Below.alloc ?_ (by first | omega | (simp; omega) | (simp; done)) _) | (refine Below.drew ?_) | (refine below_drewN ?_ _) | (refine Below.trans ?_ (Below.mono (by assumption) (by first | omega | (simp; omega) | (simp; done))))))⟩
      · go_wp2_with fail
        go_ret
        exact ⟨centF_f (centB_f3 hq.out), by (repeat' (first | exact Below.refl _ _ | (refine Below.setCell ?_ (by first | omega | (simp; omega) | (simp; done)) _) | (refine Below.alloc ?_ (by first | omega | (simp; omega) | (simp; done)) _) | (refine Below.drew ?_) | (refine below_drewN ?_ _) | (refine Below.trans ?_ (Below.mono (by assumption) (by first | omega | (simp; omega) | (simp; done))))))⟩
    · go_ret
      exact ⟨centF_f (centB_f1 hc.out), by (repeat' (first | exact Below.refl _ _ | (refine Below.setCell ?_ (by first | omega | (simp; omega) | (simp; done)) _) | (refine Below.alloc ?_ (by first | omega | (simp; omega) | (simp; done)) _) | (refine Below.drew ?_) | (refine below_drewN ?_ _) | (refine Below.trans ?_ (Below.mono (by assumption) (by first | omega | (simp; omega) | (simp; done))))))⟩
set_option maxHeartbeats 2000000 in
theorem specCenterLine_any (s : ByteArray) (m : Int) (w : World) (hs : s.size ≤ 9223372036854775807) :
    Calls Try.prog 54 #[.string s, .int .i64 m] w fun e w' => e = .returned (.string (centF s m)) ∧ w = w' := by
  by_cases hlen : m < s.size
  · go_enter Try.func54, Try.ntmps54
    go_wp2_with (go_at_call 57; refine two (l01In_any _ _ _ _) (fun hc => ?_) (fun hc => ?_))
    all_goals
      go_ret
      exact ⟨centF_f (centB_f2 hlen), rfl⟩
  · go_enter Try.func54, Try.ntmps54
    go_wp2_with (go_at_call 57; refine two (l01In_any _ _ _ _) (fun hc => ?_) (fun hc => ?_))
    · have hm := inB_iff.1 hc.out
      go_loop [5] (fun i => ∃ k : Nat, k ≤ s.size ∧ i = .int .i64 k ∧ Hid ((s.data.toList.take k).all (byteB 32 126) = true)) (fun i => s.size - (intOf i).toNat)
      case atStart => exact ⟨0, Nat.zero_le _, rfl, by rfl⟩
      case round =>
        obtain ⟨k, hk, rfl, hall⟩ := hrel
        by_cases hlt : k < s.size
        · have hl : k < s.data.toList.length := by simpa using hlt
          by_cases h1 : (s[k].toNat : Int) < 32
          · go_wp2_with fail
            go_ret
            exact ⟨centF_f (centB_f3 (all_false_at hl (byteB_f1 h1))), rfl⟩
          · by_cases h2 : 126 < (s[k].toNat : Int)
            · go_wp2_with fail
              go_ret
              exact ⟨centF_f (centB_f3 (all_false_at hl (byteB_f2 h2))), rfl⟩
            · go_wp2_with fail
              go_round
              case rel => exact ⟨k + 1, by omega, by go_num, all_take_succ hl hall.out (byteB_t h1 h2)⟩
              case measure => simp [intOf]; omega
        · have hb : bytesB s 32 126 = true := all_take_end (l := s.data.toList) (by simpa using hlt) hall.out
          have Hb := Lib.hid hb
          clear hb
          obtain ⟨c, hc2⟩ := Int.eq_ofNat_of_zero_le (show 0 ≤ (m - s.size) / 2 by omega)
          have hcm : c ≤ 60 := by omega
          have Hc := Lib.hid hc2
          go_wp2_with fail
          go_loop [6, 7] (fun q i => ∃ j r : Nat, Hid (j + r = c) ∧ r ≤ 60 ∧ j ≤ 60 ∧ i = .int .i64 r ∧ q = .string (spcs j)) (fun _ i => (intOf i).toNat)
          case atStart => exact ⟨0, c, by simp [Hid], hcm, by omega, rfl, rfl⟩
          case round =>
            obtain ⟨j, r, hjr, hr, hj, rfl, rfl⟩ := hrel
            have hz := spcs_size j
            have hz2 := spcs_succ j
            have hsm : s.size ≤ 60 := by omega
            by_cases hr0 : 0 < r
            · have Hz2 := Lib.hid hz2
              have hj' : j + 1 ≤ 60 := by have := hjr.out; omega
              have hsz : ¬ 9223372036854775807 < (spcs j).size + 1 := by omega
              clear hz2
              go_wp2_with fail
              go_round
              case rel => exact ⟨j + 1, r - 1, by have := hjr.out; show _ = _; omega, by omega, hj', int_eq (by omega), by rw [← Hz2.out]⟩
              case measure => simp [intOf]; omega
            · have hsz : ¬ 9223372036854775807 < (spcs j).size + s.size := by omega
              have hjc : j = c := by have := hjr.out; omega
              subst hjc
              clear hz hz2
              go_wp2_with fail
              go_ret
              exact ⟨centF_t hc.out (by omega) Hb.out j Hc.out.symm, rfl⟩
    · go_ret
      exact ⟨centF_f (centB_f1 hc.out), rfl⟩
end Go.Proofs.Ytghjjaijmlkbdaa
