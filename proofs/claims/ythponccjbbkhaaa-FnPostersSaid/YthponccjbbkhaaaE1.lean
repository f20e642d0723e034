/- Contracts: CenterLine. -/
import Derived.Test.YthponccjbbkhaaaD1
import Derived.Test.YthponccjbbkhaaaShelf
namespace Go.Proofs.Ythponccjbbkhaaa
open Go.RowKit

def spcs (c : Nat) : ByteArray := ⟨(Lib.repeatL [32] c).toArray⟩
theorem spcs_size (c : Nat) : (spcs c).size = c := by
  show (Lib.repeatL [32] c).toArray.size = c
  rw [List.size_toArray, Lib.repeatL_length]; simp
theorem spcs_succ (c : Nat) : spcs c ++ ⟨#[32]⟩ = spcs (c + 1) := by
  have h : Lib.repeatL [32] (c + 1) = Lib.repeatL [32] c ++ ([32] : List UInt8) := by
    induction c with
    | zero => rfl
    | succ c ih => rw [Lib.repeatL, ih, ← List.append_assoc, ← ih]; rfl
  unfold spcs
  rw [h]
  apply ByteArray.ext
  simp [ByteArray.data_append]
def centB (s : ByteArray) (m : Int) : Bool := (inB m 1 60 && decide ((s.size : Int) ≤ m)) && bytesB s 32 126
def centF (s : ByteArray) (m : Int) : ByteArray := if centB s m = true then spcs ((m - s.size) / 2).toNat ++ s else ByteArray.empty
theorem centB_f1 {s : ByteArray} {m : Int} (h : inB m 1 60 = false) : centB s m = false := by rw [centB, h]; rfl
theorem centB_f2 {s : ByteArray} {m : Int} (h : m < s.size) : centB s m = false := by rw [centB, show decide ((s.size : Int) ≤ m) = false by simp; omega, Bool.and_false]; rfl
theorem centB_f3 {s : ByteArray} {m : Int} (h : bytesB s 32 126 = false) : centB s m = false := by rw [centB, h, Bool.and_false]
theorem centF_f {s : ByteArray} {m : Int} (h : centB s m = false) : Ending.returned (.string ByteArray.empty) = .returned (.string (centF s m)) := by rw [centF, h]; rfl
theorem centF_t {s : ByteArray} {m : Int} (h1 : inB m 1 60 = true) (h2 : (s.size : Int) ≤ m) (h3 : bytesB s 32 126 = true) (c : Nat) (hc : (c : Int) = (m - s.size) / 2) : Ending.returned (.string (spcs c ++ s)) = .returned (.string (centF s m)) := by
  have hb : centB s m = true := by rw [centB, h1, h3, show decide ((s.size : Int) ≤ m) = true by simp; omega]; rfl
  rw [centF, if_pos hb, ← hc]; rfl

set_option maxHeartbeats 1000000 in
theorem implCenterLine_any (s : ByteArray) (m : Int) (w : World) (hs : s.size ≤ 9223372036854775807) :
    Calls Try.prog 68 #[.string s, .int .i64 m] w fun e w' => e = .returned (.string (centF s m)) ∧ Below w.heap.size w w' := by
  by_cases hlen : m < s.size
  · go_enter Try.func68, Try.ntmps68
    go_wp2_with (go_at_call 73; refine two (within_any _ _ _ _) (fun hc => ?_) (fun hc => ?_))
    all_goals
      go_ret
      exact ⟨centF_f (centB_f2 hlen), by (repeat' (first | exact Below.refl _ _ | (refine Below.setCell ?_ (by first | omega | (simp; omega) | (simp; done)) _) | (refine Below.alloc ?_ (by first | omega | (simp; omega) | (simp; done)) _) | (refine Below.drew ?_) | (refine below_drewN ?_ _) | (refine Below.trans ?_ (Below.mono (by assumption) (by first | omega | (simp; omega) | (simp; done))))))⟩
  · go_enter Try.func68, Try.ntmps68
    go_wp2_with (go_at_call 73; refine two (within_any _ _ _ _) (fun hc => ?_) (fun hc => ?_))
    · have hm := inB_iff.1 hc.out
      refine two (areBytes_any _ _ _ _ hs (by omega) (by omega)) (fun hq => ?_) (fun hq => ?_)
      · obtain ⟨c, hc2⟩ := Int.eq_ofNat_of_zero_le (show 0 ≤ (m - s.size) / 2 by omega)
        have hcm : c ≤ 60 := by omega
        have Hc := Lib.hid hc2
        have hz := spcs_size c
        have hsz : ¬ 9223372036854775807 < (spcs c).size + s.size := by omega
        go_wp2_with (go_at_call 106; refine (lib_strings_Repeat ⟨#[32]⟩ c _ (by omega) (by show 1 * c ≤ _; omega)).mono ?_; rintro e w1 ⟨rfl, hb1⟩;skip)
        go_ret
        exact ⟨centF_t hc.out (by omega) hq.out c Hc.out.symm, by (repeat' (first | exact Below.refl _ _ | (refine Below.setCell ?_ (by first | omega | (simp; omega) | (simp; done)) _) | (refine Below.alloc ?_ (by first | omega | (simp; omega) | (simp; done)) _) | (refine Below.drew ?_) | (refine below_drewN ?_ _) | (refine Below.trans ?_ (Below.mono (by assumption) (by first | omega | (simp; omega) | (simp; done))))))⟩
      · go_wp2_with fail
        go_ret
        exact ⟨centF_f (centB_f3 hq.out), by (repeat' (first | exact Below.refl _ _ | (refine Below.setCell ?_ (by first | omega | (simp; omega) | (simp; done)) _) | (refine Below.alloc ?_ (by first | omega | (simp; omega) | (simp; done)) _) | (refine Below.drew ?_) | (refine below_drewN ?_ _) | (refine Below.trans ?_ (Below.mono (by assumption) (by first | omega | (simp; omega) | (simp; done))))))⟩
    · go_ret
      exact ⟨centF_f (centB_f1 hc.out), by (repeat' (first | exact Below.refl _ _ | (refine Below.setCell ?_ (by first | omega | (simp; omega) | (simp; done)) _) | (refine Below.alloc ?_ (by first | omega | (simp; omega) | (simp; done)) _) | (refine Below.drew ?_) | (refine below_drewN ?_ _) | (refine Below.trans ?_ (Below.mono (by assumption) (by first | omega | (simp; omega) | (simp; done))))))⟩
end Go.Proofs.Ythponccjbbkhaaa
