/- Contracts: LeastWidth. -/
import Derived.Test.YthponccjbbkhaaaD2
namespace Go.Proofs.Ythponccjbbkhaaa
open Go.RowKit
def goodB (l : List ByteArray) (lines k : Int) : Bool := decide (0 ≤ fewF k l) && decide (fewF k l ≤ lines)
def lwFrom (l : List ByteArray) (lines : Int) : Nat → Int → Int
  | 0, _ => -1
  | n + 1, k => if goodB l lines k = true then k else lwFrom l lines n (k + 1)
def leastF (l : List ByteArray) (lines : Int) : Int := if inB lines 0 40 = true then lwFrom l lines 60 1 else -1
theorem lw_yes {l : List ByteArray} {lines : Int} {k : Nat} (h : k ≤ 60) (hr : lwFrom l lines (61 - k) k = lwFrom l lines 60 1) (hg : goodB l lines k = true) : (k : Int) = lwFrom l lines 60 1 := by
  rw [← hr, show 61 - k = (60 - k) + 1 by omega, lwFrom, if_pos hg]
theorem lw_no {l : List ByteArray} {lines : Int} {k : Nat} (h : k ≤ 60) (hr : lwFrom l lines (61 - k) k = lwFrom l lines 60 1) (hg : goodB l lines k = false) : lwFrom l lines (61 - (k + 1)) ((k + 1 : Nat) : Int) = lwFrom l lines 60 1 := by
  rw [← hr, show 61 - k = (60 - k) + 1 by omega, lwFrom, if_neg (by rw [hg]; simp), show 61 - (k + 1) = 60 - k by omega]
  simp
theorem fewF_ge (m : Int) (l : List ByteArray) : -1 ≤ fewF m l := by unfold fewF; split <;> omega
theorem goodB_t {l : List ByteArray} {lines k : Int} (h1 : 0 ≤ fewF k l) (h2 : fewF k l ≤ lines) : goodB l lines k = true := by simp [goodB, h1, h2]
theorem goodB_f {l : List ByteArray} {lines k : Int} (h : ¬ (0 ≤ fewF k l ∧ fewF k l ≤ lines)) : goodB l lines k = false := by
  rw [goodB, ← Bool.not_eq_true, Bool.and_eq_true]; simpa using h

set_option maxHeartbeats 1000000 in
theorem implLeastWidth_any (v : Value) (l : List ByteArray) (m : Int) (w : World) (h : RdL cStr 1 w v l) (hs : ∀ s ∈ l, s.size ≤ 9223372036854775807) :
    Calls Try.prog 69 #[v, .int .i64 m] w fun e w' => e = .returned (.int .i64 (leastF l m)) ∧ Below w.heap.size w w' := by
  have H2 := Lib.hid (fun k W hr => implFewestLines_any v l k W hr hs)
  clear hs
  go_enter Try.func69, Try.ntmps69
  go_wp2_with (go_at_call 73; refine two (within_any _ _ _ _) (fun hc => ?_) (fun hc => ?_))
  · go_loopw [5] (fun i wr => ∃ k : Nat, 1 ≤ k ∧ k ≤ 61 ∧ i = .int .i64 k ∧ Hid (lwFrom l m (61 - k) k = lwFrom l m 60 1) ∧ Below w.heap.size w wr) (fun i _ => 61 - (intOf i).toNat)
    case atStart => exact ⟨1, by omega, by omega, rfl, by rfl, by (repeat' (first | exact Below.refl _ _ | (refine Below.setCell ?_ (by first | omega | (simp; omega) | (simp; done)) _) | (refine Below.alloc ?_ (by first | omega | (simp; omega) | (simp; done)) _) | (refine Below.drew ?_) | (refine below_drewN ?_ _) | (refine Below.trans ?_ (Below.mono (by assumption) (by first | omega | (simp; omega) | (simp; done))))))⟩
    case round =>
      obtain ⟨k, hk1, hk, rfl, hr, hb⟩ := hrel
      have hz := hb.size
      by_cases hlt : k ≤ 60
      · have hge := fewF_ge k l
        obtain ⟨n, hn⟩ : ∃ n, fewF k l = n := ⟨_, rfl⟩
        have h3 := fun W hr => H2.out (k : Int) W hr
        rw [hn] at hge h3
        have H3 := Lib.hid h3
        have Hn := Lib.hid hn
        clear h3 hn
        by_cases hg : 0 ≤ n
        · have hne : (n != -1) = true := by rw [bne_iff_ne]; omega
          by_cases hg2 : n ≤ m
          · have Hg := Lib.hid (lw_yes hlt hr.out (goodB_t (by rw [Hn.out]; exact hg) (by rw [Hn.out]; exact hg2)))
            go_wp2_with (go_at_call 67; refine (H3.out _ (h.below hb)).mono ?_; rintro e w' ⟨rfl, hb'⟩)
            go_ret
            exact ⟨ret_int (by rw [leastF, if_pos hc.out]; exact Hg.out), by (repeat' (first | exact Below.refl _ _ | (refine Below.setCell ?_ (by first | omega | (simp; omega) | (simp; done)) _) | (refine Below.alloc ?_ (by first | omega | (simp; omega) | (simp; done)) _) | (refine Below.drew ?_) | (refine below_drewN ?_ _) | (refine Below.trans ?_ (Below.mono (by assumption) (by first | omega | (simp; omega) | (simp; done))))))⟩
          · have Hg := Lib.hid (lw_no hlt hr.out (goodB_f (by rw [Hn.out]; omega)))
            go_wp2_with (go_at_call 67; refine (H3.out _ (h.below hb)).mono ?_; rintro e w' ⟨rfl, hb'⟩)
            go_roundw
            case rel => exact ⟨k + 1, by omega, by omega, by go_num, Hg.out, by (repeat' (first | exact Below.refl _ _ | (refine Below.setCell ?_ (by first | omega | (simp; omega) | (simp; done)) _) | (refine Below.alloc ?_ (by first | omega | (simp; omega) | (simp; done)) _) | (refine Below.drew ?_) | (refine below_drewN ?_ _) | (refine Below.trans ?_ (Below.mono (by assumption) (by first | omega | (simp; omega) | (simp; done))))))⟩
            case measure => simp [intOf]; omega
        · have hne : (n != -1) = false := by rw [bne_eq_false_iff_eq]; omega
          have Hg := Lib.hid (lw_no hlt hr.out (goodB_f (by rw [Hn.out]; omega)))
          go_wp2_with (go_at_call 67; refine (H3.out _ (h.below hb)).mono ?_; rintro e w' ⟨rfl, hb'⟩)
          go_roundw
          case rel => exact ⟨k + 1, by omega, by omega, by go_num, Hg.out, by (repeat' (first | exact Below.refl _ _ | (refine Below.setCell ?_ (by first | omega | (simp; omega) | (simp; done)) _) | (refine Below.alloc ?_ (by first | omega | (simp; omega) | (simp; done)) _) | (refine Below.drew ?_) | (refine below_drewN ?_ _) | (refine Below.trans ?_ (Below.mono (by assumption) (by first | omega | (simp; omega) | (simp; done))))))⟩
          case measure => simp [intOf]; omega
      · go_wp2_with fail
        go_ret
        refine ⟨ret_int ?_, by (repeat' (first | exact Below.refl _ _ | (refine Below.setCell ?_ (by first | omega | (simp; omega) | (simp; done)) _) | (refine Below.alloc ?_ (by first | omega | (simp; omega) | (simp; done)) _) | (refine Below.drew ?_) | (refine below_drewN ?_ _) | (refine Below.trans ?_ (Below.mono (by assumption) (by first | omega | (simp; omega) | (simp; done))))))⟩
        rw [leastF, if_pos hc.out, ← hr.out, show 61 - k = 0 by omega]
        rfl
  · go_ret
    exact ⟨ret_int (by rw [leastF, if_neg (by rw [hc.out]; simp)]), by (repeat' (first | exact Below.refl _ _ | (refine Below.setCell ?_ (by first | omega | (simp; omega) | (simp; done)) _) | (refine Below.alloc ?_ (by first | omega | (simp; omega) | (simp; done)) _) | (refine Below.drew ?_) | (refine below_drewN ?_ _) | (refine Below.trans ?_ (Below.mono (by assumption) (by first | omega | (simp; omega) | (simp; done))))))⟩
end Go.Proofs.Ythponccjbbkhaaa
