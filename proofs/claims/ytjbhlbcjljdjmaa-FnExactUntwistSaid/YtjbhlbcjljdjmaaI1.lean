/- Contracts: slices of ints, the helpers of the laws. -/
import Derived.Test.YtjbhlbcjljdjmaaM4
import Derived.BigQuiet
namespace Go.Proofs.Ytjbhlbcjljdjmaa
open Go.RowKit
theorem infoInt : (Try.prog.info? 3).map (fun i => (i.zero, i.size, i.bytes)) = some (some (.int .i64 0), 1, 8) := by kernel_rfl
def mkInt (k : Int) : List Value := [.int .i64 k]
theorem mkInt_len (k : Int) : (mkInt k).length = 1 := rfl
theorem cInt_one (a : Int) : ∀ y ∈ cInt a, y.oneCell' = true := by intro y hy; simp [cInt] at hy; subst hy; rfl
theorem szIntS_any (v : Value) (l : List Int) (m : Int) (w : World) (h : RdL cInt 1 w v l) (hm : 0 ≤ m ∧ m ≤ 1048576) :
    Calls Try.prog 79 #[v, .int .i64 m] w (SzPost m l.length w) := by
  obtain ⟨A, c, rfl, h1, h2⟩ := h.form
  by_cases hlt : m < l.length
  · go_enter Try.func79, Try.ntmps79
    go_wp2_with fail
    go_ret
    exact ⟨-1, rfl, rfl, by omega, by omega⟩
  · go_enter Try.func79, Try.ntmps79
    go_wp2_with fail
    go_ret
    exact ⟨_, rfl, rfl, by omega, by omega⟩
set_option maxHeartbeats 1000000 in
set_option maxRecDepth 100000 in
theorem toIntS_any (v : Value) (l : List Int) (w : World) (h : RdL cInt 1 w v l) (hl : l.length ≤ 1048576) :
    Calls Try.prog 83 #[v] w fun e w' => ∃ v', e = .returned v' ∧ w'.ownsRow w.heap.size 3 1 v' l.length (l.flatMap cInt) ∧ Below w.heap.size w w' := by
  obtain ⟨A, c, rfl, h1, h2⟩ := h.form
  obtain ⟨i0, hi0, hz0, hz1, hz2⟩ := info_parts infoInt
  go_enter Try.func83, Try.ntmps83
  go_wp2_with (at_make; refine wpList_make_full _ rfl _ _ _ rfl w.heap.size 3 i0 _ 1 Try.underlying28 hi0 hz0 hz1 _ _ _ _ l.length rfl rfl rfl rfl (by rw [hz2]; omega) (by simp [maxLen]; omega) (Nat.le_refl _) ?_; intro w1 hown hgr)
  have hb1 : Below w.heap.size w w1 := (Below.refl _ _).grown hgr (Nat.le_refl _) (by simp)
  go_loopw [4] (fun i wr => ∃ (k : Nat) (xs : List Value), k ≤ l.length ∧ i = .int .i64 k ∧ wr.ownsRow w.heap.size 3 1 (.slice (some ⟨w.heap.size, 0, none⟩) l.length l.length) l.length xs ∧ Hid (xs.take k = (l.take k).flatMap cInt) ∧ Below w.heap.size w wr) (fun i _ => l.length - (intOf i).toNat)
  case atStart => exact ⟨0, _, Nat.zero_le _, rfl, hown, by simp [Hid], hb1⟩
  case round =>
    obtain ⟨k, xs, hk, rfl, hown, ht, hb⟩ := hrel
    have hz := hb.size
    by_cases hlt : k < l.length
    · have hr1 := h.below hb
      obtain ⟨g, off, rfl, hg, hc⟩ := hr1.cell cInt_len (by omega) hlt
      have k0 := hc 0 _ rfl
      simp only [Nat.add_zero, Nat.mul_one] at k0
      clear hc
      have hxl := hown.1
      obtain ⟨u0, c0⟩ : ∃ u, wr.cell? ⟨w.heap.size, k, none⟩ = some u := ⟨_, (hown.cellAt k (by omega)).trans (List.getElem?_eq_getElem (by omega))⟩
      have f0 := hown.frozenAt k
      have Hxl := Lib.hid hxl
      clear hxl
      go_wp2_with fail
      have ho1 := hown.stored k (.int .i64 l[k])
      go_roundw
      case rel =>
        refine ⟨k + 1, _, by omega, by go_num, ho1.1, ?_, by (repeat' (first | exact Below.refl _ _ | (refine Below.setCell ?_ (by first | omega | (simp; omega) | (simp; done)) _) | (refine Below.alloc ?_ (by first | omega | (simp; omega) | (simp; done)) _) | (refine Below.drew ?_) | (refine below_drewN ?_ _) | (refine Below.trans ?_ (Below.mono (by assumption) (by first | omega | (simp; omega) | (simp; done))))))⟩
        show _ = _
        rw [flat_snoc cInt l hlt]
        exact size_set1 _ ht.out (by rw [Hxl.out]; omega)
      case measure => simp [intOf]; omega
    · go_wp2_with fail
      go_ret
      refine ⟨_, rfl, ?_, by (repeat' (first | exact Below.refl _ _ | (refine Below.setCell ?_ (by first | omega | (simp; omega) | (simp; done)) _) | (refine Below.alloc ?_ (by first | omega | (simp; omega) | (simp; done)) _) | (refine Below.drew ?_) | (refine below_drewN ?_ _) | (refine Below.trans ?_ (Below.mono (by assumption) (by first | omega | (simp; omega) | (simp; done))))))⟩
      have e := ht.out
      rw [List.take_of_length_le (by rw [hown.1]; omega), List.take_of_length_le (by omega)] at e
      rw [← e]; exact hown

set_option maxHeartbeats 1000000 in
set_option maxRecDepth 100000 in
theorem eqIntS_any (v v' : Value) (l : List Int) (w : World) (h : RdL cInt 1 w v l) (hq : RdL cInt 1 w v' l) :
    Calls Try.prog 87 #[v, v'] w fun e w' => e = .returned (.bool true) ∧ Below w.heap.size w w' := by
  obtain ⟨A, c, rfl, h1, h2⟩ := h.form
  obtain ⟨A', c', rfl, h1', h2'⟩ := hq.form
  go_enter Try.func87, Try.ntmps87
  go_wp2_with fail
  go_loopw [5] (fun i wr => ∃ k : Nat, k ≤ l.length ∧ i = .int .i64 k ∧ Below w.heap.size w wr) (fun i _ => l.length - (intOf i).toNat)
  case atStart => exact ⟨0, Nat.zero_le _, rfl, by (repeat' (first | exact Below.refl _ _ | (refine Below.setCell ?_ (by first | omega | (simp; omega) | (simp; done)) _) | (refine Below.alloc ?_ (by first | omega | (simp; omega) | (simp; done)) _) | (refine Below.drew ?_) | (refine below_drewN ?_ _) | (refine Below.trans ?_ (Below.mono (by assumption) (by first | omega | (simp; omega) | (simp; done))))))⟩
  case round =>
    obtain ⟨k, hk, rfl, hb⟩ := hrel
    have hz := hb.size
    by_cases hlt : k < l.length
    · have hr1 := h.below hb
      have hr2 := hq.below hb
      obtain ⟨g, off, rfl, hg, hc⟩ := hr1.cell cInt_len (by omega) hlt
      have k0 := hc 0 _ rfl
      obtain ⟨g', off', rfl, hg', hc'⟩ := hr2.cell cInt_len (by omega) hlt
      have k2 := hc' 0 _ rfl
      simp only [Nat.add_zero, Nat.mul_one] at k0 k2
      clear hc hc'
      go_wp2_with fail
      go_quiet (fail)
      go_wp2_with fail
      go_roundw
      case rel => exact ⟨k + 1, by omega, by go_num, by (repeat' (first | exact Below.refl _ _ | (refine Below.setCell ?_ (by first | omega | (simp; omega) | (simp; done)) _) | (refine Below.alloc ?_ (by first | omega | (simp; omega) | (simp; done)) _) | (refine Below.drew ?_) | (refine below_drewN ?_ _) | (refine Below.trans ?_ (Below.mono (by assumption) (by first | omega | (simp; omega) | (simp; done))))))⟩
      case measure => simp [intOf]; omega
    · go_wp2_with fail
      go_ret
      exact ⟨rfl, by (repeat' (first | exact Below.refl _ _ | (refine Below.setCell ?_ (by first | omega | (simp; omega) | (simp; done)) _) | (refine Below.alloc ?_ (by first | omega | (simp; omega) | (simp; done)) _) | (refine Below.drew ?_) | (refine below_drewN ?_ _) | (refine Below.trans ?_ (Below.mono (by assumption) (by first | omega | (simp; omega) | (simp; done))))))⟩
set_option maxHeartbeats 1000000 in
set_option maxRecDepth 100000 in
theorem markIntS_any (v : Value) (n : Nat) (xs0 : List Value) (m : Int) (B : Nat) (w : World) (h : w.ownsRow B 3 1 v n xs0) (hm : 0 ≤ m ∧ m ≤ 1152921504606846976) (hn : n ≤ 16777216) :
    Calls Try.prog 88 #[v, .int .i64 m] w fun e w' => e = .returned (.int .i64 (m + n)) ∧ w'.ownsRow B 3 1 v n (markC mkInt 1 n m) ∧ w.grownBy w' v.ownBlock := by
  obtain ⟨A, c, rfl, h1, h2⟩ := (RdS.of_own h).form
  simp only [maxLen] at h2
  go_enter Try.func88, Try.ntmps88
  go_wp2_with fail
  go_loopw [1, 5] (fun q i wr => ∃ (k : Nat) (xs : List Value), k ≤ n ∧ i = .int .i64 k ∧ q = .int .i64 (m + k) ∧ wr.ownsRow B 3 1 (.slice A n c) n xs ∧ Hid (xs.take k = markC mkInt 1 k m) ∧ Hid (w.grownBy wr (Value.slice A n c).ownBlock)) (fun _ i _ => n - (intOf i).toNat)
  case atStart => exact ⟨0, _, Nat.zero_le _, rfl, by simp, h, by simp [Hid, markC], World.grownBy.refl _ _⟩
  case round =>
    obtain ⟨k, xs, hk, rfl, rfl, hown, ht, hgr⟩ := hrel
    by_cases hlt : k < n
    · obtain ⟨g, cap, hv⟩ := own_form hown (by omega)
      injection hv with hv1 hv2 hv3
      subst hv1 hv3
      have hxl := hown.1
      obtain ⟨u0, c0⟩ : ∃ u, wr.cell? ⟨g, k, none⟩ = some u := ⟨_, (hown.cellAt k (by omega)).trans (List.getElem?_eq_getElem (by omega))⟩
      have f0 := hown.frozenAt k
      have Hxl := Lib.hid hxl
      clear hxl
      go_wp2_with fail
      have ho1 := hown.stored k (.int .i64 (m + k))
      go_roundw
      case rel =>
        refine ⟨k + 1, _, by omega, by go_num, int_eq (by omega), ho1.1, ?_, ?_⟩
        · show _ = _
          rw [markC_succ, Int.mul_one]
          exact size_set1 _ ht.out (by rw [Hxl.out]; omega)
        · exact grown_setCell (p := ⟨g, k, none⟩) hgr.out rfl _
      case measure => simp [intOf]; omega
    · go_wp2_with fail
      go_ret
      have hkn : k = n := by omega
      subst hkn
      refine ⟨rfl, ?_, hgr.out⟩
      have e := ht.out
      rw [List.take_of_length_le (by rw [hown.1]; omega)] at e
      rw [← e]; exact hown
set_option maxHeartbeats 1000000 in
set_option maxRecDepth 100000 in
theorem heldIntS_any (v : Value) (n : Nat) (m : Int) (w : World) (h : RdS w 1 v n (markC mkInt 1 n m)) (hm : 0 ≤ m ∧ m ≤ 1152921504606846976) (hn : n ≤ 16777216) :
    Calls Try.prog 89 #[v, .int .i64 m] w fun e w' => e = .returned (.int .i64 (m + n)) ∧ w = w' := by
  obtain ⟨A, c, rfl, h1, h2⟩ := h.form
  simp only [maxLen] at h2
  go_enter Try.func89, Try.ntmps89
  go_wp2_with fail
  go_loop [1, 5] (fun q i => ∃ k : Nat, k ≤ n ∧ i = .int .i64 k ∧ q = .int .i64 (m + k)) (fun _ i => n - (intOf i).toNat)
  case atStart => exact ⟨0, Nat.zero_le _, rfl, by simp⟩
  case round =>
    obtain ⟨k, hk, rfl, rfl⟩ := hrel
    by_cases hlt : k < n
    · obtain ⟨g, off, rfl, hg, hc⟩ := h.at_ (by omega) (by omega)
      have k0 := hc (k * 1 + 0) (.int .i64 (m + k * 1)) (markC_get mkInt_len k n m hlt 0 (by omega) _ rfl)
      simp only [Nat.mul_one, Nat.add_zero, Int.mul_one] at k0
      clear hc
      go_wp2_with fail
      go_round
      case rel => exact ⟨k + 1, by omega, by go_num, int_eq (by omega)⟩
      case measure => simp [intOf]; omega
    · go_wp2_with fail
      go_ret
      have hkn : k = n := by omega
      subst hkn
      exact ⟨rfl, rfl⟩
end Go.Proofs.Ytjbhlbcjljdjmaa
