/- Contracts of the laws' helpers for records Cross. Written by a program (gen_rec.py). -/
import Derived.Test.YtjbhlbcjljdjmaaM2
import Derived.StillTailTactics
import Derived.BigQuiet
namespace Go.Proofs.Ytjbhlbcjljdjmaa
open Go.RowKit

abbrev RCross := Int × Bool
def cCross (t : RCross) : List Value := [.int .i64 t.1, .bool t.2]
theorem cCross_len (a : RCross) : (cCross a).length = 2 := rfl
def mkCross (k : Int) : List Value := [.int .i64 k, .bool ((k + 1) % 3 == 0)]
theorem mkCross_len (k : Int) : (mkCross k).length = 2 := rfl
theorem infoCross : (Try.prog.info? 115).map (fun i => (i.zero, i.size, i.bytes)) = some (some (.agg #[.int .i64 0, .bool false]), 2, 16) := by kernel_rfl
theorem toCross_any (a0 : Int) (a1 : Bool) (w : World) :
    Calls Try.prog 111 #[.agg #[.int .i64 a0, .bool a1]] w fun e w' => e = .returned (.agg #[.int .i64 a0, .bool a1]) ∧ Below w.heap.size w w' := by
  go_enter Try.func111, Try.ntmps111
  go_wp2
  exact bodyPost_ret (v := .agg #[.int .i64 a0, .bool a1]) (by simp [results, Try.results111, go_sem]) rfl ⟨rfl, by (repeat' (first | exact Below.refl _ _ | (refine Below.setCell ?_ (by first | omega | (simp; omega) | (simp; done)) _) | (refine Below.alloc ?_ (by first | omega | (simp; omega) | (simp; done)) _) | (refine Below.drew ?_) | (refine below_drewN ?_ _) | (refine Below.trans ?_ (Below.mono (by assumption) (by first | omega | (simp; omega) | (simp; done))))))⟩
set_option maxHeartbeats 1000000 in
theorem eqCross_same (a0 : Int) (a1 : Bool) (w : World) :
    Calls Try.prog 117 #[.agg #[.int .i64 a0, .bool a1], .agg #[.int .i64 a0, .bool a1]] w fun e w' => e = .returned (.bool true) ∧ Below w.heap.size w w' := by
  go_enter Try.func117, Try.ntmps117
  go_wp2
  go_ret
  exact ⟨rfl, by (repeat' (first | exact Below.refl _ _ | (refine Below.setCell ?_ (by first | omega | (simp; omega) | (simp; done)) _) | (refine Below.alloc ?_ (by first | omega | (simp; omega) | (simp; done)) _) | (refine Below.drew ?_) | (refine below_drewN ?_ _) | (refine Below.trans ?_ (Below.mono (by assumption) (by first | omega | (simp; omega) | (simp; done))))))⟩
theorem szCrossS_any (v : Value) (l : List RCross) (m : Int) (w : World) (h : RdL cCross 2 w v l) (hm : 0 ≤ m ∧ m ≤ 1048576) :
    Calls Try.prog 56 #[v, .int .i64 m] w (SzPost m l.length w) := by
  obtain ⟨A, c, rfl, h1, h2⟩ := h.form
  by_cases hlt : m < l.length
  · go_enter Try.func56, Try.ntmps56
    go_wp2_with fail
    go_ret
    exact ⟨-1, rfl, rfl, by omega, by omega⟩
  · go_enter Try.func56, Try.ntmps56
    go_wp2_with fail
    go_ret
    exact ⟨_, rfl, rfl, by omega, by omega⟩
set_option maxHeartbeats 1000000 in
set_option maxRecDepth 100000 in
theorem eqCrossS_any (v v' : Value) (l : List RCross) (w : World) (h : RdL cCross 2 w v l) (hq : RdL cCross 2 w v' l) :
    Calls Try.prog 67 #[v, v'] w fun e w' => e = .returned (.bool true) ∧ Below w.heap.size w w' := by
  obtain ⟨A, c, rfl, h1, h2⟩ := h.form
  obtain ⟨A', c', rfl, h1', h2'⟩ := hq.form
  go_enter Try.func67, Try.ntmps67
  go_wp2_with fail
  go_loopw [5] (fun i wr => ∃ k : Nat, k ≤ l.length ∧ i = .int .i64 k ∧ Below w.heap.size w wr) (fun i _ => l.length - (intOf i).toNat)
  case atStart => exact ⟨0, Nat.zero_le _, rfl, by (repeat' (first | exact Below.refl _ _ | (refine Below.setCell ?_ (by first | omega | (simp; omega) | (simp; done)) _) | (refine Below.alloc ?_ (by first | omega | (simp; omega) | (simp; done)) _) | (refine Below.drew ?_) | (refine below_drewN ?_ _) | (refine Below.trans ?_ (Below.mono (by assumption) (by first | omega | (simp; omega) | (simp; done))))))⟩
  case round =>
    obtain ⟨k, hk, rfl, hb⟩ := hrel
    have hz := hb.size
    by_cases hlt : k < l.length
    · have hr1 := h.below hb
      have hr2 := hq.below hb
      obtain ⟨g, off, rfl, hg, hc⟩ := hr1.cell cCross_len (by omega) hlt
      have k0 := hc 0 _ rfl
      have k1 := hc 1 _ rfl
      obtain ⟨g', off', rfl, hg', hc'⟩ := hr2.cell cCross_len (by omega) hlt
      have k2 := hc' 0 _ rfl
      have k3 := hc' 1 _ rfl
      simp only [Nat.add_zero] at k0 k1 k2 k3
      clear hc hc'
      go_wp2_with fail
      go_still_tail 8, (by kernel_rfl)
      change wpList _ _ _ _ _ wr.drew
      go_wp2_with (go_at_call 117; refine (eqCross_same _ _ _).mono ?_; rintro e w' ⟨rfl, hb'⟩)
      go_roundw
      case rel => exact ⟨k + 1, by omega, by go_num, by (repeat' (first | exact Below.refl _ _ | (refine Below.setCell ?_ (by first | omega | (simp; omega) | (simp; done)) _) | (refine Below.alloc ?_ (by first | omega | (simp; omega) | (simp; done)) _) | (refine Below.drew ?_) | (refine below_drewN ?_ _) | (refine Below.trans ?_ (Below.mono (by assumption) (by first | omega | (simp; omega) | (simp; done))))))⟩
      case measure => simp [intOf]; omega
    · go_wp2_with fail
      go_ret
      exact ⟨rfl, by (repeat' (first | exact Below.refl _ _ | (refine Below.setCell ?_ (by first | omega | (simp; omega) | (simp; done)) _) | (refine Below.alloc ?_ (by first | omega | (simp; omega) | (simp; done)) _) | (refine Below.drew ?_) | (refine below_drewN ?_ _) | (refine Below.trans ?_ (Below.mono (by assumption) (by first | omega | (simp; omega) | (simp; done))))))⟩
set_option maxHeartbeats 1000000 in
set_option maxRecDepth 100000 in
theorem toCrossS_any (v : Value) (l : List RCross) (w : World) (h : RdL cCross 2 w v l) (hl : l.length ≤ 1048576) :
    Calls Try.prog 61 #[v] w fun e w' => ∃ v', e = .returned v' ∧ w'.ownsRow w.heap.size 115 2 v' l.length (l.flatMap cCross) ∧ Below w.heap.size w w' := by
  obtain ⟨A, c, rfl, h1, h2⟩ := h.form
  obtain ⟨i0, hi0, hz0, hz1, hz2⟩ := info_parts infoCross
  go_enter Try.func61, Try.ntmps61
  go_wp2_with (at_make; refine wpList_make_full _ rfl _ _ _ rfl w.heap.size 115 i0 _ 2 Try.underlying44 hi0 hz0 hz1 _ _ _ _ l.length rfl rfl rfl rfl (by rw [hz2]; omega) (by simp [maxLen]; omega) (Nat.le_refl _) ?_; intro w1 hown hgr)
  have hb1 : Below w.heap.size w w1 := (Below.refl _ _).grown hgr (Nat.le_refl _) (by simp)
  go_loopw [4] (fun i wr => ∃ (k : Nat) (xs : List Value), k ≤ l.length ∧ i = .int .i64 k ∧ wr.ownsRow w.heap.size 115 2 (.slice (some ⟨w.heap.size, 0, none⟩) l.length l.length) l.length xs ∧ Hid (xs.take (k * 2) = (l.take k).flatMap cCross) ∧ Below w.heap.size w wr) (fun i _ => l.length - (intOf i).toNat)
  case atStart => exact ⟨0, _, Nat.zero_le _, rfl, hown, by simp [Hid], hb1⟩
  case round =>
    obtain ⟨k, xs, hk, rfl, hown, ht, hb⟩ := hrel
    have hz := hb.size
    by_cases hlt : k < l.length
    · have hr1 := h.below hb
      obtain ⟨g, off, rfl, hg, hc⟩ := hr1.cell cCross_len (by omega) hlt
      have k0 := hc 0 _ rfl
      have k1 := hc 1 _ rfl
      simp only [Nat.add_zero] at k0 k1
      clear hc
      have hxl := hown.1
      obtain ⟨u0, c0⟩ : ∃ u, wr.cell? ⟨w.heap.size, k * 2, none⟩ = some u := ⟨_, (hown.cellAt (k * 2) (by omega)).trans (List.getElem?_eq_getElem (by omega))⟩
      have f0 := hown.frozenAt (k * 2)
      obtain ⟨u1, c1⟩ : ∃ u, wr.cell? ⟨w.heap.size, k * 2 + 1, none⟩ = some u := ⟨_, (hown.cellAt (k * 2 + 1) (by omega)).trans (List.getElem?_eq_getElem (by omega))⟩
      have f1 := hown.frozenAt (k * 2 + 1)
      clear hxl
      go_wp2_with fail
      refine (toCross_any _ _ _).mono ?_
      rintro e w' ⟨rfl, hb'⟩
      have d0 := carry hb' c0
      have g0 := carryF hb' c0 f0
      have d1 := carry hb' c1
      have g1 := carryF hb' c1 f1
      clear k0 k1 c0 c1 f0 f1
      go_wp2_with fail
      have ho1 := (((own_below hown hb').stored (k * 2) (.int .i64 l[k].1)).1).stored (k * 2 + 1) (.bool l[k].2)
      go_roundw
      case rel =>
        refine ⟨k + 1, _, by omega, by go_num, ho1.1, ?_, by (repeat' (first | exact Below.refl _ _ | (refine Below.setCell ?_ (by first | omega | (simp; omega) | (simp; done)) _) | (refine Below.alloc ?_ (by first | omega | (simp; omega) | (simp; done)) _) | (refine Below.drew ?_) | (refine below_drewN ?_ _) | (refine Below.trans ?_ (Below.mono (by assumption) (by first | omega | (simp; omega) | (simp; done))))))⟩
        show _ = _
        rw [flat_snoc cCross l hlt]
        exact size_set2 _ _ ht.out (by rw [hown.1]; omega)
      case measure => simp [intOf]; omega
    · go_wp2_with fail
      go_ret
      refine ⟨_, rfl, ?_, by (repeat' (first | exact Below.refl _ _ | (refine Below.setCell ?_ (by first | omega | (simp; omega) | (simp; done)) _) | (refine Below.alloc ?_ (by first | omega | (simp; omega) | (simp; done)) _) | (refine Below.drew ?_) | (refine below_drewN ?_ _) | (refine Below.trans ?_ (Below.mono (by assumption) (by first | omega | (simp; omega) | (simp; done))))))⟩
      have e := ht.out
      rw [List.take_of_length_le (by rw [hown.1]; omega), List.take_of_length_le (by omega)] at e
      rw [← e]; exact hown
set_option maxHeartbeats 1000000 in
set_option maxRecDepth 100000 in
theorem markCrossS_any (v : Value) (n : Nat) (xs0 : List Value) (m : Int) (B : Nat) (w : World) (h : w.ownsRow B 115 2 v n xs0) (hm : 0 ≤ m ∧ m ≤ 1152921504606846976) (hn : n ≤ 16777216) :
    Calls Try.prog 75 #[v, .int .i64 m] w fun e w' => e = .returned (.int .i64 (m + n * 2)) ∧ w'.ownsRow B 115 2 v n (markC mkCross 2 n m) ∧ w.grownBy w' v.ownBlock := by
  obtain ⟨A, c, rfl, h1, h2⟩ := (RdS.of_own h).form
  simp only [maxLen] at h2
  go_enter Try.func75, Try.ntmps75
  go_wp2_with fail
  go_loopw [1, 5] (fun q i wr => ∃ (k : Nat) (xs : List Value), k ≤ n ∧ i = .int .i64 k ∧ q = .int .i64 (m + k * 2) ∧ wr.ownsRow B 115 2 (.slice A n c) n xs ∧ Hid (xs.take (k * 2) = markC mkCross 2 k m) ∧ Hid (w.grownBy wr (Value.slice A n c).ownBlock)) (fun _ i _ => n - (intOf i).toNat)
  case atStart => exact ⟨0, _, Nat.zero_le _, rfl, by simp, h, by simp [Hid, markC], World.grownBy.refl _ _⟩
  case round =>
    obtain ⟨k, xs, hk, rfl, rfl, hown, ht, hgr⟩ := hrel
    by_cases hlt : k < n
    · obtain ⟨g, cap, hv⟩ := own_form hown (by omega)
      injection hv with hv1 hv2 hv3
      subst hv1 hv3
      have hxl := hown.1
      obtain ⟨u0, c0⟩ : ∃ u, wr.cell? ⟨g, k * 2, none⟩ = some u := ⟨_, (hown.cellAt (k * 2) (by omega)).trans (List.getElem?_eq_getElem (by omega))⟩
      have f0 := hown.frozenAt (k * 2)
      obtain ⟨u1, c1⟩ : ∃ u, wr.cell? ⟨g, k * 2 + 1, none⟩ = some u := ⟨_, (hown.cellAt (k * 2 + 1) (by omega)).trans (List.getElem?_eq_getElem (by omega))⟩
      have f1 := hown.frozenAt (k * 2 + 1)
      have Hxl := Lib.hid hxl
      clear hxl
      go_wp2_with fail
      have ho1 := (((hown).stored (k * 2) (.int .i64 (m + k * 2))).1).stored (k * 2 + 1) (.bool (((m + k * 2) + 1) % 3 == 0))
      go_roundw
      case rel =>
        refine ⟨k + 1, _, by omega, by go_num, int_eq (by omega), ho1.1, ?_, ?_⟩
        · show _ = _
          rw [markC_succ]
          refine (size_set2 _ _ ht.out (by rw [Hxl.out]; omega)).trans ?_
          simp [mkCross, Int.add_assoc]
        · exact (by repeat (first | exact hgr.out | refine grown_setCell ?_ rfl _))
      case measure => simp [intOf]; omega
    · go_wp2_with fail
      go_ret
      have hkn : k = n := by omega
      subst hkn
      refine ⟨rfl, ?_, hgr.out⟩
      have e := ht.out
      rw [List.take_of_length_le (by rw [hown.1]; omega)] at e
      rw [← e]; exact hown
set_option maxHeartbeats 1000000 in
set_option maxRecDepth 100000 in
theorem heldCrossS_any (v : Value) (n : Nat) (m : Int) (w : World) (h : RdS w 2 v n (markC mkCross 2 n m)) (hm : 0 ≤ m ∧ m ≤ 1152921504606846976) (hn : n ≤ 16777216) :
    Calls Try.prog 77 #[v, .int .i64 m] w fun e w' => e = .returned (.int .i64 (m + n * 2)) ∧ w = w' := by
  obtain ⟨A, c, rfl, h1, h2⟩ := h.form
  simp only [maxLen] at h2
  go_enter Try.func77, Try.ntmps77
  go_wp2_with fail
  go_loop [1, 5] (fun q i => ∃ k : Nat, k ≤ n ∧ i = .int .i64 k ∧ q = .int .i64 (m + k * 2)) (fun _ i => n - (intOf i).toNat)
  case atStart => exact ⟨0, Nat.zero_le _, rfl, by simp⟩
  case round =>
    obtain ⟨k, hk, rfl, rfl⟩ := hrel
    by_cases hlt : k < n
    · obtain ⟨g, off, rfl, hg, hc⟩ := h.at_ (by omega) (by omega)
      have k0 := hc (k * 2 + 0) (.int .i64 (m + k * 2)) (markC_get mkCross_len k n m hlt 0 (by omega) _ rfl)
      rw [Nat.add_zero] at k0
      have k1 := hc (k * 2 + 1) (.bool (((m + k * 2) + 1) % 3 == 0)) (markC_get mkCross_len k n m hlt 1 (by omega) _ rfl)
      rw [← Nat.add_assoc] at k1
      clear hc
      go_wp2_with fail
      go_round
      case rel => exact ⟨k + 1, by omega, by go_num, int_eq (by omega)⟩
      case measure => simp [intOf]; omega
    · go_wp2_with fail
      go_ret
      have hkn : k = n := by omega
      subst hkn
      exact ⟨rfl, rfl⟩
end Go.Proofs.Ytjbhlbcjljdjmaa
