/- Contracts of the laws' helpers for records Cord. Written by a program (gen_rec.py). -/
import Derived.Test.YthponccjbbkhaaaM2
import Derived.StillTailTactics
import Derived.BigQuiet
namespace Go.Proofs.Ythponccjbbkhaaa
open Go.RowKit

abbrev RCord := Int × Int × Int
def cCord (t : RCord) : List Value := [.int .i64 t.1, .int .i64 t.2.1, .int .i64 t.2.2]
theorem cCord_len (a : RCord) : (cCord a).length = 3 := rfl
def mkCord (k : Int) : List Value := [.int .i64 k, .int .i64 (k + 1), .int .i64 (k + 2)]
theorem mkCord_len (k : Int) : (mkCord k).length = 3 := rfl
theorem infoCord : (Try.prog.info? 89).map (fun i => (i.zero, i.size, i.bytes)) = some (some (.agg #[.int .i64 0, .int .i64 0, .int .i64 0]), 3, 24) := by kernel_rfl
theorem toCord_any (a0 : Int) (a1 : Int) (a2 : Int) (w : World) :
    Calls Try.prog 115 #[.agg #[.int .i64 a0, .int .i64 a1, .int .i64 a2]] w fun e w' => e = .returned (.agg #[.int .i64 a0, .int .i64 a1, .int .i64 a2]) ∧ Below w.heap.size w w' := by
  go_enter Try.func115, Try.ntmps115
  go_wp2
  exact bodyPost_ret (v := .agg #[.int .i64 a0, .int .i64 a1, .int .i64 a2]) (by simp [results, Try.results115, go_sem]) rfl ⟨rfl, by (repeat' (first | exact Below.refl _ _ | (refine Below.setCell ?_ (by first | omega | (simp; omega) | (simp; done)) _) | (refine Below.alloc ?_ (by first | omega | (simp; omega) | (simp; done)) _) | (refine Below.drew ?_) | (refine below_drewN ?_ _) | (refine Below.trans ?_ (Below.mono (by assumption) (by first | omega | (simp; omega) | (simp; done))))))⟩
set_option maxHeartbeats 1000000 in
theorem eqCord_same (a0 : Int) (a1 : Int) (a2 : Int) (w : World) :
    Calls Try.prog 116 #[.agg #[.int .i64 a0, .int .i64 a1, .int .i64 a2], .agg #[.int .i64 a0, .int .i64 a1, .int .i64 a2]] w fun e w' => e = .returned (.bool true) ∧ Below w.heap.size w w' := by
  go_enter Try.func116, Try.ntmps116
  go_wp2
  go_ret
  exact ⟨rfl, by (repeat' (first | exact Below.refl _ _ | (refine Below.setCell ?_ (by first | omega | (simp; omega) | (simp; done)) _) | (refine Below.alloc ?_ (by first | omega | (simp; omega) | (simp; done)) _) | (refine Below.drew ?_) | (refine below_drewN ?_ _) | (refine Below.trans ?_ (Below.mono (by assumption) (by first | omega | (simp; omega) | (simp; done))))))⟩
theorem szCordS_any (v : Value) (l : List RCord) (m : Int) (w : World) (h : RdL cCord 3 w v l) (hm : 0 ≤ m ∧ m ≤ 1048576) :
    Calls Try.prog 85 #[v, .int .i64 m] w (SzPost m l.length w) := by
  obtain ⟨A, c, rfl, h1, h2⟩ := h.form
  by_cases hlt : m < l.length
  · go_enter Try.func85, Try.ntmps85
    go_wp2_with fail
    go_ret
    exact ⟨-1, rfl, rfl, by omega, by omega⟩
  · go_enter Try.func85, Try.ntmps85
    go_wp2_with fail
    go_ret
    exact ⟨_, rfl, rfl, by omega, by omega⟩
set_option maxHeartbeats 1000000 in
set_option maxRecDepth 100000 in
theorem eqCordS_any (v v' : Value) (l : List RCord) (w : World) (h : RdL cCord 3 w v l) (hq : RdL cCord 3 w v' l) :
    Calls Try.prog 88 #[v, v'] w fun e w' => e = .returned (.bool true) ∧ Below w.heap.size w w' := by
  obtain ⟨A, c, rfl, h1, h2⟩ := h.form
  obtain ⟨A', c', rfl, h1', h2'⟩ := hq.form
  go_enter Try.func88, Try.ntmps88
  go_wp2_with fail
  go_loopw [5] (fun i wr => ∃ k : Nat, k ≤ l.length ∧ i = .int .i64 k ∧ Below w.heap.size w wr) (fun i _ => l.length - (intOf i).toNat)
  case atStart => exact ⟨0, Nat.zero_le _, rfl, by (repeat' (first | exact Below.refl _ _ | (refine Below.setCell ?_ (by first | omega | (simp; omega) | (simp; done)) _) | (refine Below.alloc ?_ (by first | omega | (simp; omega) | (simp; done)) _) | (refine Below.drew ?_) | (refine below_drewN ?_ _) | (refine Below.trans ?_ (Below.mono (by assumption) (by first | omega | (simp; omega) | (simp; done))))))⟩
  case round =>
    obtain ⟨k, hk, rfl, hb⟩ := hrel
    have hz := hb.size
    by_cases hlt : k < l.length
    · have hr1 := h.below hb
      have hr2 := hq.below hb
      obtain ⟨g, off, rfl, hg, hc⟩ := hr1.cell cCord_len (by omega) hlt
      have k0 := hc 0 _ rfl
      have k1 := hc 1 _ rfl
      have k2 := hc 2 _ rfl
      obtain ⟨g', off', rfl, hg', hc'⟩ := hr2.cell cCord_len (by omega) hlt
      have k3 := hc' 0 _ rfl
      have k4 := hc' 1 _ rfl
      have k5 := hc' 2 _ rfl
      simp only [Nat.add_zero] at k0 k1 k2 k3 k4 k5
      clear hc hc'
      go_wp2_with fail
      go_still_tail 8, (by kernel_rfl)
      change wpList _ _ _ _ _ wr.drew
      go_wp2_with (go_at_call 116; refine (eqCord_same _ _ _ _).mono ?_; rintro e w' ⟨rfl, hb'⟩)
      go_roundw
      case rel => exact ⟨k + 1, by omega, by go_num, by (repeat' (first | exact Below.refl _ _ | (refine Below.setCell ?_ (by first | omega | (simp; omega) | (simp; done)) _) | (refine Below.alloc ?_ (by first | omega | (simp; omega) | (simp; done)) _) | (refine Below.drew ?_) | (refine below_drewN ?_ _) | (refine Below.trans ?_ (Below.mono (by assumption) (by first | omega | (simp; omega) | (simp; done))))))⟩
      case measure => simp [intOf]; omega
    · go_wp2_with fail
      go_ret
      exact ⟨rfl, by (repeat' (first | exact Below.refl _ _ | (refine Below.setCell ?_ (by first | omega | (simp; omega) | (simp; done)) _) | (refine Below.alloc ?_ (by first | omega | (simp; omega) | (simp; done)) _) | (refine Below.drew ?_) | (refine below_drewN ?_ _) | (refine Below.trans ?_ (Below.mono (by assumption) (by first | omega | (simp; omega) | (simp; done))))))⟩
set_option maxHeartbeats 1000000 in
set_option maxRecDepth 100000 in
theorem toCordS_any (v : Value) (l : List RCord) (w : World) (h : RdL cCord 3 w v l) (hl : l.length ≤ 1048576) :
    Calls Try.prog 87 #[v] w fun e w' => ∃ v', e = .returned v' ∧ w'.ownsRow w.heap.size 89 3 v' l.length (l.flatMap cCord) ∧ Below w.heap.size w w' := by
  obtain ⟨A, c, rfl, h1, h2⟩ := h.form
  obtain ⟨i0, hi0, hz0, hz1, hz2⟩ := info_parts infoCord
  go_enter Try.func87, Try.ntmps87
  go_wp2_with (at_make; refine wpList_make_full _ rfl _ _ _ rfl w.heap.size 89 i0 _ 3 Try.underlying25 hi0 hz0 hz1 _ _ _ _ l.length rfl rfl rfl rfl (by rw [hz2]; omega) (by simp [maxLen]; omega) (Nat.le_refl _) ?_; intro w1 hown hgr)
  have hb1 : Below w.heap.size w w1 := (Below.refl _ _).grown hgr (Nat.le_refl _) (by simp)
  go_loopw [4] (fun i wr => ∃ (k : Nat) (xs : List Value), k ≤ l.length ∧ i = .int .i64 k ∧ wr.ownsRow w.heap.size 89 3 (.slice (some ⟨w.heap.size, 0, none⟩) l.length l.length) l.length xs ∧ Hid (xs.take (k * 3) = (l.take k).flatMap cCord) ∧ Below w.heap.size w wr) (fun i _ => l.length - (intOf i).toNat)
  case atStart => exact ⟨0, _, Nat.zero_le _, rfl, hown, by simp [Hid], hb1⟩
  case round =>
    obtain ⟨k, xs, hk, rfl, hown, ht, hb⟩ := hrel
    have hz := hb.size
    by_cases hlt : k < l.length
    · have hr1 := h.below hb
      obtain ⟨g, off, rfl, hg, hc⟩ := hr1.cell cCord_len (by omega) hlt
      have k0 := hc 0 _ rfl
      have k1 := hc 1 _ rfl
      have k2 := hc 2 _ rfl
      simp only [Nat.add_zero] at k0 k1 k2
      clear hc
      have hxl := hown.1
      obtain ⟨u0, c0⟩ : ∃ u, wr.cell? ⟨w.heap.size, k * 3, none⟩ = some u := ⟨_, (hown.cellAt (k * 3) (by omega)).trans (List.getElem?_eq_getElem (by omega))⟩
      have f0 := hown.frozenAt (k * 3)
      obtain ⟨u1, c1⟩ : ∃ u, wr.cell? ⟨w.heap.size, k * 3 + 1, none⟩ = some u := ⟨_, (hown.cellAt (k * 3 + 1) (by omega)).trans (List.getElem?_eq_getElem (by omega))⟩
      have f1 := hown.frozenAt (k * 3 + 1)
      obtain ⟨u2, c2⟩ : ∃ u, wr.cell? ⟨w.heap.size, k * 3 + 2, none⟩ = some u := ⟨_, (hown.cellAt (k * 3 + 2) (by omega)).trans (List.getElem?_eq_getElem (by omega))⟩
      have f2 := hown.frozenAt (k * 3 + 2)
      clear hxl
      go_wp2_with fail
      refine (toCord_any _ _ _ _).mono ?_
      rintro e w' ⟨rfl, hb'⟩
      have d0 := carry hb' c0
      have g0 := carryF hb' c0 f0
      have d1 := carry hb' c1
      have g1 := carryF hb' c1 f1
      have d2 := carry hb' c2
      have g2 := carryF hb' c2 f2
      clear k0 k1 k2 c0 c1 c2 f0 f1 f2
      go_wp2_with fail
      have ho1 := (((((own_below hown hb').stored (k * 3) (.int .i64 l[k].1)).1).stored (k * 3 + 1) (.int .i64 l[k].2.1)).1).stored (k * 3 + 2) (.int .i64 l[k].2.2)
      go_roundw
      case rel =>
        refine ⟨k + 1, _, by omega, by go_num, ho1.1, ?_, by (repeat' (first | exact Below.refl _ _ | (refine Below.setCell ?_ (by first | omega | (simp; omega) | (simp; done)) _) | (refine Below.alloc ?_ (by first | omega | (simp; omega) | (simp; done)) _) | (refine Below.drew ?_) | (refine below_drewN ?_ _) | (refine Below.trans ?_ (Below.mono (by assumption) (by first | omega | (simp; omega) | (simp; done))))))⟩
        show _ = _
        rw [flat_snoc cCord l hlt]
        exact size_set3 _ _ _ ht.out (by rw [hown.1]; omega)
      case measure => simp [intOf]; omega
    · go_wp2_with fail
      go_ret
      refine ⟨_, rfl, ?_, by (repeat' (first | exact Below.refl _ _ | (refine Below.setCell ?_ (by first | omega | (simp; omega) | (simp; done)) _) | (refine Below.alloc ?_ (by first | omega | (simp; omega) | (simp; done)) _) | (refine Below.drew ?_) | (refine below_drewN ?_ _) | (refine Below.trans ?_ (Below.mono (by assumption) (by first | omega | (simp; omega) | (simp; done))))))⟩
      have e := ht.out
      rw [List.take_of_length_le (by rw [hown.1]; omega), List.take_of_length_le (by omega)] at e
      rw [← e]; exact hown
set_option maxHeartbeats 1000000 in
set_option maxRecDepth 100000 in
theorem markCordS_any (v : Value) (n : Nat) (xs0 : List Value) (m : Int) (B : Nat) (w : World) (h : w.ownsRow B 89 3 v n xs0) (hm : 0 ≤ m ∧ m ≤ 1152921504606846976) (hn : n ≤ 16777216) :
    Calls Try.prog 89 #[v, .int .i64 m] w fun e w' => e = .returned (.int .i64 (m + n * 3)) ∧ w'.ownsRow B 89 3 v n (markC mkCord 3 n m) ∧ w.grownBy w' v.ownBlock := by
  obtain ⟨A, c, rfl, h1, h2⟩ := (RdS.of_own h).form
  simp only [maxLen] at h2
  go_enter Try.func89, Try.ntmps89
  go_wp2_with fail
  go_loopw [1, 5] (fun q i wr => ∃ (k : Nat) (xs : List Value), k ≤ n ∧ i = .int .i64 k ∧ q = .int .i64 (m + k * 3) ∧ wr.ownsRow B 89 3 (.slice A n c) n xs ∧ Hid (xs.take (k * 3) = markC mkCord 3 k m) ∧ Hid (w.grownBy wr (Value.slice A n c).ownBlock)) (fun _ i _ => n - (intOf i).toNat)
  case atStart => exact ⟨0, _, Nat.zero_le _, rfl, by simp, h, by simp [Hid, markC], World.grownBy.refl _ _⟩
  case round =>
    obtain ⟨k, xs, hk, rfl, rfl, hown, ht, hgr⟩ := hrel
    by_cases hlt : k < n
    · obtain ⟨g, cap, hv⟩ := own_form hown (by omega)
      injection hv with hv1 hv2 hv3
      subst hv1 hv3
      have hxl := hown.1
      obtain ⟨u0, c0⟩ : ∃ u, wr.cell? ⟨g, k * 3, none⟩ = some u := ⟨_, (hown.cellAt (k * 3) (by omega)).trans (List.getElem?_eq_getElem (by omega))⟩
      have f0 := hown.frozenAt (k * 3)
      obtain ⟨u1, c1⟩ : ∃ u, wr.cell? ⟨g, k * 3 + 1, none⟩ = some u := ⟨_, (hown.cellAt (k * 3 + 1) (by omega)).trans (List.getElem?_eq_getElem (by omega))⟩
      have f1 := hown.frozenAt (k * 3 + 1)
      obtain ⟨u2, c2⟩ : ∃ u, wr.cell? ⟨g, k * 3 + 2, none⟩ = some u := ⟨_, (hown.cellAt (k * 3 + 2) (by omega)).trans (List.getElem?_eq_getElem (by omega))⟩
      have f2 := hown.frozenAt (k * 3 + 2)
      have Hxl := Lib.hid hxl
      clear hxl
      go_wp2_with fail
      have ho1 := (((((hown).stored (k * 3) (.int .i64 (m + k * 3))).1).stored (k * 3 + 1) (.int .i64 ((m + k * 3) + 1))).1).stored (k * 3 + 2) (.int .i64 ((m + k * 3) + 1 + 1))
      go_roundw
      case rel =>
        refine ⟨k + 1, _, by omega, by go_num, int_eq (by omega), ho1.1, ?_, ?_⟩
        · show _ = _
          rw [markC_succ]
          refine (size_set3 _ _ _ ht.out (by rw [Hxl.out]; omega)).trans ?_
          simp [mkCord, Int.add_assoc]
        · exact (by repeat (first | exact hgr.out | refine grown_setCell ?_ rfl _))
      case measure => simp [intOf]; omega
    · go_wp2_with fail
      go_ret
      have hkn : k = n := by omega
      subst hkn
      refine ⟨rfl, ?_, hgr.out⟩
      have e := ht.out
      rw [List.take_of_length_le (by rw [hown.1]; omega)] at e
      rw [← e]; exact hown
set_option maxHeartbeats 1000000 in
set_option maxRecDepth 100000 in
theorem heldCordS_any (v : Value) (n : Nat) (m : Int) (w : World) (h : RdS w 3 v n (markC mkCord 3 n m)) (hm : 0 ≤ m ∧ m ≤ 1152921504606846976) (hn : n ≤ 16777216) :
    Calls Try.prog 90 #[v, .int .i64 m] w fun e w' => e = .returned (.int .i64 (m + n * 3)) ∧ w = w' := by
  obtain ⟨A, c, rfl, h1, h2⟩ := h.form
  simp only [maxLen] at h2
  go_enter Try.func90, Try.ntmps90
  go_wp2_with fail
  go_loop [1, 5] (fun q i => ∃ k : Nat, k ≤ n ∧ i = .int .i64 k ∧ q = .int .i64 (m + k * 3)) (fun _ i => n - (intOf i).toNat)
  case atStart => exact ⟨0, Nat.zero_le _, rfl, by simp⟩
  case round =>
    obtain ⟨k, hk, rfl, rfl⟩ := hrel
    by_cases hlt : k < n
    · obtain ⟨g, off, rfl, hg, hc⟩ := h.at_ (by omega) (by omega)
      have k0 := hc (k * 3 + 0) (.int .i64 (m + k * 3)) (markC_get mkCord_len k n m hlt 0 (by omega) _ rfl)
      rw [Nat.add_zero] at k0
      have k1 := hc (k * 3 + 1) (.int .i64 ((m + k * 3) + 1)) (markC_get mkCord_len k n m hlt 1 (by omega) _ rfl)
      rw [← Nat.add_assoc] at k1
      have k2 := hc (k * 3 + 2) (.int .i64 ((m + k * 3) + 2)) (markC_get mkCord_len k n m hlt 2 (by omega) _ rfl)
      rw [← Nat.add_assoc] at k2
      clear hc
      go_wp2_with fail
      go_round
      case rel => exact ⟨k + 1, by omega, by go_num, int_eq (by omega)⟩
      case measure => simp [intOf]; omega
    · go_wp2_with fail
      go_ret
      have hkn : k = n := by omega
      subst hkn
      exact ⟨rfl, rfl⟩
end Go.Proofs.Ythponccjbbkhaaa
