/- Several texts in one: Contracts of the laws' helpers for records Act. Written by a program (gen_rec.py). Contracts: ActOk, toAct, eqAct. -/
import Derived.StillTailTactics
import Derived.BigQuiet
import Derived.Test.YtolfclbcfddhpaaDoorBdA1x6
namespace Go.Proofs.YtolfclbcfddhpaaDoor
open Go.RowKit
abbrev RAct := Int × Int × Int
def cAct (t : RAct) : List Value := [.int .i64 t.1, .int .i64 t.2.1, .int .i64 t.2.2]
theorem cAct_len (a : RAct) : (cAct a).length = 3 := rfl
theorem infoAct : (Tryd.prog.info? 26).map (fun i => (i.zero, i.size, i.bytes)) = some (some (.agg #[.int .i64 0, .int .i64 0, .int .i64 0]), 3, 24) := by kernel_rfl
theorem toAct_any (a0 : Int) (a1 : Int) (a2 : Int) (w : World) :
  Calls Tryd.prog 8 #[.agg #[.int .i64 a0, .int .i64 a1, .int .i64 a2]] w fun e w' => e = .returned (.agg #[.int .i64 a0, .int .i64 a1, .int .i64 a2]) ∧ Below w.heap.size w w' := by
 go_enter Tryd.func8, Tryd.ntmps8
 go_wp2
 exact bodyPost_ret (v := .agg #[.int .i64 a0, .int .i64 a1, .int .i64 a2]) (by simp [results, Tryd.results8, go_sem]) rfl ⟨rfl, by (repeat' (first | exact Below.refl _ _ | (refine Below.setCell ?_ (by first | omega | (simp <;> omega)) _) | (refine Below.alloc ?_ (by first | omega | (simp <;> omega)) _) | (refine Below.drew ?_) | (refine below_drewN ?_ _) | (refine Below.trans ?_ (Below.mono (by assumption) (by first | omega | (simp <;> omega))))))⟩
set_option maxHeartbeats 1000000 in
theorem eqAct_same (a0 : Int) (a1 : Int) (a2 : Int) (w : World) :
  Calls Tryd.prog 17 #[.agg #[.int .i64 a0, .int .i64 a1, .int .i64 a2], .agg #[.int .i64 a0, .int .i64 a1, .int .i64 a2]] w fun e w' => e = .returned (.bool true) ∧ Below w.heap.size w w' := by
 go_enter Tryd.func17, Tryd.ntmps17
 go_wp2
 go_ret
 exact ⟨rfl, by (repeat' (first | exact Below.refl _ _ | (refine Below.setCell ?_ (by first | omega | (simp <;> omega)) _) | (refine Below.alloc ?_ (by first | omega | (simp <;> omega)) _) | (refine Below.drew ?_) | (refine below_drewN ?_ _) | (refine Below.trans ?_ (Below.mono (by assumption) (by first | omega | (simp <;> omega))))))⟩
theorem szActS_any (v : Value) (l : List RAct) (m : Int) (w : World) (h : RdL cAct 3 w v l) (hm : 0 ≤ m ∧ m ≤ 1048576) :
  Calls Tryd.prog 10 #[v, .int .i64 m] w (SzPost m l.length w) := by
 obtain ⟨A, c, rfl, h1, h2⟩ := h.form
 by_cases hlt : m < l.length
 ·go_enter Tryd.func10, Tryd.ntmps10
  go_wp2_with fail
  go_ret
  exact ⟨-1, rfl, rfl, by omega, by omega⟩
 ·go_enter Tryd.func10, Tryd.ntmps10
  go_wp2_with fail
  go_ret
  exact ⟨_, rfl, rfl, by omega, by omega⟩
set_option maxHeartbeats 1000000 in
set_option maxRecDepth 100000 in
theorem eqActS_any (v v' : Value) (l : List RAct) (w : World) (h : RdL cAct 3 w v l) (hq : RdL cAct 3 w v' l) :
  Calls Tryd.prog 14 #[v, v'] w fun e w' => e = .returned (.bool true) ∧ Below w.heap.size w w' := by
 obtain ⟨A, c, rfl, h1, h2⟩ := h.form
 obtain ⟨A', c', rfl, h1', h2'⟩ := hq.form
 go_enter Tryd.func14, Tryd.ntmps14
 go_wp2_with fail
 go_loopw [5] (fun i wr => ∃ k : Nat, k ≤ l.length ∧ i = .int .i64 k ∧ Below w.heap.size w wr) (fun i _ => l.length - (intOf i).toNat)
 case atStart => exact ⟨0, Nat.zero_le _, rfl, by (repeat' (first | exact Below.refl _ _ | (refine Below.setCell ?_ (by first | omega | (simp <;> omega)) _) | (refine Below.alloc ?_ (by first | omega | (simp <;> omega)) _) | (refine Below.drew ?_) | (refine below_drewN ?_ _) | (refine Below.trans ?_ (Below.mono (by assumption) (by first | omega | (simp <;> omega))))))⟩
 case round =>
  obtain ⟨k, hk, rfl, hb⟩ := hrel
  have hz := hb.size
  by_cases hlt : k < l.length
  ·have hr1 := h.below hb
   have hr2 := hq.below hb
   obtain ⟨g, off, rfl, hg, hc⟩ := hr1.cell cAct_len (by omega) hlt
   have k0 := hc 0 _ rfl
   have k1 := hc 1 _ rfl
   have k2 := hc 2 _ rfl
   obtain ⟨g', off', rfl, hg', hc'⟩ := hr2.cell cAct_len (by omega) hlt
   have k3 := hc' 0 _ rfl
   have k4 := hc' 1 _ rfl
   have k5 := hc' 2 _ rfl
   simp only [Nat.add_zero] at k0 k1 k2 k3 k4 k5
   clear hc hc'
   go_wp2_with fail
   go_still_tail 8, (by kernel_rfl)
   change wpList _ _ _ _ _ wr.drew
   go_wp2_with (go_at_call 17; refine (eqAct_same _ _ _ _).mono ?_; rintro e w' ⟨rfl, hb'⟩)
   go_roundw
   case rel => exact ⟨k + 1, by omega, by go_num, by (repeat' (first | exact Below.refl _ _ | (refine Below.setCell ?_ (by first | omega | (simp <;> omega)) _) | (refine Below.alloc ?_ (by first | omega | (simp <;> omega)) _) | (refine Below.drew ?_) | (refine below_drewN ?_ _) | (refine Below.trans ?_ (Below.mono (by assumption) (by first | omega | (simp <;> omega))))))⟩
   case measure => simp [intOf]; omega
  ·go_wp2_with fail
   go_ret
   exact ⟨rfl, by (repeat' (first | exact Below.refl _ _ | (refine Below.setCell ?_ (by first | omega | (simp <;> omega)) _) | (refine Below.alloc ?_ (by first | omega | (simp <;> omega)) _) | (refine Below.drew ?_) | (refine below_drewN ?_ _) | (refine Below.trans ?_ (Below.mono (by assumption) (by first | omega | (simp <;> omega))))))⟩
set_option maxHeartbeats 1000000 in
set_option maxRecDepth 100000 in
theorem toActS_any (v : Value) (l : List RAct) (w : World) (h : RdL cAct 3 w v l) (hl : l.length ≤ 1048576) :
  Calls Tryd.prog 12 #[v] w fun e w' => ∃ v', e = .returned v' ∧ w'.ownsRow w.heap.size 26 3 v' l.length (l.flatMap cAct) ∧ Below w.heap.size w w' := by
 obtain ⟨A, c, rfl, h1, h2⟩ := h.form
 obtain ⟨i0, hi0, hz0, hz1, hz2⟩ := info_parts infoAct
 go_enter Tryd.func12, Tryd.ntmps12
 go_wp2_with (at_make; refine wpList_make_full _ rfl _ _ _ rfl w.heap.size 26 i0 _ 3 Tryd.underlying32 hi0 hz0 hz1 _ _ _ _ l.length rfl rfl rfl rfl (by rw [hz2]; omega) (by simp [maxLen]; omega) (Nat.le_refl _) ?_; intro w1 hown hgr)
 have hb1 : Below w.heap.size w w1 := (Below.refl _ _).grown hgr (Nat.le_refl _) (by simp)
 go_loopw [4] (fun i wr => ∃ (k : Nat) (xs : List Value), k ≤ l.length ∧ i = .int .i64 k ∧ wr.ownsRow w.heap.size 26 3 (.slice (some ⟨w.heap.size, 0, none⟩) l.length l.length) l.length xs ∧ Hid (xs.take (k * 3) = (l.take k).flatMap cAct) ∧ Below w.heap.size w wr) (fun i _ => l.length - (intOf i).toNat)
 case atStart => exact ⟨0, _, Nat.zero_le _, rfl, hown, by simp [Hid], hb1⟩
 case round =>
  obtain ⟨k, xs, hk, rfl, hown, ht, hb⟩ := hrel
  have hz := hb.size
  by_cases hlt : k < l.length
  ·have hr1 := h.below hb
   obtain ⟨g, off, rfl, hg, hc⟩ := hr1.cell cAct_len (by omega) hlt
   have k0 := hc 0 _ rfl
   have k1 := hc 1 _ rfl
   have k2 := hc 2 _ rfl
   simp only [Nat.add_zero] at k0 k1 k2
   clear hc
   have hxl := hown.1
   obtain ⟨u0, c0⟩ : ∃ u, wr.cell? ⟨w.heap.size, k * 3, none⟩ = some u := ⟨_, (hown.cellAt (k * 3) (by omega)).trans (List.getElem?_eq_getElem (by omega))⟩
   have f0 := hown.frozenAt (k * 3)
   obtain ⟨u1, c1⟩ : ∃ u, wr.cell? ⟨w.heap.size, k * 3 + 1, none⟩ = some u := ⟨_, (hown.cellAt (k * 3 + 1) (by omega)).trans (List.getElem?_eq_getElem (by omega))⟩
   have f1 := hown.frozenAt (k * 3 + 1)
   obtain ⟨u2, c2⟩ : ∃ u, wr.cell? ⟨w.heap.size, k * 3 + 2, none⟩ = some u := ⟨_, (hown.cellAt (k * 3 + 2) (by omega)).trans (List.getElem?_eq_getElem (by omega))⟩
   have f2 := hown.frozenAt (k * 3 + 2)
   clear hxl
   go_wp2_with fail
   refine (toAct_any _ _ _ _).mono ?_
   rintro e w' ⟨rfl, hb'⟩
   have d0 := carry hb' c0
   have g0 := carryF hb' c0 f0
   have d1 := carry hb' c1
   have g1 := carryF hb' c1 f1
   have d2 := carry hb' c2
   have g2 := carryF hb' c2 f2
   clear k0 k1 k2 c0 c1 c2 f0 f1 f2
   go_wp2_with fail
   have ho1 := (((((own_below hown hb').stored (k * 3) (.int .i64 l[k].1)).1).stored (k * 3 + 1) (.int .i64 l[k].2.1)).1).stored (k * 3 + 2) (.int .i64 l[k].2.2)
   go_roundw
   case rel =>
    refine ⟨k + 1, _, by omega, by go_num, ho1.1, ?_, by (repeat' (first | exact Below.refl _ _ | (refine Below.setCell ?_ (by first | omega | (simp <;> omega)) _) | (refine Below.alloc ?_ (by first | omega | (simp <;> omega)) _) | (refine Below.drew ?_) | (refine below_drewN ?_ _) | (refine Below.trans ?_ (Below.mono (by assumption) (by first | omega | (simp <;> omega))))))⟩
    show _ = _
    rw [flat_snoc cAct l hlt]
    exact size_set3 _ _ _ ht.out (by rw [hown.1]; omega)
   case measure => simp [intOf]; omega
  ·go_wp2_with fail
   go_ret
   refine ⟨_, rfl, ?_, by (repeat' (first | exact Below.refl _ _ | (refine Below.setCell ?_ (by first | omega | (simp <;> omega)) _) | (refine Below.alloc ?_ (by first | omega | (simp <;> omega)) _) | (refine Below.drew ?_) | (refine below_drewN ?_ _) | (refine Below.trans ?_ (Below.mono (by assumption) (by first | omega | (simp <;> omega))))))⟩
   have e := ht.out
   rw [List.take_of_length_le (by rw [hown.1]; omega), List.take_of_length_le (by omega)] at e
   rw [← e]; exact hown
open Go.RowKit
def actB (k a b : Int) : Bool :=
 if k = 1 then inB a 0 2 && b == 0
 else if k = 2 then inB a 0 5 && inB b 0 6
 else if k = 3 then inB a 0 5 && b == 0
 else if k = 4 then inB a 0 5 && b == 0
 else if k = 6 then inB a 0 365 && b == 0
 else if k = 5 then a == 0 && b == 0
 else if k = 7 then a == 0 && b == 0 else false
set_option maxHeartbeats 4000000 in
theorem implActOk_any (k a b : Int) (w : World) :
  Calls Tryd.prog 22 #[.agg #[.int .i64 k, .int .i64 a, .int .i64 b]] w fun e w' => e = .returned (.bool (actB k a b)) ∧ Below w.heap.size w w' := by
 have H : ∀ r, r = actB k a b → Ending.returned (.bool r) = .returned (.bool (actB k a b)) := fun r h => by rw [h]
 have H' := Lib.hid H
 clear H
 by_cases hk : k = 1 ∨ k = 2 ∨ k = 3 ∨ k = 4 ∨ k = 5 ∨ k = 6 ∨ k = 7
 ·rcases hk with rfl | rfl | rfl | rfl | rfl | rfl | rfl
  all_goals
   by_cases ha : a = 0 <;> by_cases hb : b = 0
   all_goals
    first | have ha1 : (a == 0) = true := by simp [ha] | have ha1 : (a == 0) = false := by simp [ha]
    first | have hb1 : (b == 0) = true := by simp [hb] | have hb1 : (b == 0) = false := by simp [hb]
    clear ha hb
    go_enter Tryd.func22, Tryd.ntmps22
    go_wp2_with (go_at_call 28; refine two (within_any _ _ _ _) (fun hc => ?_) (fun hc => ?_))
    all_goals
     go_ret
     refine ⟨H'.out _ ?_, by (repeat' (first | exact Below.refl _ _ | (refine Below.setCell ?_ (by first | omega | (simp <;> omega)) _) | (refine Below.alloc ?_ (by first | omega | (simp <;> omega)) _) | (refine Below.drew ?_) | (refine below_drewN ?_ _) | (refine Below.trans ?_ (Below.mono (by assumption) (by first | omega | (simp <;> omega))))))⟩
     simp_all [Hid, actB]
 ·have h1 : (k == 1) = false := by simp; omega
  have h2 : (k == 2) = false := by simp; omega
  have h3 : (k == 3) = false := by simp; omega
  have h4 : (k == 4) = false := by simp; omega
  have h5 : (k == 5) = false := by simp; omega
  have h6 : (k == 6) = false := by simp; omega
  have h7 : (k == 7) = false := by simp; omega
  have hz : actB k a b = false := by
   unfold actB
   rw [if_neg (by omega), if_neg (by omega), if_neg (by omega), if_neg (by omega), if_neg (by omega), if_neg (by omega), if_neg (by omega)]
  have hz' := Lib.hid hz
  clear hz hk
  go_enter Tryd.func22, Tryd.ntmps22
  go_wp2_with fail
  go_ret
  exact ⟨H'.out _ hz'.out.symm, by (repeat' (first | exact Below.refl _ _ | (refine Below.setCell ?_ (by first | omega | (simp <;> omega)) _) | (refine Below.alloc ?_ (by first | omega | (simp <;> omega)) _) | (refine Below.drew ?_) | (refine below_drewN ?_ _) | (refine Below.trans ?_ (Below.mono (by assumption) (by first | omega | (simp <;> omega))))))⟩
set_option maxHeartbeats 4000000 in
theorem specActOk_any (k a b : Int) (w : World) :
  Calls Tryd.prog 20 #[.agg #[.int .i64 k, .int .i64 a, .int .i64 b]] w fun e w' => e = .returned (.bool (actB k a b)) ∧ Below w.heap.size w w' := by
 have H : ∀ r, r = actB k a b → Ending.returned (.bool r) = .returned (.bool (actB k a b)) := fun r h => by rw [h]
 have H' := Lib.hid H
 clear H
 by_cases hk : k = 1 ∨ k = 2 ∨ k = 3 ∨ k = 4 ∨ k = 5 ∨ k = 6 ∨ k = 7
 ·rcases hk with rfl | rfl | rfl | rfl | rfl | rfl | rfl
  all_goals
   by_cases ha : a = 0 <;> by_cases hb : b = 0
   all_goals
    first | have ha1 : (a == 0) = true := by simp [ha] | have ha1 : (a == 0) = false := by simp [ha]
    first | have hb1 : (b == 0) = true := by simp [hb] | have hb1 : (b == 0) = false := by simp [hb]
    clear ha hb
    go_enter Tryd.func20, Tryd.ntmps20
    go_wp2_with (go_at_call 25; refine two (l01In_any _ _ _ _) (fun hc => ?_) (fun hc => ?_))
    all_goals
     go_ret
     refine ⟨H'.out _ ?_, by (repeat' (first | exact Below.refl _ _ | (refine Below.setCell ?_ (by first | omega | (simp <;> omega)) _) | (refine Below.alloc ?_ (by first | omega | (simp <;> omega)) _) | (refine Below.drew ?_) | (refine below_drewN ?_ _) | (refine Below.trans ?_ (Below.mono (by assumption) (by first | omega | (simp <;> omega))))))⟩
     simp_all [Hid, actB]
 ·have h1 : (k == 1) = false := by simp; omega
  have h2 : (k == 2) = false := by simp; omega
  have h3 : (k == 3) = false := by simp; omega
  have h4 : (k == 4) = false := by simp; omega
  have h5 : (k == 5) = false := by simp; omega
  have h6 : (k == 6) = false := by simp; omega
  have h7 : (k == 7) = false := by simp; omega
  have hz : actB k a b = false := by
   unfold actB
   rw [if_neg (by omega), if_neg (by omega), if_neg (by omega), if_neg (by omega), if_neg (by omega), if_neg (by omega), if_neg (by omega)]
  have hz' := Lib.hid hz
  clear hz hk
  go_enter Tryd.func20, Tryd.ntmps20
  go_wp2_with fail
  go_ret
  exact ⟨H'.out _ hz'.out.symm, by (repeat' (first | exact Below.refl _ _ | (refine Below.setCell ?_ (by first | omega | (simp <;> omega)) _) | (refine Below.alloc ?_ (by first | omega | (simp <;> omega)) _) | (refine Below.drew ?_) | (refine below_drewN ?_ _) | (refine Below.trans ?_ (Below.mono (by assumption) (by first | omega | (simp <;> omega))))))⟩
end Go.Proofs.YtolfclbcfddhpaaDoor
