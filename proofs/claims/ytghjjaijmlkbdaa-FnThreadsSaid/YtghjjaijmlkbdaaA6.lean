/- Contracts: WeakestThread. -/
import Derived.Test.YtghjjaijmlkbdaaA5
namespace Go.Proofs.Ytghjjaijmlkbdaa
open Go.RowKit

def thrAt (l : List (Int × Int)) (k : Nat) : Int × Int := l.getD k (0, 0)
def leftAt (l : List (Int × Int)) (k : Nat) : Int := (thrAt l k).1 - (thrAt l k).2
def wkTo (l : List (Int × Int)) : Nat → Nat
  | 0 => 0
  | k + 1 => if leftAt l k < leftAt l (wkTo l k) then k else wkTo l k
theorem wkTo_lt (l : List (Int × Int)) (k : Nat) (h : 0 < l.length) (hk : k ≤ l.length) : wkTo l k < l.length := by
  induction k with
  | zero => exact h
  | succ k ih =>
    unfold wkTo
    split
    · omega
    · exact ih (by omega)
theorem wkTo_t {l : List (Int × Int)} {k : Nat} (h : leftAt l k < leftAt l (wkTo l k)) : wkTo l (k + 1) = k := by rw [wkTo, if_pos h]
theorem wkTo_f {l : List (Int × Int)} {k : Nat} (h : ¬ leftAt l k < leftAt l (wkTo l k)) : wkTo l (k + 1) = wkTo l k := by rw [wkTo, if_neg h]
def weakF (l : List (Int × Int)) : Int := if thrsB l = true ∧ 0 < l.length then wkTo l l.length else -1
theorem leftAt_of {l : List (Int × Int)} {k : Nat} (hk : k < l.length) : leftAt l k = l[k].1 - l[k].2 := by simp [leftAt, thrAt, hk]

set_option maxHeartbeats 2000000 in
set_option maxRecDepth 100000 in
theorem implWeakestThread_any (v : Value) (l : List (Int × Int)) (w : World) (h : RdL cThread 2 w v l) :
    Calls Try.prog 29 #[v] w fun e w' => e = .returned (.int .i64 (weakF l)) ∧ Below w.heap.size w w' := by
  obtain ⟨A, c, rfl, h1, h2⟩ := h.form
  by_cases hl : 0 < l.length
  · have hl' : ((l.length : Int) == 0) = false := by rw [beq_eq_false_iff_ne]; omega
    go_enter Try.func29, Try.ntmps29
    go_wp2_with (go_at_call 60; refine twoB (areThreads_any _ _ _ h) (fun w' ht hb => ?_) (fun w' ht hb => ?_))
    · have hz := hb.size
      go_loopw [3, 16] (fun b i wr => ∃ k : Nat, k ≤ l.length ∧ i = .int .i64 k ∧ b = .int .i64 (wkTo l k) ∧ Below w.heap.size w wr) (fun _ i _ => l.length - (intOf i).toNat)
      case atStart => exact ⟨0, Nat.zero_le _, rfl, rfl, by (repeat' (first | exact Below.refl _ _ | (refine Below.setCell ?_ (by first | omega | (simp; omega) | (simp; done)) _) | (refine Below.alloc ?_ (by first | omega | (simp; omega) | (simp; done)) _) | (refine Below.drew ?_) | (refine below_drewN ?_ _) | (refine Below.trans ?_ (Below.mono (by assumption) (by first | omega | (simp; omega) | (simp; done))))))⟩
      case round =>
        obtain ⟨k, hk, rfl, rfl, hb2⟩ := hrel
        have hz2 := hb2.size
        have hbl := wkTo_lt l k hl hk
        generalize hg : wkTo l k = b at *
        have Hg := Lib.hid hg
        clear hg
        by_cases hlt : k < l.length
        · have hr1 := h.below hb2
          obtain ⟨g, off, rfl, hg, hc⟩ := hr1.cell cThread_len (by omega) hlt
          have k0 := hc 0 _ rfl
          have k1 := hc 1 _ rfl
          obtain ⟨g', off', hAA, hg', hc'⟩ := hr1.cell cThread_len (by omega) hbl
          injection hAA with hAA
          injection hAA with e1 e2
          subst e1 e2
          have k2 := hc' 0 _ rfl
          have k3 := hc' 1 _ rfl
          simp only [Nat.add_zero] at k0 k1 k2 k3
          clear hc hc'
          have bd1 := thr_bd ht.out hlt
          have bd2 := thr_bd ht.out hbl
          go_wp2_with fail
          go_quiet (fail)
          have el := leftAt_of hlt
          have eb := leftAt_of hbl
          by_cases hd : l[k].1 - l[k].2 < l[b].1 - l[b].2
          · go_wp2_with fail
            go_roundw
            case rel => exact ⟨k + 1, by omega, by go_num, by rw [wkTo_t (by rw [Hg.out, el, eb]; exact hd)], by (repeat' (first | exact Below.refl _ _ | (refine Below.setCell ?_ (by first | omega | (simp; omega) | (simp; done)) _) | (refine Below.alloc ?_ (by first | omega | (simp; omega) | (simp; done)) _) | (refine Below.drew ?_) | (refine below_drewN ?_ _) | (refine Below.trans ?_ (Below.mono (by assumption) (by first | omega | (simp; omega) | (simp; done))))))⟩
            case measure => simp [intOf]; omega
          · go_wp2_with fail
            go_roundw
            case rel => exact ⟨k + 1, by omega, by go_num, by rw [wkTo_f (by rw [Hg.out, el, eb]; exact hd), Hg.out], by (repeat' (first | exact Below.refl _ _ | (refine Below.setCell ?_ (by first | omega | (simp; omega) | (simp; done)) _) | (refine Below.alloc ?_ (by first | omega | (simp; omega) | (simp; done)) _) | (refine Below.drew ?_) | (refine below_drewN ?_ _) | (refine Below.trans ?_ (Below.mono (by assumption) (by first | omega | (simp; omega) | (simp; done))))))⟩
            case measure => simp [intOf]; omega
        · go_wp2_with fail
          go_ret
          refine ⟨ret_int ?_, by (repeat' (first | exact Below.refl _ _ | (refine Below.setCell ?_ (by first | omega | (simp; omega) | (simp; done)) _) | (refine Below.alloc ?_ (by first | omega | (simp; omega) | (simp; done)) _) | (refine Below.drew ?_) | (refine below_drewN ?_ _) | (refine Below.trans ?_ (Below.mono (by assumption) (by first | omega | (simp; omega) | (simp; done))))))⟩
          rw [weakF, if_pos ⟨ht.out, hl⟩, ← Hg.out, show k = l.length by omega]
    · go_ret
      exact ⟨ret_int (by rw [weakF, if_neg (by rw [ht.out]; simp)]), by (repeat' (first | exact Below.refl _ _ | (refine Below.setCell ?_ (by first | omega | (simp; omega) | (simp; done)) _) | (refine Below.alloc ?_ (by first | omega | (simp; omega) | (simp; done)) _) | (refine Below.drew ?_) | (refine below_drewN ?_ _) | (refine Below.trans ?_ (Below.mono (by assumption) (by first | omega | (simp; omega) | (simp; done))))))⟩
  · have hl' : ((l.length : Int) == 0) = true := by rw [beq_iff_eq]; omega
    go_enter Try.func29, Try.ntmps29
    go_wp2_with (go_at_call 60; refine twoB (areThreads_any _ _ _ h) (fun w' ht hb => ?_) (fun w' ht hb => ?_))
    all_goals
      go_ret
      exact ⟨ret_int (by rw [weakF, if_neg (fun h => hl h.2)]), by (repeat' (first | exact Below.refl _ _ | (refine Below.setCell ?_ (by first | omega | (simp; omega) | (simp; done)) _) | (refine Below.alloc ?_ (by first | omega | (simp; omega) | (simp; done)) _) | (refine Below.drew ?_) | (refine below_drewN ?_ _) | (refine Below.trans ?_ (Below.mono (by assumption) (by first | omega | (simp; omega) | (simp; done))))))⟩

set_option maxHeartbeats 2000000 in
set_option maxRecDepth 100000 in
theorem specWeakestThread_any (v : Value) (l : List (Int × Int)) (w : World) (h : RdL cThread 2 w v l) :
    Calls Try.prog 27 #[v] w fun e w' => e = .returned (.int .i64 (weakF l)) ∧ Below w.heap.size w w' := by
  obtain ⟨A, c, rfl, h1, h2⟩ := h.form
  by_cases hl : 0 < l.length
  · have hl' : ((l.length : Int) == 0) = false := by rw [beq_eq_false_iff_ne]; omega
    go_enter Try.func27, Try.ntmps27
    go_wp2_with (go_at_call 59; refine twoB (l34Ok_any _ _ _ h) (fun w' ht hb => ?_) (fun w' ht hb => ?_))
    · have hz := hb.size
      go_loopw [3, 4] (fun b i wr => ∃ k : Nat, k ≤ l.length ∧ i = .int .i64 k ∧ b = .int .i64 (wkTo l k) ∧ Below w.heap.size w wr) (fun _ i _ => l.length - (intOf i).toNat)
      case atStart => exact ⟨0, Nat.zero_le _, rfl, rfl, by (repeat' (first | exact Below.refl _ _ | (refine Below.setCell ?_ (by first | omega | (simp; omega) | (simp; done)) _) | (refine Below.alloc ?_ (by first | omega | (simp; omega) | (simp; done)) _) | (refine Below.drew ?_) | (refine below_drewN ?_ _) | (refine Below.trans ?_ (Below.mono (by assumption) (by first | omega | (simp; omega) | (simp; done))))))⟩
      case round =>
        obtain ⟨k, hk, rfl, rfl, hb2⟩ := hrel
        have hz2 := hb2.size
        have hbl := wkTo_lt l k hl hk
        generalize hg : wkTo l k = b at *
        have Hg := Lib.hid hg
        clear hg
        by_cases hlt : k < l.length
        · have hr1 := h.below hb2
          obtain ⟨g, off, rfl, hg, hc⟩ := hr1.cell cThread_len (by omega) hlt
          have k0 := hc 0 _ rfl
          have k1 := hc 1 _ rfl
          obtain ⟨g', off', hAA, hg', hc'⟩ := hr1.cell cThread_len (by omega) hbl
          injection hAA with hAA
          injection hAA with e1 e2
          subst e1 e2
          have k2 := hc' 0 _ rfl
          have k3 := hc' 1 _ rfl
          simp only [Nat.add_zero] at k0 k1 k2 k3
          clear hc hc'
          have bd1 := thr_bd ht.out hlt
          have bd2 := thr_bd ht.out hbl
          go_wp2_with fail
          go_quiet (fail)
          have el := leftAt_of hlt
          have eb := leftAt_of hbl
          by_cases hd : l[k].1 - l[k].2 < l[b].1 - l[b].2
          · go_wp2_with fail
            go_roundw
            case rel => exact ⟨k + 1, by omega, by go_num, by rw [wkTo_t (by rw [Hg.out, el, eb]; exact hd)], by (repeat' (first | exact Below.refl _ _ | (refine Below.setCell ?_ (by first | omega | (simp; omega) | (simp; done)) _) | (refine Below.alloc ?_ (by first | omega | (simp; omega) | (simp; done)) _) | (refine Below.drew ?_) | (refine below_drewN ?_ _) | (refine Below.trans ?_ (Below.mono (by assumption) (by first | omega | (simp; omega) | (simp; done))))))⟩
            case measure => simp [intOf]; omega
          · go_wp2_with fail
            go_roundw
            case rel => exact ⟨k + 1, by omega, by go_num, by rw [wkTo_f (by rw [Hg.out, el, eb]; exact hd), Hg.out], by (repeat' (first | exact Below.refl _ _ | (refine Below.setCell ?_ (by first | omega | (simp; omega) | (simp; done)) _) | (refine Below.alloc ?_ (by first | omega | (simp; omega) | (simp; done)) _) | (refine Below.drew ?_) | (refine below_drewN ?_ _) | (refine Below.trans ?_ (Below.mono (by assumption) (by first | omega | (simp; omega) | (simp; done))))))⟩
            case measure => simp [intOf]; omega
        · go_wp2_with fail
          go_ret
          refine ⟨ret_int ?_, by (repeat' (first | exact Below.refl _ _ | (refine Below.setCell ?_ (by first | omega | (simp; omega) | (simp; done)) _) | (refine Below.alloc ?_ (by first | omega | (simp; omega) | (simp; done)) _) | (refine Below.drew ?_) | (refine below_drewN ?_ _) | (refine Below.trans ?_ (Below.mono (by assumption) (by first | omega | (simp; omega) | (simp; done))))))⟩
          rw [weakF, if_pos ⟨ht.out, hl⟩, ← Hg.out, show k = l.length by omega]
    · go_ret
      exact ⟨ret_int (by rw [weakF, if_neg (by rw [ht.out]; simp)]), by (repeat' (first | exact Below.refl _ _ | (refine Below.setCell ?_ (by first | omega | (simp; omega) | (simp; done)) _) | (refine Below.alloc ?_ (by first | omega | (simp; omega) | (simp; done)) _) | (refine Below.drew ?_) | (refine below_drewN ?_ _) | (refine Below.trans ?_ (Below.mono (by assumption) (by first | omega | (simp; omega) | (simp; done))))))⟩
  · have hl' : ((l.length : Int) == 0) = true := by rw [beq_iff_eq]; omega
    go_enter Try.func27, Try.ntmps27
    go_wp2_with (go_at_call 59; refine twoB (l34Ok_any _ _ _ h) (fun w' ht hb => ?_) (fun w' ht hb => ?_))
    all_goals
      go_ret
      exact ⟨ret_int (by rw [weakF, if_neg (fun h => hl h.2)]), by (repeat' (first | exact Below.refl _ _ | (refine Below.setCell ?_ (by first | omega | (simp; omega) | (simp; done)) _) | (refine Below.alloc ?_ (by first | omega | (simp; omega) | (simp; done)) _) | (refine Below.drew ?_) | (refine below_drewN ?_ _) | (refine Below.trans ?_ (Below.mono (by assumption) (by first | omega | (simp; omega) | (simp; done))))))⟩
end Go.Proofs.Ytghjjaijmlkbdaa
