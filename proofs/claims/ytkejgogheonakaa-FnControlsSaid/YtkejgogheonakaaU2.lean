/- Contracts: has and sameInts of the laws; ControlOk, PullsOf, JointsHeld at controls as they are drawn. -/
import Derived.Test.YtkejgogheonakaaU1
import Derived.Test.YtkejgogheonakaaI9
import Derived.Test.YtkejgogheonakaaB3
import Derived.Deep.QuietTactic
import Derived.Deep.DeepCutAuto
import Derived.StillTailTactics
import Derived.IntWalk
namespace Go.Proofs.Ytkejgogheonakaa
open Go.RowKit
def eqB (n x : Int) : Bool := decide (x = n)
def hasB (l : List Int) (n : Int) : Bool := l.any (eqB n)
theorem hasB_iff {l : List Int} {n : Int} : hasB l n = true ↔ n ∈ l := by
  unfold hasB
  rw [List.any_eq_true]
  constructor
  · rintro ⟨x, hx, e⟩; have := of_decide_eq_true e; subst this; exact hx
  · intro h; exact ⟨n, h, decide_eq_true rfl⟩
set_option maxHeartbeats 1000000 in
theorem has_any (v : Value) (l : List Int) (n : Int) (w : World) (h : RdL cInt 1 w v l) :
    Calls Try.prog 28 #[v, .int .i64 n] w fun e w' => e = .returned (.bool (hasB l n)) ∧ w = w' := by
  obtain ⟨A, c, rfl, h1, h2⟩ := h.form
  go_enter Try.func28, Try.ntmps28
  go_wp2_with fail
  go_loop [5] (fun i => ∃ k : Nat, k ≤ l.length ∧ i = .int .i64 k ∧ Hid ((l.take k).any (eqB n) = false)) (fun i => l.length - (intOf i).toNat)
  case atStart => exact ⟨0, Nat.zero_le _, rfl, by rfl⟩
  case round =>
    obtain ⟨k, hk, rfl, hall⟩ := hrel
    by_cases hlt : k < l.length
    · obtain ⟨g, off, rfl, hg, hc⟩ := h.cell cInt_len (by omega) hlt
      have k0 := hc 0 _ rfl
      simp only [Nat.add_zero, Nat.mul_one] at k0
      clear hc
      by_cases he : l[k] = n
      · have he' : (l[k] == n) = true := by rw [beq_iff_eq]; exact he
        have He := Lib.hid he
        clear he
        go_wp2_with fail
        go_ret
        exact ⟨ret_bool (any_true_at hlt (decide_eq_true He.out)).symm, rfl⟩
      · have he' : (l[k] == n) = false := by rw [beq_eq_false_iff_ne]; exact he
        have He := Lib.hid he
        clear he
        go_wp2_with fail
        go_round
        case rel => exact ⟨k + 1, by omega, by go_num, any_take_succ hlt hall.out (decide_eq_false He.out)⟩
        case measure => simp [intOf]; omega
    · go_wp2_with fail
      go_ret
      exact ⟨ret_bool (any_take_end hlt hall.out).symm, rfl⟩
set_option maxHeartbeats 2000000 in
set_option maxRecDepth 100000 in
theorem sameInts_any (v v' : Value) (a b : List Int) (w : World) (h : RdL cInt 1 w v a) (hq : RdL cInt 1 w v' b) :
    Calls Try.prog 30 #[v, v'] w fun e w' => e = .returned (.bool (decide (a = b))) ∧ Below w.heap.size w w' := by
  obtain ⟨A, c, rfl, h1, h2⟩ := h.form
  obtain ⟨A', c', rfl, h1', h2'⟩ := hq.form
  by_cases hl : a.length = b.length
  · go_enter Try.func30, Try.ntmps30
    go_wp2_with fail
    go_loopw [5] (fun i wr => ∃ k : Nat, k ≤ a.length ∧ i = .int .i64 k ∧ Hid (∀ j, j < k → a.getD j 0 = b.getD j 0) ∧ Below w.heap.size w wr) (fun i _ => a.length - (intOf i).toNat)
    case atStart => exact ⟨0, Nat.zero_le _, rfl, fun j hj => absurd hj (by omega), by (repeat' (first | exact Below.refl _ _ | (refine Below.setCell ?_ (by first | omega | (simp; omega) | (simp; done)) _) | (refine Below.alloc ?_ (by first | omega | (simp; omega) | (simp; done)) _) | (refine Below.drew ?_) | (refine below_drewN ?_ _) | (refine Below.trans ?_ (Below.mono (by assumption) (by first | omega | (simp; omega) | (simp; done))))))⟩
    case round =>
      obtain ⟨k, hk, rfl, hall, hb⟩ := hrel
      have hz := hb.size
      by_cases hlt : k < a.length
      · have hltb : k < b.length := by omega
        obtain ⟨g, off, rfl, hg, hc⟩ := (h.below hb).cell cInt_len (by omega) hlt
        have k0 := hc 0 _ rfl
        obtain ⟨g', off', rfl, hg', hc'⟩ := (hq.below hb).cell cInt_len (by omega) hltb
        have k2 := hc' 0 _ rfl
        simp only [Nat.add_zero, Nat.mul_one] at k0 k2
        clear hc hc'
        by_cases he : a[k] = b[k]
        · have he' : (a[k] != b[k]) = false := by rw [bne_eq_false_iff_eq]; exact he
          have He := Lib.hid he
          clear he
          go_wp2_with fail
          go_quiet (fail)
          go_wp2_with fail
          go_roundw
          case rel => exact ⟨k + 1, by omega, by go_num, (fun j hj => by
            rcases Nat.lt_succ_iff_lt_or_eq.1 hj with h | rfl
            · exact hall.out j h
            · rw [getD_at hlt, getD_at hltb]; exact He.out), by (repeat' (first | exact Below.refl _ _ | (refine Below.setCell ?_ (by first | omega | (simp; omega) | (simp; done)) _) | (refine Below.alloc ?_ (by first | omega | (simp; omega) | (simp; done)) _) | (refine Below.drew ?_) | (refine below_drewN ?_ _) | (refine Below.trans ?_ (Below.mono (by assumption) (by first | omega | (simp; omega) | (simp; done))))))⟩
          case measure => simp [intOf]; omega
        · have he' : (a[k] != b[k]) = true := by rw [bne_iff_ne]; exact he
          have He := Lib.hid he
          clear he
          go_wp2_with fail
          go_quiet (fail)
          go_wp2_with fail
          go_ret
          exact ⟨ret_bool (decide_eq_false (fun e => He.out (by subst e; rfl))).symm, by (repeat' (first | exact Below.refl _ _ | (refine Below.setCell ?_ (by first | omega | (simp; omega) | (simp; done)) _) | (refine Below.alloc ?_ (by first | omega | (simp; omega) | (simp; done)) _) | (refine Below.drew ?_) | (refine below_drewN ?_ _) | (refine Below.trans ?_ (Below.mono (by assumption) (by first | omega | (simp; omega) | (simp; done))))))⟩
      · go_wp2_with fail
        go_ret
        exact ⟨ret_bool (decide_eq_true (ext_getD hl (fun j hj => hall.out j (by omega)))).symm, by (repeat' (first | exact Below.refl _ _ | (refine Below.setCell ?_ (by first | omega | (simp; omega) | (simp; done)) _) | (refine Below.alloc ?_ (by first | omega | (simp; omega) | (simp; done)) _) | (refine Below.drew ?_) | (refine below_drewN ?_ _) | (refine Below.trans ?_ (Below.mono (by assumption) (by first | omega | (simp; omega) | (simp; done))))))⟩
  · go_enter Try.func30, Try.ntmps30
    go_wp2_with fail
    go_ret
    exact ⟨ret_bool (decide_eq_false (fun e => hl (by rw [e]))).symm, by (repeat' (first | exact Below.refl _ _ | (refine Below.setCell ?_ (by first | omega | (simp; omega) | (simp; done)) _) | (refine Below.alloc ?_ (by first | omega | (simp; omega) | (simp; done)) _) | (refine Below.drew ?_) | (refine below_drewN ?_ _) | (refine Below.trans ?_ (Below.mono (by assumption) (by first | omega | (simp; omega) | (simp; done))))))⟩
theorem cords_ne {n : Nat} {ht : Int} {d1 : List Int} {d2 : List RCord} (h : CtlOk n ht d1 d2) {i k : Nat} (hik : i < k) (hk : k < d2.length) : (d2[i]'(by omega)).2.1 ≠ d2[k].2.1 := List.pairwise_iff_getElem.1 h.once i k (by omega) hk hik
set_option maxHeartbeats 4000000 in
set_option maxRecDepth 100000 in
theorem implControlOk_t (n : Nat) (ht : Int) (v1 v2 : Value) (d1 : List Int) (d2 : List RCord) (w : World) (h : RdControl w v1 v2 d1 d2) (hk : CtlOk n ht d1 d2) (hn : n ≤ 1000) :
    Calls Try.prog 27 #[.agg #[.int .i64 ht, v1, v2], .int .i64 n] w fun e w' => e = .returned (.bool true) ∧ Below w.heap.size w w' := by
  obtain ⟨A1, n1, rfl, _, _⟩ := h.1.form
  obtain ⟨A2, n2, rfl, hn2, hn2'⟩ := h.2.form
  have q1 := hk.ht
  have q2 := hk.arms
  have q3 := hk.len
  have Hk := Lib.hid hk
  have hall : allB (-50) 50 d1 = true := allB_of (fun x hx => by have := hk.arm x hx; omega)
  clear hk
  go_enter Try.func27, Try.ntmps27
  go_wp2_with (first | (go_at_call 73; refine (within_t (inB_iff.2 ⟨by omega, by omega⟩)).mono ?_; rintro e w' ⟨rfl, rfl⟩) | (go_at_call 78; refine (allWithin_t (h.1.below (by (repeat' (first | (with_reducible exact Below.refl _ _) | (with_reducible assumption) | (with_reducible refine Below.setCell ?_ (by first | omega | (simp; omega) | (simp; done)) _) | (with_reducible refine Below.alloc ?_ (by first | omega | (simp; omega) | (simp; done)) _) | (with_reducible refine Below.drew ?_) | (with_reducible refine below_drewN ?_ _))))) hall).mono ?_; rintro e w' ⟨rfl, rfl⟩))
  have hbW : Below w.heap.size w (w.alloc (.cells #[.int .i64 ht, .slice A1 d1.length n1, .slice A2 d2.length n2] 34)) := by (repeat' (first | (with_reducible exact Below.refl _ _) | (with_reducible assumption) | (with_reducible refine Below.setCell ?_ (by first | omega | (simp; omega) | (simp; done)) _) | (with_reducible refine Below.alloc ?_ (by first | omega | (simp; omega) | (simp; done)) _) | (with_reducible refine Below.drew ?_) | (with_reducible refine below_drewN ?_ _)))
  have Lb : Loc (w.alloc (.cells #[.int .i64 ht, .slice A1 d1.length n1, .slice A2 d2.length n2] 34)) w.heap.size [.int .i64 ht, .slice A1 d1.length n1, .slice A2 d2.length n2] := Loc.new w #[.int .i64 ht, .slice A1 d1.length n1, .slice A2 d2.length n2] 34
  have hzW : w.heap.size < (w.alloc (.cells #[.int .i64 ht, .slice A1 d1.length n1, .slice A2 d2.length n2] 34)).heap.size := by simp
  generalize w.alloc (.cells #[.int .i64 ht, .slice A1 d1.length n1, .slice A2 d2.length n2] 34) = W at *
  have hW := h.2.below hbW
  have b1w := (Lb 1 _ rfl).1
  have b2w := (Lb 2 _ rfl).1
  clear hall Lb h
  go_loopw [35] (fun i wr => ∃ k : Nat, k ≤ d2.length ∧ i = .int .i64 k ∧ Below W.heap.size W wr) (fun i _ => d2.length - (intOf i).toNat)
  case atStart => exact ⟨0, Nat.zero_le _, rfl, Below.refl _ _⟩
  case round =>
    obtain ⟨k, hk, rfl, hb⟩ := hrel
    have hz := hb.size
    have b1 := carry hb b1w
    have b2 := carry hb b2w
    have hn1 : ¬ w.heap.size = wr.heap.size := by omega
    have hn2 : ¬ wr.heap.size = w.heap.size := by omega
    by_cases hlt : k < d2.length
    · obtain ⟨g, off, rfl, hg, hc⟩ := (hW.below hb).cell cCord_len (by omega) hlt
      have k0 := hc 0 _ rfl
      have k1 := hc 1 _ rfl
      have k2 := hc 2 _ rfl
      simp only [Nat.add_zero] at k0 k1 k2
      clear hc
      have hc := Hk.out.cord _ (List.getElem_mem hlt)
      have hne := Lib.hid (fun i (hi : i < k) => cords_ne Hk.out hi hlt)
      generalize d2[k].1 = ta at *
      generalize d2[k].2.1 = tj at *
      generalize d2[k].2.2 = tl at *
      obtain ⟨wo, rfl⟩ : ∃ wo : World, wo = wr := ⟨_, rfl⟩
      go_upto_region 6 with (fail)
      have hbV : Below wo.heap.size wo (wo.alloc (.cells #[.int .i64 ta, .int .i64 tj, .int .i64 tl] 106)) := by (repeat' (first | (with_reducible exact Below.refl _ _) | (with_reducible assumption) | (with_reducible refine Below.setCell ?_ (by first | omega | (simp; omega) | (simp; done)) _) | (with_reducible refine Below.alloc ?_ (by first | omega | (simp; omega) | (simp; done)) _) | (with_reducible refine Below.drew ?_) | (with_reducible refine below_drewN ?_ _)))
      have Lo : Loc (wo.alloc (.cells #[.int .i64 ta, .int .i64 tj, .int .i64 tl] 106)) wo.heap.size [.int .i64 ta, .int .i64 tj, .int .i64 tl] := Loc.new wo #[.int .i64 ta, .int .i64 tj, .int .i64 tl] 106
      have hzV : wo.heap.size < (wo.alloc (.cells #[.int .i64 ta, .int .i64 tj, .int .i64 tl] 106)).heap.size := by simp
      generalize wo.alloc (.cells #[.int .i64 ta, .int .i64 tj, .int .i64 tl] 106) = V at *
      have o0 := (Lo 0 _ rfl).1
      have o1w := (Lo 1 _ rfl).1
      have o2 := (Lo 2 _ rfl).1
      have hWV : Below W.heap.size W V := hb.trans (hbV.mono hz)
      replace b1 := carry hbV b1
      replace b2 := carry hbV b2
      clear k0 k1 k2 Lo
      go_wp2_with (go_at_call 73; refine (within_t (inB_iff.2 ⟨by omega, by omega⟩)).mono ?_; rintro e w' ⟨rfl, rfl⟩)
      clear b1 b2 o0 o2
      go_loopw [70] (fun i wi => ∃ j : Nat, j ≤ k ∧ i = .int .i64 j ∧ Below V.heap.size V wi) (fun i _ => k - (intOf i).toNat)
      case atStart => exact ⟨0, Nat.zero_le _, rfl, Below.refl _ _⟩
      case round =>
        obtain ⟨j, hj, rfl, hbi⟩ := hrel
        have hzi := hbi.size
        have o1 := carry hbi o1w
        have hn3 : ¬ wo.heap.size = wr.heap.size := by omega
        have hn4 : ¬ wr.heap.size = wo.heap.size := by omega
        by_cases hltj : j < k
        · obtain ⟨g', off', e9, hg', hc'⟩ := ((hW.below hWV).below hbi).cell (k := j) cCord_len (by omega) (by omega)
          injection e9 with e9
          injection e9 with e91 e92
          subst e91 e92
          have k0 := hc' 0 _ rfl
          have k1 := hc' 1 _ rfl
          have k2 := hc' 2 _ rfl
          simp only [Nat.add_zero] at k0 k1 k2
          clear hc'
          have hn := hne.out j hltj
          generalize (d2[j]'(by omega)).1 = sa at *
          generalize (d2[j]'(by omega)).2.1 = sj at *
          generalize (d2[j]'(by omega)).2.2 = sl at *
          have o1a := cell_alloc (.cells #[.int .i64 sa, .int .i64 sj, .int .i64 sl] 106) o1
          have hn' : (tj == sj) = false := by rw [beq_eq_false_iff_ne]; exact fun e => hn e.symm
          go_wp2_with fail
          go_roundw
          case rel => exact ⟨j + 1, by omega, by go_num, by (repeat' (first | exact Below.refl _ _ | (refine Below.setCell ?_ (by first | omega | (simp; omega) | (simp; done)) _) | (refine Below.alloc ?_ (by first | omega | (simp; omega) | (simp; done)) _) | (refine Below.drew ?_) | (refine below_drewN ?_ _) | (refine Below.trans ?_ (Below.mono (by assumption) (by first | omega | (simp; omega) | (simp; done))))))⟩
          case measure => simp [intOf]; omega
        · obtain rfl : j = k := by omega
          go_wp2_with fail
          go_roundw
          case rel => exact ⟨j + 1, by omega, by go_num, hWV.trans (hbi.mono hWV.size)⟩
          case measure => simp [intOf]; omega
    · go_wp2_with fail
      go_ret
      exact ⟨rfl, bl_trans hbW hb⟩
set_option maxHeartbeats 4000000 in
set_option maxRecDepth 100000 in
theorem implPullsOf_t (n : Nat) (ht : Int) (v1 v2 : Value) (d1 : List Int) (d2 : List RCord) (w : World) (h : RdControl w v1 v2 d1 d2) (hk : CtlOk n ht d1 d2) (hn : 1 ≤ n ∧ n ≤ 12) :
    Calls Try.prog 23 #[.agg #[.int .i64 ht, v1, v2], .int .i64 n] w fun e w' => ∃ v', e = .returned v' ∧ w'.ownsRow w.heap.size 3 1 v' n ((pullsL ht d1 d2 n).flatMap cInt) ∧ Below w.heap.size w w' := by
  obtain ⟨⟨A1, n1, rfl⟩, ⟨A2, n2, rfl⟩⟩ := h.forms
  obtain ⟨i0, hi0, hz0, hz1, hz2⟩ := info_parts infoInt
  have q1 := hk.ht
  have q2 := hk.arms
  have q3 := hk.len
  have Hk := Lib.hid hk
  clear hk
  go_enter Try.func23, Try.ntmps23
  go_wp2_with fail
  refine (implControlOk_t n ht _ _ d1 d2 _ ⟨h.1.below (by (repeat' (first | (with_reducible exact Below.refl _ _) | (with_reducible assumption) | (with_reducible refine Below.setCell ?_ (by first | omega | (simp; omega) | (simp; done)) _) | (with_reducible refine Below.alloc ?_ (by first | omega | (simp; omega) | (simp; done)) _) | (with_reducible refine Below.drew ?_) | (with_reducible refine below_drewN ?_ _)))), h.2.below (by (repeat' (first | (with_reducible exact Below.refl _ _) | (with_reducible assumption) | (with_reducible refine Below.setCell ?_ (by first | omega | (simp; omega) | (simp; done)) _) | (with_reducible refine Below.alloc ?_ (by first | omega | (simp; omega) | (simp; done)) _) | (with_reducible refine Below.drew ?_) | (with_reducible refine below_drewN ?_ _))))⟩ Hk.out (by omega)).mono ?_
  rintro e W ⟨rfl, hbq⟩
  have Lb : Loc W w.heap.size [.int .i64 ht, .slice A1 d1.length n1, .slice A2 d2.length n2] := (Loc.new w #[.int .i64 ht, .slice A1 d1.length n1, .slice A2 d2.length n2] 34).below hbq
  have hbW : Below w.heap.size w W := bl_alloc hbq
  have hzW : w.heap.size < W.heap.size := by have := hbq.size; simp at this; omega
  clear hbq
  have h1 := h.1.below hbW
  have h2 := h.2.below hbW
  have b0w := (Lb 0 _ rfl).1
  have b1w := (Lb 1 _ rfl).1
  have b2w := (Lb 2 _ rfl).1
  clear Lb h
  have hn1 : ¬ w.heap.size = W.heap.size := by omega
  have hn2 : ¬ W.heap.size = w.heap.size := by omega
  go_wp2_with (first | (go_at_call 73; refine (within_t (inB_iff.2 ⟨by omega, by omega⟩)).mono ?_; rintro e w' ⟨rfl, rfl⟩) | (at_make; refine wpList_make_full _ rfl _ _ _ rfl W.heap.size 3 i0 _ 1 Try.underlying26 hi0 hz0 hz1 _ _ _ _ n rfl rfl rfl rfl (by rw [hz2]; omega) (by simp [maxLen]; omega) (Nat.le_refl _) ?_; intro w2 hown hgr))
  have hb2 : Below W.heap.size W w2 := Below.grown (Below.refl _ _) hgr (by omega) (by simp)
  rw [Nat.mul_one, row_made, ← fillL_zero] at hown
  have hg0 := hown.lt W.heap.size rfl
  go_loopw [22] (fun i wr => ∃ m : Nat, m ≤ n ∧ i = .int .i64 m ∧ wr.ownsRow W.heap.size 3 1 (.slice (some ⟨W.heap.size, 0, none⟩) n n) n ((fillL n m).flatMap cInt) ∧ Below W.heap.size W wr) (fun i _ => n - (intOf i).toNat)
  case atStart => exact ⟨0, Nat.zero_le _, rfl, hown, hb2⟩
  case round =>
    obtain ⟨m, hm, rfl, hown, hbr⟩ := hrel
    have hzr := hbr.size
    have b0 := carry hbr b0w
    have b1 := carry hbr b1w
    have b2 := carry hbr b2w
    have hlf := fillL_len hm
    by_cases hlt : m < n
    · have hst := row_stored hown m (-1)
      rw [fillL_set hlt] at hst
      have k3 := row_cell hown (k := m) (by omega)
      have f3 := hown.frozenAt m
      go_wp2_with fail
      go_roundw
      case rel => exact ⟨m + 1, by omega, by go_num, hst, by (repeat' (first | exact Below.refl _ _ | (refine Below.setCell ?_ (by first | omega | (simp; omega) | (simp; done)) _) | (refine Below.alloc ?_ (by first | omega | (simp; omega) | (simp; done)) _) | (refine Below.drew ?_) | (refine below_drewN ?_ _) | (refine Below.trans ?_ (Below.mono (by assumption) (by first | omega | (simp; omega) | (simp; done))))))⟩
      case measure => simp [intOf]; omega
    · obtain rfl : m = n := by omega
      rw [fillL_end, ← pullsL_nil ht d1 m] at hown
      have hown0 : wr.ownsRow W.heap.size 3 1 (.slice (some ⟨W.heap.size, 0, none⟩) m m) m ((pullsL ht d1 (d2.take 0) m).flatMap cInt) := hown
      clear hown
      go_wp2_with fail
      clear hgr hb2 hg0 hlf b0 b1 b2
      go_loopw [32] (fun i wi => ∃ j : Nat, j ≤ d2.length ∧ i = .int .i64 j ∧ wi.ownsRow W.heap.size 3 1 (.slice (some ⟨W.heap.size, 0, none⟩) m m) m ((pullsL ht d1 (d2.take j) m).flatMap cInt) ∧ Below W.heap.size W wi) (fun i _ => d2.length - (intOf i).toNat)
      case atStart => exact ⟨0, Nat.zero_le _, rfl, hown0, hbr⟩
      case round =>
        obtain ⟨j, hj, rfl, hown, hbi⟩ := hrel
        have hzi := hbi.size
        have b0 := carry hbi b0w
        have b1 := carry hbi b1w
        have b2 := carry hbi b2w
        by_cases hltj : j < d2.length
        · obtain ⟨g, off, rfl, hg, hc'⟩ := (h2.below hbi).cell cCord_len (by omega) hltj
          have c0 := hc' 0 _ rfl
          have c1 := hc' 1 _ rfl
          have c2 := hc' 2 _ rfl
          simp only [Nat.add_zero] at c0 c1 c2
          clear hc'
          have hco := Hk.out.cord _ (List.getElem_mem hltj)
          obtain ⟨a, ea⟩ : ∃ a : Nat, d2[j].1 = (a : Int) := ⟨d2[j].1.toNat, by omega⟩
          obtain ⟨b, eb⟩ : ∃ b : Nat, d2[j].2.1 = (b : Int) := ⟨d2[j].2.1.toNat, by omega⟩
          have Hnx := Lib.hid (pullsL_snoc (ht := ht) (d1 := d1) (n := m) hltj eb)
          have ham : a < d1.length := by omega
          have hpv : pullV ht d1 d2[j] = if ht + d1[a] - d2[j].2.2 < 0 then 0 else ht + d1[a] - d2[j].2.2 := by unfold pullV; rw [ea, show ((a : Int)).toNat = a from rfl, getD_at ham]
          have Hpv := Lib.hid hpv
          rw [ea] at c0 hco
          rw [eb] at c1 hco
          clear ea eb hpv
          obtain ⟨g1, off1, rfl, hg1, hc1⟩ := (h1.below hbi).cell cInt_len (by omega) ham
          have d0 := hc1 0 _ rfl
          simp only [Nat.add_zero, Nat.mul_one] at d0
          clear hc1
          have hda := Hk.out.arm _ (List.getElem_mem ham)
          generalize d1[a] = x at *
          generalize d2[j].2.2 = len at *
          have hbm : b < m := by omega
          have hdl := row_len hown
          have kb := row_cell hown (k := b) (by omega)
          have fb := hown.frozenAt b
          have hgi := (hown.lt W.heap.size rfl).2
          have hn3 : ¬ wr.heap.size = W.heap.size := by omega
          have hn4 : ¬ W.heap.size = wr.heap.size := by omega
          have hn5 : ¬ wr.heap.size = w.heap.size := by omega
          go_upto_region 12 with (fail)
          have hbV : Below wr.heap.size wr (wr.alloc (.cells #[.int .i64 (a : Int), .int .i64 (b : Int), .int .i64 len] 106)) := by (repeat' (first | (with_reducible exact Below.refl _ _) | (with_reducible assumption) | (with_reducible refine Below.setCell ?_ (by first | omega | (simp; omega) | (simp; done)) _) | (with_reducible refine Below.alloc ?_ (by first | omega | (simp; omega) | (simp; done)) _) | (with_reducible refine Below.drew ?_) | (with_reducible refine below_drewN ?_ _)))
          have Ll : Loc (wr.alloc (.cells #[.int .i64 (a : Int), .int .i64 (b : Int), .int .i64 len] 106)) wr.heap.size [.int .i64 (a : Int), .int .i64 (b : Int), .int .i64 len] := Loc.new wr #[.int .i64 (a : Int), .int .i64 (b : Int), .int .i64 len] 106
          have hdr := Lib.hid (own_below hown hbV)
          have sb := fun x => row_stored (w := (wr.alloc (.cells #[.int .i64 (a : Int), .int .i64 (b : Int), .int .i64 len] 106)).drew) (own_below hown (by (repeat' (first | (with_reducible exact Below.refl _ _) | (with_reducible assumption) | (with_reducible refine Below.setCell ?_ (by first | omega | (simp; omega) | (simp; done)) _) | (with_reducible refine Below.alloc ?_ (by first | omega | (simp; omega) | (simp; done)) _) | (with_reducible refine Below.drew ?_) | (with_reducible refine below_drewN ?_ _))))) b x
          have Sb := Lib.hid sb
          clear sb
          replace kb := carry hbV kb
          replace fb := hdr.out.frozenAt b
          replace b0 := carry hbV b0
          replace b1 := carry hbV b1
          replace b2 := carry hbV b2
          replace d0 := carry hbV d0
          have hbV2 : Below W.heap.size W (wr.alloc (.cells #[.int .i64 (a : Int), .int .i64 (b : Int), .int .i64 len] 106)) := hbi.trans (hbV.mono hzi)
          have hzV := hbV2.size
          clear hown c0 c1 c2 hbV hgi
          generalize (wr.alloc (.cells #[.int .i64 (a : Int), .int .i64 (b : Int), .int .i64 len] 106)) = V at *
          have l0 := (Ll 0 _ rfl).1
          have l1 := (Ll 1 _ rfl).1
          have l2 := (Ll 2 _ rfl).1
          have hw1 := IntWalk.i64_in (ht + x) (by omega)
          have hw2 := IntWalk.i64_in (ht + x - len) (by omega)
          go_still_tail 17, (by kernel_rfl)
          clear hw1 hw2
          change wpList _ _ _ _ _ (World.drew V)
          go_wp2_with fail
          go_roundw
          case rel => exact ⟨j + 1, by omega, by go_num, by rw [← Hnx.out, Hpv.out]; exact Sb.out _, by (repeat' (first | exact Below.refl _ _ | (refine Below.setCell ?_ (by first | omega | (simp; omega) | (simp; done)) _) | (refine Below.alloc ?_ (by first | omega | (simp; omega) | (simp; done)) _) | (refine Below.drew ?_) | (refine below_drewN ?_ _) | (refine Below.trans ?_ (Below.mono (by assumption) (by first | omega | (simp; omega) | (simp; done))))))⟩
          case measure => simp [intOf]; omega
        · obtain rfl : j = d2.length := by omega
          rw [List.take_length] at hown
          go_wp2_with fail
          go_ret
          exact ⟨_, rfl, own_mono hown (by omega), bl_trans hbW hbi⟩
set_option maxHeartbeats 4000000 in
set_option maxRecDepth 100000 in
theorem implJointsHeld_any (ht : Int) (v1 v2 : Value) (d1 : List Int) (d2 : List RCord) (w : World) (h : RdControl w v1 v2 d1 d2) :
    Calls Try.prog 26 #[.agg #[.int .i64 ht, v1, v2]] w fun e w' => ∃ v', e = .returned v' ∧ w'.ownsRow w.heap.size 3 1 v' (heldL d2 12).length ((heldL d2 12).flatMap cInt) ∧ Below w.heap.size w w' := by
  obtain ⟨A1, n1, rfl, _, _⟩ := h.1.form
  obtain ⟨A2, n2, rfl, hn2, hn2'⟩ := h.2.form
  obtain ⟨i0, hi0, hz0, hz1, hz2⟩ := info_parts infoInt
  go_enter Try.func26, Try.ntmps26
  go_upto_region 1 with (fail)
  have hbW : Below w.heap.size w (w.alloc (.cells #[.int .i64 ht, .slice A1 d1.length n1, .slice A2 d2.length n2] 34)) := by (repeat' (first | (with_reducible exact Below.refl _ _) | (with_reducible assumption) | (with_reducible refine Below.setCell ?_ (by first | omega | (simp; omega) | (simp; done)) _) | (with_reducible refine Below.alloc ?_ (by first | omega | (simp; omega) | (simp; done)) _) | (with_reducible refine Below.drew ?_) | (with_reducible refine below_drewN ?_ _)))
  have Lb : Loc (w.alloc (.cells #[.int .i64 ht, .slice A1 d1.length n1, .slice A2 d2.length n2] 34)) w.heap.size [.int .i64 ht, .slice A1 d1.length n1, .slice A2 d2.length n2] := Loc.new w #[.int .i64 ht, .slice A1 d1.length n1, .slice A2 d2.length n2] 34
  have hzW : w.heap.size < (w.alloc (.cells #[.int .i64 ht, .slice A1 d1.length n1, .slice A2 d2.length n2] 34)).heap.size := by simp
  generalize w.alloc (.cells #[.int .i64 ht, .slice A1 d1.length n1, .slice A2 d2.length n2] 34) = W at *
  have h2 := h.2.below hbW
  have b2w := (Lb 2 _ rfl).1
  clear Lb h
  have hown0 := World.ownsRow_made (size := 1) (e := 3) W #[] 0 (Nat.le_refl _) (by simp [maxLen]) rfl
  go_wp2_with fail
  go_loopw [3, 8] (fun q i wr => ∃ m : Nat, m ≤ 12 ∧ i = .int .i64 m ∧ wr.ownsRow W.heap.size 3 1 q (heldL d2 m).length ((heldL d2 m).flatMap cInt) ∧ Below W.heap.size W wr) (fun _ i _ => 12 - (intOf i).toNat)
  case atStart => exact ⟨0, by omega, rfl, hown0, by (repeat' (first | exact Below.refl _ _ | (refine Below.setCell ?_ (by first | omega | (simp; omega) | (simp; done)) _) | (refine Below.alloc ?_ (by first | omega | (simp; omega) | (simp; done)) _) | (refine Below.drew ?_) | (refine below_drewN ?_ _) | (refine Below.trans ?_ (Below.mono (by assumption) (by first | omega | (simp; omega) | (simp; done))))))⟩
  case round =>
    obtain ⟨m, hm, rfl, hown, hbr⟩ := hrel
    have hzr := hbr.size
    have b2 := carry hbr b2w
    by_cases hlt : m < 12
    · have hll := heldL_le d2 m
      obtain ⟨q0, rfl⟩ : ∃ q0 : Value, q0 = u3 := ⟨_, rfl⟩
      have Hown := Lib.hid hown
      clear hown
      obtain ⟨wo, rfl⟩ : ∃ wo : World, wo = wr := ⟨_, rfl⟩
      go_wp2_with fail
      go_loopw [3, 14] (fun q i wr => ∃ j : Nat, j ≤ d2.length ∧ i = .int .i64 j ∧ q = q0 ∧ Hid ((d2.take j).any (fun t => decide (t.2.1 = (m : Int))) = false) ∧ Below wo.heap.size wo wr) (fun _ i _ => d2.length - (intOf i).toNat)
      case atStart => exact ⟨0, Nat.zero_le _, rfl, rfl, by rfl, Below.refl _ _⟩
      case round =>
        obtain ⟨j, hj, rfl, rfl, hany, hbi⟩ := hrel
        have hzi := hbi.size
        have hwo : w.heap.size < wr.heap.size := by omega
        replace b2 := carry hbi b2
        have hn1 : ¬ w.heap.size = wr.heap.size := by omega
        have hn2 : ¬ wr.heap.size = w.heap.size := by omega
        by_cases hltj : j < d2.length
        · obtain ⟨g, off, rfl, hg, hc'⟩ := ((h2.below hbr).below hbi).cell cCord_len (by omega) hltj
          have c0 := hc' 0 _ rfl
          have c1 := hc' 1 _ rfl
          have c2 := hc' 2 _ rfl
          simp only [Nat.add_zero] at c0 c1 c2
          clear hc'
          have Hs := Lib.hid (fun h => any_take_succ (p := fun t : RCord => decide (t.2.1 = (m : Int))) hltj hany.out h)
          have Ht := Lib.hid (fun h => any_true_at (p := fun t : RCord => decide (t.2.1 = (m : Int))) hltj h)
          generalize d2[j].1 = x1 at *
          generalize d2[j].2.1 = x2 at *
          generalize d2[j].2.2 = x3 at *
          by_cases he : x2 = (m : Int)
          · have he' : (x2 == (m : Int)) = true := by rw [beq_iff_eq]; exact he
            have He := Lib.hid he
            clear he
            have Hst := Lib.hid (heldL_t (d2 := d2) (m := m) (Ht.out (decide_eq_true He.out)))
            have hbv : Below wr.heap.size wr (wr.alloc (.cells #[.int .i64 x1, .int .i64 x2, .int .i64 x3] 106)) := by (repeat' (first | (with_reducible exact Below.refl _ _) | (with_reducible assumption) | (with_reducible refine Below.setCell ?_ (by first | omega | (simp; omega) | (simp; done)) _) | (with_reducible refine Below.alloc ?_ (by first | omega | (simp; omega) | (simp; done)) _) | (with_reducible refine Below.drew ?_) | (with_reducible refine below_drewN ?_ _)))
            have hownV := own_below Hown.out (hbi.trans (hbv.mono hzi))
            go_upto_region 9 with (fail)
            have b2v := carry hbv b2
            generalize wr.alloc (.cells #[.int .i64 x1, .int .i64 x2, .int .i64 x3] 106) = V at *
            have hbV2 : Below wo.heap.size wo V := hbi.trans (hbv.mono hzi)
            have hzV := hbV2.size
            go_wp2_with (at_builtin; refine wpList_appendR _ rfl (.tmp 22) (.tmp 24) _ rfl W.heap.size 3 i0 _ 1 8 Try.underlying26 hi0 hz0 hz1 hz2 rfl (by omega) _ (heldL d2 m).length ((heldL d2 m).flatMap cInt) rfl (hownV.alloc _) _ 1 [.int .i64 m] rfl (rdS_new V #[.int .i64 m] _ 1 1 rfl (by simp [maxLen])) (by simp [Value.oneCell']) (by simp [maxLen]; omega) (by omega) (by simp; omega) ?_; intro v9 w9 hown9 hgr9)
            have hb9 : Below W.heap.size (V.alloc (Obj.cells #[.int .i64 m] 3)) w9 := below_own (hownV.alloc _) hgr9 (by simp; omega)
            have hbW9 : Below W.heap.size W w9 := ((hbr.trans (hbV2.mono hzr)).alloc (by omega) _).trans hb9
            clear hgr9 hb9
            go_wp2_with fail
            go_roundw
            case rel => exact ⟨m + 1, by omega, by go_num, by rw [Hst.out, List.length_append, List.flatMap_append]; exact hown9, hbW9⟩
            case measure => simp [intOf]; omega
          · have he' : (x2 == (m : Int)) = false := by rw [beq_eq_false_iff_ne]; exact he
            have He := Lib.hid he
            clear he
            go_wp2_with fail
            go_roundw
            case rel => exact ⟨j + 1, by omega, by go_num, rfl, Hs.out (decide_eq_false He.out), by (repeat' (first | exact Below.refl _ _ | (refine Below.setCell ?_ (by first | omega | (simp; omega) | (simp; done)) _) | (refine Below.alloc ?_ (by first | omega | (simp; omega) | (simp; done)) _) | (refine Below.drew ?_) | (refine below_drewN ?_ _) | (refine Below.trans ?_ (Below.mono (by assumption) (by first | omega | (simp; omega) | (simp; done))))))⟩
            case measure => simp [intOf]; omega
        · obtain rfl : j = d2.length := by omega
          have Hst := Lib.hid (heldL_f (d2 := d2) (m := m) (any_take_end hltj hany.out))
          go_wp2_with fail
          go_roundw
          case rel => exact ⟨m + 1, by omega, by go_num, by rw [Hst.out]; exact own_below Hown.out hbi, hbr.trans (hbi.mono hzr)⟩
          case measure => simp [intOf]; omega
    · obtain rfl : m = 12 := by omega
      go_wp2_with fail
      go_ret
      exact ⟨_, rfl, own_mono hown (by omega), bl_trans hbW hbr⟩
end Go.Proofs.Ytkejgogheonakaa
