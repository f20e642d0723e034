/- FnThreads: the law returns true for every input. No condition. -/
import Derived.Test.YtghjjaijmlkbdaaW2
import Derived.Test.YtghjjaijmlkbdaaW3
import Derived.Test.YtghjjaijmlkbdaaA6
import Derived.Test.YtghjjaijmlkbdaaA7
import Derived.Test.YtghjjaijmlkbdaaA3
import Derived.Test.YtghjjaijmlkbdaaO2
import Derived.OpenShut
namespace Go.Proofs.Ytghjjaijmlkbdaa
open Go.ChangeShapes Go.WideShapes Go.ChangeAt Go.RowKit

set_option maxHeartbeats 2000000 in
set_option maxRecDepth 100000 in
theorem implPullsLeft_any (s u m : Int) (w : World) (hs : 1 ≤ s ∧ s ≤ 10000 ∧ 0 ≤ u ∧ u ≤ s) (hm : 1 ≤ m ∧ m ≤ 10000) :
    Calls Try.prog 34 #[.agg #[.int .i64 s, .int .i64 u], .int .i64 m] w fun e w' => e = .returned (.int .i64 ((s - u) / m)) ∧ Below w.heap.size w w' := by
  have e1 : (s - u).tdiv m = (s - u) / m := Int.tdiv_eq_ediv_of_nonneg (by omega)
  have d0 : 0 ≤ (s - u) / m := Int.ediv_nonneg (by omega) (by omega)
  have d1 : (s - u) / m ≤ s - u := Int.ediv_le_self _ (by omega)
  have hT : thrB s u = true := thrB_iff.2 ⟨⟨by omega, by omega⟩, by omega, by omega⟩
  have hI : inB m 1 10000 = true := inB_iff.2 ⟨by omega, by omega⟩
  have c1 := fun W => implThreadOk_any s u W
  have c2 := fun W => within_any m 1 10000 W
  rw [hT] at c1
  rw [hI] at c2
  have C1 := Lib.hid c1
  have C2 := Lib.hid c2
  clear c1 c2 hT hI
  go_enter Try.func34, Try.ntmps34
  go_wp2_with (first | (go_at_call 35; refine (C1.out _).mono ?_; rintro e w1 ⟨rfl, hb1⟩; have k0 := carry (b := w.heap.size) (o := 0) (v := .int .i64 s) hb1 (by simp [go_sem]); have k1 := carry (b := w.heap.size) (o := 1) (v := .int .i64 u) hb1 (by simp [go_sem])) | (go_at_call 58; refine (C2.out _).mono ?_; rintro e w2 ⟨rfl, rfl⟩))
  have z1 := hb1.size
  simp at z1
  go_ret
  exact ⟨rfl, by (repeat' (first | exact Below.refl _ _ | (refine Below.setCell ?_ (by first | omega | (simp; omega) | (simp; done)) _) | (refine Below.alloc ?_ (by first | omega | (simp; omega) | (simp; done)) _) | (refine Below.drew ?_) | (refine below_drewN ?_ _) | (refine Below.trans ?_ (Below.mono (by assumption) (by first | omega | (simp; omega) | (simp; done))))))⟩

theorem frozen_alloc {w : World} {p : Addr} {v : Value} (o : Obj) (h : w.cell? p = some v) (hf : w.frozen? p = false) : (w.alloc o).frozen? p = false :=
  (((Below.refl w.heap.size w).alloc (Nat.le_refl _) o).frozen (World.block_lt_of_cell? w _ h)).trans hf
theorem implPull_t (s u m : Int) (w : World) (hs : 1 ≤ s ∧ s ≤ 10000 ∧ 0 ≤ u ∧ u ≤ s) (hm : 0 ≤ m ∧ m ≤ s - u) :
    Calls Try.prog 16 #[.agg #[.int .i64 s, .int .i64 u], .int .i64 m] w fun e w' => e = .returned (.tuple #[.agg #[.int .i64 s, .int .i64 (u + m)], .bool true]) ∧ Below w.heap.size w w' := by
  have hp : pullB s u m = true := pullB_iff.2 ⟨thrB_iff.2 ⟨⟨by omega, by omega⟩, by omega, by omega⟩, by omega, by omega⟩
  refine (implPullThread_any s u m w).mono ?_
  rintro e w' ⟨rfl, hb⟩
  exact ⟨(pullV_t hp).symm, hb⟩
theorem implPull_f (s u m : Int) (w : World) (hm : s - u < m) :
    Calls Try.prog 16 #[.agg #[.int .i64 s, .int .i64 u], .int .i64 m] w fun e w' => e = .returned (.tuple #[.agg #[.int .i64 s, .int .i64 u], .bool false]) ∧ Below w.heap.size w w' := by
  have hp : pullB s u m = false := pullB_false.2 (fun h => by omega)
  refine (implPullThread_any s u m w).mono ?_
  rintro e w' ⟨rfl, hb⟩
  exact ⟨(pullV_f hp).symm, hb⟩
theorem implThreadOk_t (s u : Int) (w : World) (hs : 1 ≤ s ∧ s ≤ 10000 ∧ 0 ≤ u ∧ u ≤ s) :
    Calls Try.prog 35 #[.agg #[.int .i64 s, .int .i64 u]] w fun e w' => e = .returned (.bool true) ∧ Below w.heap.size w w' := by
  have hp : thrB s u = true := thrB_iff.2 ⟨⟨by omega, by omega⟩, by omega, by omega⟩
  rw [← hp]
  exact implThreadOk_any s u w
theorem btoi_t (w : World) : Calls Try.prog 37 #[.bool true] w fun e w' => e = .returned (.int .i64 1) ∧ Below w.heap.size w w' := by
  have := btoi_any true w
  rwa [if_pos rfl] at this
theorem btoi_f (w : World) : Calls Try.prog 37 #[.bool false] w fun e w' => e = .returned (.int .i64 0) ∧ Below w.heap.size w w' := by
  have := btoi_any false w
  rwa [if_neg (by simp)] at this
theorem wkTo_min (l : List (Int × Int)) (k i : Nat) (h : i < k) : leftAt l (wkTo l k) ≤ leftAt l i := by
  induction k with
  | zero => omega
  | succ k ih =>
    by_cases hd : leftAt l k < leftAt l (wkTo l k)
    · rw [wkTo_t hd]
      rcases Nat.lt_succ_iff_lt_or_eq.1 h with h | rfl
      · have := ih h; omega
      · omega
    · rw [wkTo_f hd]
      rcases Nat.lt_succ_iff_lt_or_eq.1 h with h | rfl
      · exact ih h
      · omega
theorem thrs_val {l : List RThread} (hv : ∀ t ∈ l, 1 ≤ t.1 ∧ t.1 ≤ 100 ∧ 0 ≤ t.2 ∧ t.2 ≤ t.1) (hl : l.length ≤ 6) : thrsB l = true := by
  rw [thrsB_all (List.all_eq_true.2 (fun t ht => by have := hv t ht; exact thrB_iff.2 ⟨⟨by omega, by omega⟩, by omega, by omega⟩))]
  simp; omega
set_option maxHeartbeats 4000000 in
set_option maxRecDepth 100000 in
theorem lawFnThreads_any (A : Option Addr) (c : Nat) (bs : List Int) (w : World) (h : RdL cU8 1 w (.slice A bs.length c) bs) (hby : ∀ x ∈ bs, 0 ≤ x ∧ x ≤ 255) :
    Calls Try.prog 7 #[.slice A bs.length c] w fun e w' => e = .returned (.bool true) ∧ Below w.heap.size w w' := by
  have Hby := Lib.hid hby
  clear hby
  go_enter Try.func7, Try.ntmps7
  go_wp2_with (go_at_call 31; refine twoB (big_any _ _ _ _) (fun wb hc hb => ?_) (fun wb hc hb => ?_))
  · go_ret
    exact ⟨rfl, hb⟩
  have hlen : bs.length ≤ 1048576 := by have := hc.out; simp at this; omega
  have hzb := hb.size
  refine (drawThreads_any A c bs wb (h.below hb) Hby.out hlen).mono ?_
  rintro e w1 ⟨v, l, rfl, hown, hval, hl6, hb1⟩
  have hz1 := hb1.size
  have Hval := Lib.hid hval
  clear hval
  go_wp2_with (go_at_call 33; refine (at_any A c bs 0 _ ((h.below hb).below hb1) Hby.out hlen (by omega) (by omega)).mono ?_; rintro e w2 ⟨r, rfl, hr, hb2⟩)
  have em : r.tmod 30 = r % 30 := Int.tmod_eq_emod_of_nonneg (by omega)
  have hz2 := hb2.size
  have hown2 := own_below hown hb2
  obtain ⟨A1, d1, rfl, h3, h4⟩ := (RdS.of_own hown2).form
  simp only [maxLen] at h4
  go_wp2_with fail
  have hm1 : 1 ≤ 1 + r % 30 ∧ 1 + r % 30 ≤ 30 := by omega
  clear em
  generalize 1 + r % 30 = m at *
  go_loopw [5, 6, 7, 8, 9, 10, 11, 12] (fun i _ _ _ _ _ _ _ wr => ∃ k : Nat, k ≤ l.length ∧ i = .int .i64 k ∧ Below w2.heap.size w2 wr) (fun i _ _ _ _ _ _ _ _ => l.length - (intOf i).toNat)
  case atStart => exact ⟨0, Nat.zero_le _, rfl, by (repeat' (first | exact Below.refl _ _ | (refine Below.setCell ?_ (by first | omega | (simp; omega) | (simp; done)) _) | (refine Below.alloc ?_ (by first | omega | (simp; omega) | (simp; done)) _) | (refine Below.drew ?_) | (refine below_drewN ?_ _) | (refine Below.trans ?_ (Below.mono (by assumption) (by first | omega | (simp; omega) | (simp; done))))))⟩
  case round =>
    obtain ⟨k, hk, rfl, hbr⟩ := hrel
    have hzr := hbr.size
    by_cases hlt : k < l.length
    · have hrd : RdL cThread 2 wr (.slice A1 l.length d1) l := (RdS.of_own hown2).below hbr
      obtain ⟨g, off, rfl, hg, hc⟩ := RdL.cell hrd cThread_len (by omega) hlt
      have k0 := hc 0 _ rfl
      have k1 := hc 1 _ rfl
      simp only [Nat.add_zero] at k0 k1
      clear hc
      have hsu := Hval.out _ (List.getElem_mem hlt)
      generalize l[k].1 = s at *
      generalize l[k].2 = u at *
      have hq0 : 0 ≤ (s - u) / m := Int.ediv_nonneg (by omega) (by omega)
      have hq1 : (s - u) / m * m ≤ s - u := Int.ediv_mul_le _ (by omega)
      have hq2 : s - u < ((s - u) / m + 1) * m := Int.lt_ediv_add_one_mul_self _ (by omega)
      have hq3 : (s - u) / m ≤ s - u := Int.ediv_le_self _ (by omega)
      have C1 := Lib.hid (fun W => implPullsLeft_any s u m W (by omega) (by omega))
      generalize (s - u) / m = q at *
      obtain ⟨n, rfl⟩ := Int.eq_ofNat_of_zero_le hq0
      have Hq1 := Lib.hid hq1
      have Hq2 := Lib.hid hq2
      clear hq1 hq2
      go_wp2_with (go_at_call 34; refine (C1.out _).mono ?_; rintro e w3 ⟨rfl, hb3⟩; replace k0 := (hb3.cell hg).trans k0; replace k1 := (hb3.cell hg).trans k1)
      have hz3 := hb3.size
      have hb3' : Below w2.heap.size w2 w3 := hbr.trans (hb3.mono hzr)
      go_wp2_with fail
      go_loopw [8, 9, 10] (fun i _ _ wi => ∃ (j : Nat) (x : Int), j ≤ n ∧ i = .int .i64 j ∧ Hid (x = u + j * m) ∧ (u ≤ x ∧ x ≤ s) ∧ wi.cell? ⟨w3.heap.size, 0, none⟩ = some (.int .i64 s) ∧ wi.cell? ⟨w3.heap.size, 1, none⟩ = some (.int .i64 x) ∧ wi.frozen? ⟨w3.heap.size, 0, none⟩ = false ∧ wi.frozen? ⟨w3.heap.size, 1, none⟩ = false ∧ Below w2.heap.size w2 wi) (fun i _ _ _ => n - (intOf i).toNat)
      case atStart => exact ⟨0, u, Nat.zero_le _, rfl, by simp [Hid], by omega, by simp [go_sem], by simp [go_sem], by simp [go_sem], by simp [go_sem], by (repeat' (first | exact Below.refl _ _ | (refine Below.setCell ?_ (by first | omega | (simp; omega) | (simp; done)) _) | (refine Below.alloc ?_ (by first | omega | (simp; omega) | (simp; done)) _) | (refine Below.drew ?_) | (refine below_drewN ?_ _) | (refine Below.trans ?_ (Below.mono (by assumption) (by first | omega | (simp; omega) | (simp; done))))))⟩
      case round =>
        obtain ⟨j, x, hj, rfl, hx, hxb, j0, j1, f0, f1, hbi⟩ := hrel
        have hzi := hbi.size
        have hzB : w3.heap.size < wr.heap.size := World.block_lt_of_cell? _ _ j0
        by_cases hlt2 : j < n
        · have hmx : x + m ≤ s := by
            have h1 := Int.mul_le_mul_of_nonneg_right (show ((j : Int) + 1) ≤ n by omega) (show 0 ≤ m by omega)
            have h2 := Hq1.out
            have h3 := hx.out
            rw [Int.add_mul, Int.one_mul] at h1
            omega
          have D1 := Lib.hid (fun W => implPull_t s x m W (by omega) (by omega))
          go_wp2_with (go_at_call 16; refine (D1.out _).mono ?_; rintro e w4 ⟨rfl, hb4⟩; replace f0 := carryF hb4 j0 f0; replace f1 := carryF hb4 j1 f1; replace j0 := carry hb4 j0; replace j1 := carry hb4 j1; have hz4 := hb4.size; have a0 := cell_alloc (.cells #[.int .i64 s, .int .i64 (x + m)] 24) j0; have a1 := cell_alloc (.cells #[.int .i64 s, .int .i64 (x + m)] 24) j1; have b0 := frozen_alloc (.cells #[.int .i64 s, .int .i64 (x + m)] 24) j0 f0; have b1 := frozen_alloc (.cells #[.int .i64 s, .int .i64 (x + m)] 24) j1 f1)
          go_roundw
          case rel => exact ⟨j + 1, x + m, by omega, by go_num, by show _ = _; rw [hx.out, Int.natCast_add, Int.add_mul]; omega, by omega, by simp [go_sem, a0, a1, b0, b1], by simp [go_sem, a0, a1, b0, b1], by simp [go_sem, b0, b1], by simp [go_sem, b0, b1], by (repeat' (first | exact Below.refl _ _ | (refine Below.setCell ?_ (by first | omega | (simp; omega) | (simp; done)) _) | (refine Below.alloc ?_ (by first | omega | (simp; omega) | (simp; done)) _) | (refine Below.drew ?_) | (refine below_drewN ?_ _) | (refine Below.trans ?_ (Below.mono (by assumption) (by first | omega | (simp; omega) | (simp; done))))))⟩
          case measure => simp [intOf]; omega
        · have hjn : j = n := by omega
          subst hjn
          have hmx : s - x < m := by
            have h2 := Hq2.out
            have h3 := hx.out
            rw [Int.add_mul, Int.one_mul] at h2
            omega
          have D1 := Lib.hid (fun W => implPull_f s x m W (by omega))
          have D2 := Lib.hid (fun W => implThreadOk_t s x W (by omega))
          go_wp2_with (first | (go_at_call 16; refine (D1.out _).mono ?_; rintro e w4 ⟨rfl, hb4⟩; replace f0 := carryF hb4 j0 f0; replace f1 := carryF hb4 j1 f1; replace j0 := carry hb4 j0; replace j1 := carry hb4 j1; have hz4 := hb4.size; have a0 := cell_alloc (.cells #[.int .i64 s, .int .i64 x] 24) j0; have a1 := cell_alloc (.cells #[.int .i64 s, .int .i64 x] 24) j1) | (go_at_call 35; refine (D2.out _).mono ?_; rintro e w5 ⟨rfl, hb5⟩; have hz5 := hb5.size))
          go_roundw
          case rel => exact ⟨k + 1, by omega, by go_num, by (repeat' (first | exact Below.refl _ _ | (refine Below.setCell ?_ (by first | omega | (simp; omega) | (simp; done)) _) | (refine Below.alloc ?_ (by first | omega | (simp; omega) | (simp; done)) _) | (refine Below.drew ?_) | (refine below_drewN ?_ _) | (refine Below.trans ?_ (Below.mono (by assumption) (by first | omega | (simp; omega) | (simp; done))))))⟩
          case measure => simp [intOf]; omega
    · have hT := thrs_val Hval.out hl6
      have hI : inB m 0 10000 = true := inB_iff.2 ⟨by omega, by omega⟩
      obtain ⟨eL, eK⟩ := ren_t (m := m) (l := l) hT hI
      have hrd : RdL cThread 2 wr (.slice A1 l.length d1) l := (RdS.of_own hown2).below hbr
      have c1 := implWeakestThread_any _ l wr hrd
      have c2 := fun (W : World) (hb : Below wr.heap.size wr W) => implRenewed_r _ l m W (RdS.below hrd hb) (by omega)
      have hwk : weakF l = if 0 < l.length then (wkTo l l.length : Int) else -1 := by rw [weakF]; simp [hT]
      rw [eL, eK, List.length_map] at c2
      have hnl : renN m l ≤ l.length := List.countP_le_length
      have hb1 : ((weakF l == -1) = ((l.length : Int) == 0)) := by
        rw [hwk]
        by_cases hl : 0 < l.length
        · rw [if_pos hl, beq_eq_false_iff_ne.2 (by omega), beq_eq_false_iff_ne.2 (by omega)]
        · rw [if_neg hl, beq_iff_eq.2 (by omega : (l.length : Int) = 0)]; rfl
      have hb2' : weakF l < l.length := by
        rw [hwk]
        by_cases hl : 0 < l.length
        · rw [if_pos hl]; have := wkTo_lt l l.length hl (Nat.le_refl _); omega
        · rw [if_neg hl]; omega
      have Hwk := Lib.hid hwk
      have C1 := Lib.hid c1
      have C2 := Lib.hid c2
      have HT := Lib.hid hT
      clear hwk c1 c2 hT hI eL eK
      generalize weakF l = kk at *
      go_wp2_with (first | (go_at_call 29; refine C1.out.mono ?_; rintro e w3 ⟨rfl, hb3⟩; have hz3 := hb3.size) | (go_at_call 36; refine (C2.out w3 hb3).mono ?_; rintro e w4 ⟨v4, rfl, hown4, hb4⟩; have hz4 := hb4.size; obtain ⟨A4, d4, rfl, h5, h6⟩ := (RdS.of_own hown4).form; simp only [maxLen] at h6))
      have hb24 : Below w2.heap.size w2 w4 := by (repeat' (first | exact Below.refl _ _ | (refine Below.setCell ?_ (by first | omega | (simp; omega) | (simp; done)) _) | (refine Below.alloc ?_ (by first | omega | (simp; omega) | (simp; done)) _) | (refine Below.drew ?_) | (refine below_drewN ?_ _) | (refine Below.trans ?_ (Below.mono (by assumption) (by first | omega | (simp; omega) | (simp; done))))))
      have hz24 := hb24.size
      have hrd4 : RdL cThread 2 w4 (.slice A1 l.length d1) l := (RdS.of_own hown2).below hb24
      have hrr : RdL cThread 2 w4 (.slice A4 (l.map (renF m)).length d4) (l.map (renF m)) := by unfold RdL; rw [List.length_map]; exact RdS.of_own hown4
      clear hrd hbr hb3 hb4 hzr hz3 hz4 C1 C2 hown4
      clear hb1 hb2'
      generalize decide ((l.length : Int) ≤ kk) = q1 at *
      go_loopw [16, 17, 18] (fun q i _ wr => ∃ k : Nat, k ≤ l.length ∧ i = .int .i64 k ∧ q = .int .i64 (renN m (l.take k)) ∧ Below w4.heap.size w4 wr) (fun _ i _ _ => l.length - (intOf i).toNat)
      case atStart => exact ⟨0, Nat.zero_le _, rfl, rfl, by (repeat' (first | exact Below.refl _ _ | (refine Below.setCell ?_ (by first | omega | (simp; omega) | (simp; done)) _) | (refine Below.alloc ?_ (by first | omega | (simp; omega) | (simp; done)) _) | (refine Below.drew ?_) | (refine below_drewN ?_ _) | (refine Below.trans ?_ (Below.mono (by assumption) (by first | omega | (simp; omega) | (simp; done))))))⟩
      case round =>
        obtain ⟨k, hk, rfl, rfl, hbr⟩ := hrel
        have hzr := hbr.size
        by_cases hlt : k < l.length
        · have hkk : kk = (wkTo l l.length : Int) := by rw [Hwk.out, if_pos (by omega)]
          have hql := wkTo_lt l l.length (by omega) (Nat.le_refl _)
          have hmin := wkTo_min l l.length k hlt
          clear Hwk
          subst hkk
          generalize wkTo l l.length = q at *
          have hr1 : RdL cThread 2 wr (.slice A1 l.length d1) l := RdS.below hrd4 hbr
          have hr2 : RdL cThread 2 wr (.slice A4 (l.map (renF m)).length d4) (l.map (renF m)) := RdS.below hrr hbr
          obtain ⟨g, off, rfl, hg, hc⟩ := hr1.cell cThread_len (by omega) hlt
          have k0 := hc 0 _ rfl
          have k1 := hc 1 _ rfl
          obtain ⟨g', off', hAA, hg', hc'⟩ := hr1.cell cThread_len (by omega) hql
          injection hAA with hAA
          injection hAA with e1 e2
          subst e1 e2
          have k2 := hc' 0 _ rfl
          have k3 := hc' 1 _ rfl
          obtain ⟨g4, off4, rfl, hg4, hc4⟩ := hr2.cell cThread_len (by omega) (k := k) (by rw [List.length_map]; exact hlt)
          have k4 := hc4 0 _ rfl
          have k5 := hc4 1 _ rfl
          simp only [Nat.add_zero, List.getElem_map] at k0 k1 k2 k3 k4 k5
          clear hc hc' hc4 hr1 hr2
          have hcnt := renN_succ (m := m) hlt
          have hle : renN m (l.take k) ≤ l.length := Nat.le_trans List.countP_le_length (List.length_take_le' _ _)
          have Hcnt := Lib.hid hcnt
          rw [leftAt_of hlt, leftAt_of hql] at hmin
          have hv1 := Hval.out _ (List.getElem_mem hlt)
          have hv2 := Hval.out _ (List.getElem_mem hql)
          have hren : renF m l[k] = if l[k].1 - l[k].2 < m then (l[k].1, 0) else (l[k].1, l[k].2) := by unfold renF; split <;> rfl
          rw [hren] at k4 k5
          clear hcnt hren
          generalize l[k].1 = s at *
          generalize l[k].2 = u at *
          generalize l[q].1 = s2 at *
          generalize l[q].2 = u2 at *
          have hnm : ¬ (s - u < s2 - u2) := by omega
          have g1 : decide (s - u < s2 - u2) = false := decide_eq_false hnm
          by_cases hd : s - u < m
          · rw [if_pos hd] at k4 k5
            have g2 : decide (s - u < m) = true := decide_eq_true hd
            have g3 : decide (m ≤ s - u) = false := decide_eq_false (by omega)
            go_wp2_with fail
            go_quiet (fail)
            rename_i nq
            go_wp2_with (go_at_call 37; refine (btoi_t _).mono ?_; rintro e w5 ⟨rfl, hb5⟩; replace k0 := (hb5.cell (p := ⟨g, _, none⟩) hg).trans k0; replace k1 := (hb5.cell (p := ⟨g, _, none⟩) hg).trans k1; replace k2 := (hb5.cell (p := ⟨g, _, none⟩) hg).trans k2; replace k3 := (hb5.cell (p := ⟨g, _, none⟩) hg).trans k3; replace k4 := (hb5.cell (p := ⟨g4, _, none⟩) hg4).trans k4; replace k5 := (hb5.cell (p := ⟨g4, _, none⟩) hg4).trans k5; have hz5 : wr.heap.size ≤ w5.heap.size := hb5.size)
            go_quiet (fail)
            rename_i nq2
            go_wp2_with fail
            go_roundw
            case rel => exact ⟨k + 1, by omega, by go_num, int_eq (by rw [Hcnt.out, if_pos hd]; omega), below_drewN (hbr.trans ((below_drewN (Below.refl _ _) _).trans (hb5.mono hzr))) _⟩
            case measure => simp [intOf]; omega
          · rw [if_neg hd] at k4 k5
            have g2 : decide (s - u < m) = false := decide_eq_false hd
            have g3 : decide (m ≤ s - u) = true := decide_eq_true (by omega)
            go_wp2_with fail
            go_quiet (fail)
            rename_i nq
            go_wp2_with (go_at_call 37; refine (btoi_f _).mono ?_; rintro e w5 ⟨rfl, hb5⟩; replace k0 := (hb5.cell (p := ⟨g, _, none⟩) hg).trans k0; replace k1 := (hb5.cell (p := ⟨g, _, none⟩) hg).trans k1; replace k2 := (hb5.cell (p := ⟨g, _, none⟩) hg).trans k2; replace k3 := (hb5.cell (p := ⟨g, _, none⟩) hg).trans k3; replace k4 := (hb5.cell (p := ⟨g4, _, none⟩) hg4).trans k4; replace k5 := (hb5.cell (p := ⟨g4, _, none⟩) hg4).trans k5; have hz5 : wr.heap.size ≤ w5.heap.size := hb5.size)
            go_quiet (fail)
            rename_i nq2
            go_wp2_with fail
            go_roundw
            case rel => exact ⟨k + 1, by omega, by go_num, int_eq (by rw [Hcnt.out, if_neg (show ¬ s - u < m by omega)]; omega), below_drewN (hbr.trans ((below_drewN (Below.refl _ _) _).trans (hb5.mono hzr))) _⟩
            case measure => simp [intOf]; omega
        · have hkn : k = l.length := by omega
          subst hkn
          rw [List.take_of_length_le (Nat.le_refl _)]
          have E1 := Lib.hid (fun W => implPullsLeft_any 10 3 2 W (by omega) (by omega))
          go_wp2_with (go_at_call 34; refine (E1.out _).mono ?_; rintro e w5 ⟨rfl, hb5⟩; have hz5 := hb5.size)
          go_ret
          exact ⟨rfl, by (repeat' (first | exact Below.refl _ _ | (refine Below.setCell ?_ (by first | omega | (simp; omega) | (simp; done)) _) | (refine Below.alloc ?_ (by first | omega | (simp; omega) | (simp; done)) _) | (refine Below.drew ?_) | (refine below_drewN ?_ _) | (refine Below.trans ?_ (Below.mono (by assumption) (by first | omega | (simp; omega) | (simp; done))))))⟩

set_option maxRecDepth 100000 in
set_option maxHeartbeats 1000000 in
theorem fnThreads_lifted (os : Os) (started : os.Started) (H : Type) (enc : TypeId × Value → H) :
    ReturnsInHanded {} Try.checked os 7 .any (Rows.fnThreadsSpec.pre6 enc Try.prog Try.f7 Rows.fnThreadsRow.domain false) (Rows.fnThreadsSpec.post enc Try.prog Try.f7 false true false false) := by
  refine returnsInHanded_of_change (C := Try.checked) tryOwn started (by kernel_rfl) Try.func7
    (ChangeSpec.witness6 (enc := enc) (C := Try.checked) false ⟨#[], #[.slice none 0 0], []⟩ 12 (by kernel_rfl) (by kernel_rfl) (by kernel_rfl) (by kernel_rfl)) ?_
  intro W base args ds gs before hval0 hW hcnd _
  have hval : ∀ (j : Nat) t v, Try.f7.params[j]? = some t → args[j]? = some v → Value.okWide Try.prog W .any base t v := hval0
  have hW' := hW
  obtain ⟨p, q, hA0, hV, rfl, hfz, hnd⟩ := hW
  have hA : DataW.TrodAll enc Try.prog W 0 (fun _ => true) true Try.f7.params.toList args.toList ds p := hA0
  rw [Try.params7] at hA hval
  obtain ⟨v0, vs0, d0, ds0, p0, q0, hargs, rfl, rfl, h0, r0⟩ := trodAll_cons hA
  obtain ⟨rfl, rfl, rfl⟩ := trodAll_nil r0
  obtain rfl : args = #[v0] := by cases args; simp_all
  obtain ⟨rfl, rfl⟩ := trodVars_none hV
  have e0 := h0
  have lt0 : ∀ x ∈ p0, x.block < W.heap.size := by obtain ⟨m, hm⟩ := e0; exact DataW.trod_lt m _ _ _ hm
  have ok0 := hval 0 49 v0 rfl rfl
  clear hA0 hval0 hval
  obtain ⟨xs, hrd, hby⟩ := arg_slice Try.underlying49 ok0 h0 (opens_slice (f := cU8) (size := 1) Try.underlying49 (by kernel_rfl) (by omega) cU8_len (opens_u8 Try.underlying5))
  obtain ⟨A, c, rfl, _⟩ := RdS.form hrd
  refine (lawFnThreads_any A c xs W hrd hby).mono fun e W' ⟨he, bel⟩ => ?_
  subst he
  exact ⟨_, rfl, _, _, _, [], _, [], hW', trodAll_mk1 (shut_bool Try.underlying4 _), (trodAll_cons_mk (Below.trod tryLaid (by kernel_rfl) (of_decide_eq_true (by kernel_rfl)) e0 bel lt0) trodAll_mk0), rfl, bel.frame _, fun h => by cases h⟩

theorem fnThreads_holds : Rows.FnThreadsSaid :=
  OpenClaim.holds_of_wide 7 Try.f7 rfl rfl rfl rfl rfl rfl rfl ⟨rfl, rfl, rfl, rfl, rfl⟩ rfl rfl rfl rfl rfl (by kernel_rfl) Try.func7 (by kernel_rfl)
    (of_decide_eq_true (by kernel_rfl)) (by unfold Func.isWrapper; first | (rw [if_pos (by decide +kernel)]; kernel_rfl) | (rw [if_neg (by decide +kernel)]; exact ⟨rfl, rfl⟩))
    (fun os started H enc _ => fnThreads_lifted os started H enc)
#print axioms fnThreads_holds
end Go.Proofs.Ytghjjaijmlkbdaa
