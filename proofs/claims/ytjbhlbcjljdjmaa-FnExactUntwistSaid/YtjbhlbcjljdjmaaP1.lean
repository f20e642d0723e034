/- Slices of players: the helpers of the laws. -/
import Derived.Test.YtjbhlbcjljdjmaaP0
import Derived.Test.YtjbhlbcjljdjmaaSPlayer
import Derived.StillTailTactics
namespace Go.Proofs.Ytjbhlbcjljdjmaa
open Go.RowKit

set_option maxHeartbeats 2000000 in
set_option maxRecDepth 100000 in
theorem szPlayerS_any (v : Value) (ll : List RPl) (m : Int) (w : World) (h : RdPls w v ll) (hm : 0 ≤ m ∧ m ≤ 1048576) :
    Calls Try.prog 57 #[v, .int .i64 m] w (SzB m (plsTot ll) w) := by
  obtain ⟨A, c, rfl, h1, h2⟩ := h.form
  by_cases hlt : m < ll.length
  · go_enter Try.func57, Try.ntmps57
    go_wp2_with fail
    go_ret
    exact ⟨-1, rfl, Below.refl _ _, by omega, by omega⟩
  · go_enter Try.func57, Try.ntmps57
    go_wp2_with fail
    go_loopw [1, 5] (fun t i wr => ∃ k : Nat, k ≤ ll.length ∧ i = .int .i64 k ∧ (∃ r : Int, t = .int .i64 r ∧ 0 ≤ r ∧ r ≤ m ∧ Hid ((ll.length : Int) + (((ll.take k).map (fun r : RPl => r.1.length)).sum : Nat) = m - r)) ∧ Below w.heap.size w wr) (fun _ i _ => ll.length - (intOf i).toNat)
    case atStart => exact ⟨0, Nat.zero_le _, rfl, ⟨_, rfl, by omega, by omega, by simp [Hid]; omega⟩, Below.refl _ _⟩
    case round =>
      obtain ⟨k, hk, rfl, ⟨r, rfl, hr0, hr1, hr⟩, hb⟩ := hrel
      by_cases hlt : k < ll.length
      · obtain ⟨g, off, u, rfl, hg, k0, k1, hru⟩ := (h.below hb).cell hlt
        have Hst := Lib.hid (sum_take_succ (fun r : RPl => r.1.length) ll hlt)
        go_wp2_with fail
        refine (szPlayer_any _ u ll[k].1 r _ hru (by omega)).mono ?_
        rintro e w' ⟨r', rfl, hb', hr2, hr3⟩
        have Hr3 := Lib.hid hr3
        clear hr3
        by_cases hneg : r' < 0
        · go_wp2_with fail
          go_ret
          exact ⟨-1, rfl, bl_trans hb hb', by omega, by omega⟩
        · go_wp2_with fail
          go_roundw
          case rel => exact ⟨k + 1, by omega, by go_num, ⟨_, rfl, by omega, by omega, by have a := hr.out; have b := Hst.out; have c := Hr3.out (by omega); unfold szPlayer at c; show _ = _; omega⟩, bl_trans hb hb'⟩
          case measure => simp [intOf]; omega
      · go_wp2_with fail
        go_ret
        refine ⟨r, rfl, hb, hr1, fun _ => ?_⟩
        have := hr.out
        rw [List.take_of_length_le (by omega)] at this
        unfold plsTot
        omega
set_option maxHeartbeats 2000000 in
set_option maxRecDepth 100000 in
theorem eqPlayerS_any (v v' : Value) (ll : List RPl) (w : World) (h : RdPls w v ll) (hq : RdPls w v' ll) :
    Calls Try.prog 68 #[v, v'] w fun e w' => e = .returned (.bool true) ∧ Below w.heap.size w w' := by
  obtain ⟨A, c, rfl, h1, h2⟩ := h.form
  obtain ⟨A', c', rfl, h1', h2'⟩ := hq.form
  go_enter Try.func68, Try.ntmps68
  go_wp2_with fail
  go_loopw [5] (fun i wr => ∃ k : Nat, k ≤ ll.length ∧ i = .int .i64 k ∧ Below w.heap.size w wr) (fun i _ => ll.length - (intOf i).toNat)
  case atStart => exact ⟨0, Nat.zero_le _, rfl, by (repeat' (first | exact Below.refl _ _ | (refine Below.setCell ?_ (by first | omega | (simp; omega) | (simp; done)) _) | (refine Below.alloc ?_ (by first | omega | (simp; omega) | (simp; done)) _) | (refine Below.drew ?_) | (refine below_drewN ?_ _) | (refine Below.trans ?_ (Below.mono (by assumption) (by first | omega | (simp; omega) | (simp; done))))))⟩
  case round =>
    obtain ⟨k, hk, rfl, hb⟩ := hrel
    have hz := hb.size
    by_cases hlt : k < ll.length
    · obtain ⟨g, off, u, rfl, hg, k0, k1, hru⟩ := (h.below hb).cell hlt
      obtain ⟨g', off', u', rfl, hg', k2, k3, hru'⟩ := (hq.below hb).cell hlt
      go_wp2_with fail
      go_still_tail 8, (by kernel_rfl)
      change wpList _ _ _ _ _ wr.drew
      go_wp2_with (go_at_call 118; refine (eqPlayer_any ll[k].2 u u' ll[k].1 wr.drew hru hru').mono ?_; rintro e w' ⟨rfl, hb'⟩)
      go_roundw
      case rel => exact ⟨k + 1, by omega, by go_num, by (repeat' (first | exact Below.refl _ _ | (refine Below.setCell ?_ (by first | omega | (simp; omega) | (simp; done)) _) | (refine Below.alloc ?_ (by first | omega | (simp; omega) | (simp; done)) _) | (refine Below.drew ?_) | (refine below_drewN ?_ _) | (refine Below.trans ?_ (Below.mono (by assumption) (by first | omega | (simp; omega) | (simp; done))))))⟩
      case measure => simp [intOf]; omega
    · go_wp2_with fail
      go_ret
      exact ⟨rfl, by (repeat' (first | exact Below.refl _ _ | (refine Below.setCell ?_ (by first | omega | (simp; omega) | (simp; done)) _) | (refine Below.alloc ?_ (by first | omega | (simp; omega) | (simp; done)) _) | (refine Below.drew ?_) | (refine below_drewN ?_ _) | (refine Below.trans ?_ (Below.mono (by assumption) (by first | omega | (simp; omega) | (simp; done))))))⟩
set_option maxHeartbeats 2000000 in
set_option maxRecDepth 100000 in
theorem toPlayerS_any (v : Value) (ll : List RPl) (w : World) (h : RdPls w v ll) (hl : plsTot ll ≤ 1048576) :
    Calls Try.prog 62 #[v] w fun e w' => ∃ v' S, e = .returned v' ∧ OwPls w' S v' ll ∧ Fresh w.heap.size w' S ∧ Below w.heap.size w w' := by
  obtain ⟨A, c, rfl, h1, h2⟩ := h.form
  obtain ⟨i0, hi0, hz0, hz1, hz2⟩ := info_parts infoPlayer
  have hll : ll.length ≤ 1048576 := by unfold plsTot at hl; omega
  go_enter Try.func62, Try.ntmps62
  go_wp2_with (at_make; refine wpList_make_full _ rfl _ _ _ rfl w.heap.size 126 i0 _ 2 Try.underlying45 hi0 hz0 hz1 _ _ _ _ ll.length rfl rfl rfl rfl (by rw [hz2]; omega) (by simp [maxLen]; omega) (Nat.le_refl _) ?_; intro w1 hown hgr)
  have hb1 : Below w.heap.size w w1 := (Below.refl _ _).grown hgr (Nat.le_refl _) (by simp)
  have hlt1 := hown.lt w.heap.size rfl
  go_loopw [4] (fun i wr => ∃ (k : Nat) (xs : List Value) (vs : List (Value × Int)), k ≤ ll.length ∧ i = .int .i64 k ∧ wr.ownsRow w.heap.size 126 2 (.slice (some ⟨w.heap.size, 0, none⟩) ll.length ll.length) ll.length xs ∧ Hid (xs.take (k * 2) = vs.flatMap cPl) ∧ Hid (vs.length = k) ∧ PlsOwn wr vs (ll.take k) ∧ Fresh (w.heap.size + 1) wr (plBlocks vs) ∧ Below w.heap.size w wr) (fun i _ => ll.length - (intOf i).toNat)
  case atStart => exact ⟨0, _, [], Nat.zero_le _, rfl, hown, by simp [Hid], by rfl, fun i p r hv => by simp at hv, ⟨by simp [plBlocks, blocksOf], by simp [plBlocks, blocksOf]⟩, hb1⟩
  case round =>
    obtain ⟨k, xs, vs, hk, rfl, hown, ht, hvl, hrows, hfr, hb⟩ := hrel
    have hz := hb.size
    by_cases hlt : k < ll.length
    · obtain ⟨g, off, u, rfl, hg, k0, k1, hru⟩ := (h.below hb).cell hlt
      have hxl := hown.1
      obtain ⟨u0, c0⟩ : ∃ u, wr.cell? ⟨w.heap.size, k * 2, none⟩ = some u := ⟨_, (hown.cellAt (k * 2) (by omega)).trans (List.getElem?_eq_getElem (by omega))⟩
      obtain ⟨u1, c1⟩ : ∃ u, wr.cell? ⟨w.heap.size, k * 2 + 1, none⟩ = some u := ⟨_, (hown.cellAt (k * 2 + 1) (by omega)).trans (List.getElem?_eq_getElem (by omega))⟩
      have f0 := hown.frozenAt (k * 2)
      have f1 := hown.frozenAt (k * 2 + 1)
      have hlo := (hown.lt w.heap.size rfl).2
      have Hxl := Lib.hid hxl
      clear hxl
      have hlk : szPlayer ll[k].1 ≤ 1048576 := by
        have := plsTo_le hlt
        rw [plsCnt_tot] at this
        unfold szPlayer
        omega
      go_wp2_with fail
      refine (toPlayer_any ll[k].2 u ll[k].1 _ hru hlk).mono ?_
      rintro e w' ⟨v', S', rfl, how', hfv, hb'⟩
      obtain ⟨S1, rfl, hown'⟩ := how'
      obtain ⟨A1, c1', rfl, _, _⟩ := hown'.rd.form
      have d0 := carry hb' c0
      have d1 := carry hb' c1
      have g0 := carryF hb' c0 f0
      have g1 := carryF hb' c1 f1
      have hz' := hb'.size
      have ho1 := ((own_below hown hb').stored (k * 2) (.slice A1 ll[k].1.length c1')).1.stored (k * 2 + 1) (.int .i64 ll[k].2)
      have hchg : Chg [w.heap.size] w' ((w'.setCell ⟨w.heap.size, k * 2, none⟩ (.slice A1 ll[k].1.length c1')).setCell ⟨w.heap.size, k * 2 + 1, none⟩ (.int .i64 ll[k].2)) := by repeat' (first | (with_reducible exact Chg.refl _ _) | (with_reducible refine chg_set ?_ (by simp)))
      have hS := hown'.2
      subst hS
      clear c0 c1 f0 f1 k0 k1
      go_wp2_with fail
      go_roundw
      case rel =>
        refine ⟨k + 1, _, vs ++ [(.slice A1 ll[k].1.length c1', ll[k].2)], by omega, by go_num, ho1.1, ?_, by simp [Hid, hvl.out], ?_, ?_, by (repeat' (first | exact Below.refl _ _ | (refine Below.setCell ?_ (by first | omega | (simp; omega) | (simp; done)) _) | (refine Below.alloc ?_ (by first | omega | (simp; omega) | (simp; done)) _) | (refine Below.drew ?_) | (refine below_drewN ?_ _) | (refine Below.trans ?_ (Below.mono (by assumption) (by first | omega | (simp; omega) | (simp; done))))))⟩
        · show _ = _
          rw [List.flatMap_append]
          exact (size_set2 _ _ ht.out (by rw [Hxl.out]; omega)).trans (by simp [cPl])
        · intro i x r hx hl'
          by_cases hi : i < vs.length
          · rw [List.getElem?_append_left hi] at hx
            have hik : i < k := by rw [← hvl.out]; exact hi
            have hl2 : (ll.take k)[i]? = some r := by
              rw [List.getElem?_take] at hl' ⊢
              rw [if_pos hik]; rw [if_pos (by omega)] at hl'; exact hl'
            refine ⟨(hrows i x r hx hl2).1, own_chg (own_below (hrows i x r hx hl2).2 hb') hchg ?_⟩
            intro b hbm
            have := hfr.2 b (mem_plBlocks hx b hbm)
            simp; omega
          · have hik : i = k := by
              have := (List.getElem?_eq_some_iff.1 hx).1
              have e := hvl.out
              simp at this; omega
            subst hik
            rw [List.getElem?_append_right (by have := hvl.out; omega), hvl.out, Nat.sub_self] at hx
            simp at hx
            subst hx
            rw [List.getElem?_take, if_pos (by omega), List.getElem?_eq_getElem hlt] at hl'
            injection hl' with hl'
            subst hl'
            exact ⟨rfl, own_chg hown'.1 hchg (fun b hbm => by have := hfv.2 b hbm; simp; omega)⟩
        · rw [plBlocks_snoc]
          refine ⟨List.nodup_append.2 ⟨hfr.1, hfv.1, fun a ha b hb' e => ?_⟩, fun b hbm => ?_⟩
          · have := hfr.2 a ha
            have := hfv.2 b hb'
            omega
          · rw [World.size_setCell, World.size_setCell]
            rcases List.mem_append.1 hbm with hbm | hbm
            · have := hfr.2 b hbm; omega
            · have := hfv.2 b hbm; omega
      case measure => simp [intOf]; omega
    · obtain rfl : k = ll.length := by omega
      go_wp2_with fail
      go_ret
      have hlo := (hown.lt w.heap.size rfl).2
      have e := ht.out
      rw [List.take_of_length_le (by rw [hown.1]; omega)] at e
      subst e
      rw [List.take_length] at hrows
      refine ⟨_, _, rfl, ⟨vs, hvl.out, ?_, hrows, rfl⟩, ?_, by (repeat' (first | exact Below.refl _ _ | (refine Below.setCell ?_ (by first | omega | (simp; omega) | (simp; done)) _) | (refine Below.alloc ?_ (by first | omega | (simp; omega) | (simp; done)) _) | (refine Below.drew ?_) | (refine below_drewN ?_ _) | (refine Below.trans ?_ (Below.mono (by assumption) (by first | omega | (simp; omega) | (simp; done))))))⟩
      · rw [hvl.out]; exact own_mono hown (Nat.zero_le _)
      · refine ⟨List.nodup_append.2 ⟨by simp [Value.ownBlock], hfr.1, fun a ha b hb' e => ?_⟩, fun b hbm => ?_⟩
        · have := hfr.2 b hb'
          simp [Value.ownBlock] at ha
          omega
        · rcases List.mem_append.1 hbm with hbm | hbm
          · simp [Value.ownBlock] at hbm; omega
          · have := hfr.2 b hbm; omega
end Go.Proofs.Ytjbhlbcjljdjmaa
