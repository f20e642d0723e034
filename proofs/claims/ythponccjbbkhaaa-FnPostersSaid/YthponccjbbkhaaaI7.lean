/- Slices of slices of ints: words and the helpers of the laws. -/
import Derived.Test.YthponccjbbkhaaaI1
import Derived.StillTailTactics
namespace Go.Proofs.Ythponccjbbkhaaa
open Go.RowKit

def cVal (v : Value) : List Value := [v]
theorem cVal_len (v : Value) : (cVal v).length = 1 := rfl
theorem flat_cVal (vs : List Value) : vs.flatMap cVal = vs := by
  induction vs with
  | nil => rfl
  | cons v vs ih => rw [List.flatMap_cons, ih]; rfl
/-- The slice v reads as the rows ll. -/
def RdRows (w : World) (v : Value) (ll : List (List Int)) : Prop :=
  ∃ vs : List Value, RdL cVal 1 w v vs ∧ vs.length = ll.length ∧ ∀ (i : Nat) (v' : Value) (l : List Int), vs[i]? = some v' → ll[i]? = some l → RdL cInt 1 w v' l
def blocksOf (vs : List Value) : List Nat := vs.flatMap (fun v => v.ownBlock.toList)
def RowsOwn (ei : TypeId) (w : World) (vs : List Value) (ll : List (List Int)) : Prop :=
  ∀ (i : Nat) (v' : Value) (l : List Int), vs[i]? = some v' → ll[i]? = some l → w.ownsRow 0 ei 1 v' l.length (l.flatMap cInt)
/-- The call's own rows. -/
def OwRows (e ei : TypeId) (w : World) (S : List Nat) (v : Value) (ll : List (List Int)) : Prop :=
  ∃ vs : List Value, vs.length = ll.length ∧ w.ownsRow 0 e 1 v vs.length vs ∧ RowsOwn ei w vs ll ∧ S = v.ownBlock.toList ++ blocksOf vs
theorem RdRows.below {w w' : World} {v : Value} {ll : List (List Int)} (h : RdRows w v ll) (hb : Below w.heap.size w w') : RdRows w' v ll := by
  obtain ⟨vs, h1, h2, h3⟩ := h
  exact ⟨vs, h1.below hb, h2, fun i v' l hv hl => (h3 i v' l hv hl).below hb⟩
theorem RdRows.form {w : World} {v : Value} {ll : List (List Int)} (h : RdRows w v ll) : ∃ A c, v = .slice A ll.length c ∧ ll.length ≤ c ∧ c ≤ 9223372036854775807 := by
  obtain ⟨vs, h1, h2, _⟩ := h
  have := h1.form
  rwa [h2] at this
/-- Row k: where it stands, and that it reads. -/
theorem RdRows.cell {w : World} {A : Option Addr} {c : Nat} {ll : List (List Int)} (h : RdRows w (.slice A ll.length c) ll) {k : Nat} (hk : k < ll.length) :
    ∃ g off u, A = some ⟨g, off, none⟩ ∧ g < w.heap.size ∧ w.cell? ⟨g, off + k, none⟩ = some u ∧ RdL cInt 1 w u ll[k] := by
  obtain ⟨vs, h1, h2, h3⟩ := h
  rw [← h2] at h1
  obtain ⟨g, off, hA, hg, hc⟩ := h1.cell (k := k) cVal_len (by omega) (by omega)
  have hk' : k < vs.length := by omega
  refine ⟨g, off, vs[k], hA, hg, ?_, h3 k _ _ (List.getElem?_eq_getElem hk') (List.getElem?_eq_getElem hk)⟩
  have := hc 0 vs[k] rfl
  simpa using this
theorem OwRows.rd {e ei : TypeId} {w : World} {S : List Nat} {v : Value} {ll : List (List Int)} (h : OwRows e ei w S v ll) : RdRows w v ll := by
  obtain ⟨vs, h1, h2, h3, _⟩ := h
  refine ⟨vs, ?_, h1, fun i v' l hv hl => RdS.of_own (h3 i v' l hv hl)⟩
  have := RdS.of_own h2
  rw [← flat_cVal vs] at this
  unfold RdL
  rw [flat_cVal] at this ⊢
  exact this
theorem RowsOwn.below {ei : TypeId} {w w' : World} {vs : List Value} {ll : List (List Int)} (h : RowsOwn ei w vs ll) (hb : Below w.heap.size w w') : RowsOwn ei w' vs ll :=
  fun i v' l hv hl => own_below (h i v' l hv hl) hb
theorem mem_blocks {vs : List Value} {i : Nat} {v : Value} (h : vs[i]? = some v) : ∀ b ∈ v.ownBlock.toList, b ∈ blocksOf vs :=
  fun b hb => List.mem_flatMap.2 ⟨v, List.mem_of_getElem? h, hb⟩
theorem RowsOwn.chg {ei : TypeId} {w w' : World} {vs : List Value} {ll : List (List Int)} {T : List Nat} (h : RowsOwn ei w vs ll) (hc : Chg T w w') (hn : ∀ b ∈ blocksOf vs, b ∉ T) : RowsOwn ei w' vs ll :=
  fun i v' l hv hl => own_chg (h i v' l hv hl) hc (fun b hb => hn b (mem_blocks hv b hb))
theorem OwRows.below {e ei : TypeId} {w w' : World} {S : List Nat} {v : Value} {ll : List (List Int)} (h : OwRows e ei w S v ll) (hb : Below w.heap.size w w') : OwRows e ei w' S v ll := by
  obtain ⟨vs, h1, h2, h3, h4⟩ := h
  exact ⟨vs, h1, own_below h2 hb, h3.below hb, h4⟩
theorem OwRows.chg {e ei : TypeId} {w w' : World} {S T : List Nat} {v : Value} {ll : List (List Int)} (h : OwRows e ei w S v ll) (hc : Chg T w w') (hn : ∀ b ∈ S, b ∉ T) : OwRows e ei w' S v ll := by
  obtain ⟨vs, h1, h2, h3, rfl⟩ := h
  exact ⟨vs, h1, own_chg h2 hc (fun b hb => hn b (by simp [hb])), h3.chg hc (fun b hb => hn b (by simp [hb])), rfl⟩
def rowsTot (ll : List (List Int)) : Nat := ll.length + (ll.map List.length).sum
theorem infoRow : (Try.prog.info? 24).map (fun i => (i.zero, i.size, i.bytes)) = some (some (.slice none 0 0), 1, 24) := by kernel_rfl
theorem blocks_snoc (vs : List Value) (v : Value) : blocksOf (vs ++ [v]) = blocksOf vs ++ v.ownBlock.toList := by unfold blocksOf; rw [List.flatMap_append]; simp

set_option maxHeartbeats 1000000 in
theorem szIntSS_any (v : Value) (ll : List (List Int)) (m : Int) (w : World) (h : RdRows w v ll) (hm : 0 ≤ m ∧ m ≤ 1048576) :
    Calls Try.prog 25 #[v, .int .i64 m] w (SzPost m (rowsTot ll) w) := by
  obtain ⟨A, c, rfl, h1, h2⟩ := h.form
  by_cases hlt : m < ll.length
  · go_enter Try.func25, Try.ntmps25
    go_wp2_with fail
    go_ret
    exact ⟨-1, rfl, rfl, by omega, by omega⟩
  · go_enter Try.func25, Try.ntmps25
    go_wp2_with fail
    go_loop [1, 5] (fun t i => ∃ k : Nat, k ≤ ll.length ∧ i = .int .i64 k ∧ ∃ r : Int, t = .int .i64 r ∧ 0 ≤ r ∧ r ≤ m ∧ Hid ((ll.length : Int) + (((ll.take k).map List.length).sum : Nat) = m - r)) (fun _ i => ll.length - (intOf i).toNat)
    case atStart => exact ⟨0, Nat.zero_le _, rfl, _, rfl, by omega, by omega, by simp [Hid]; omega⟩
    case round =>
      obtain ⟨k, hk, rfl, r, rfl, hr0, hr1, hr⟩ := hrel
      by_cases hlt : k < ll.length
      · obtain ⟨g, off, u, rfl, hg, k0, hru⟩ := h.cell hlt
        have Hst := Lib.hid (sum_take_succ List.length ll hlt)
        go_wp2_with fail
        refine (szIntS_any u ll[k] r _ hru (by omega)).mono ?_
        rintro e w' ⟨r', rfl, rfl, hr2, hr3⟩
        have Hr3 := Lib.hid hr3
        clear hr3
        by_cases hneg : r' < 0
        · go_wp2_with fail
          go_ret
          exact ⟨-1, rfl, rfl, by omega, by omega⟩
        · go_wp2_with fail
          go_round
          case rel => exact ⟨k + 1, by omega, by go_num, _, rfl, by omega, by omega, by have a := hr.out; have b := Hst.out; have c := Hr3.out (by omega); show _ = _; omega⟩
          case measure => simp [intOf]; omega
      · go_wp2_with fail
        go_ret
        refine ⟨r, rfl, rfl, hr1, fun _ => ?_⟩
        have := hr.out
        rw [List.take_of_length_le (by omega)] at this
        unfold rowsTot
        omega
set_option maxHeartbeats 1000000 in
set_option maxRecDepth 100000 in
theorem eqIntSS_any (v v' : Value) (ll : List (List Int)) (w : World) (h : RdRows w v ll) (hq : RdRows w v' ll) :
    Calls Try.prog 29 #[v, v'] w fun e w' => e = .returned (.bool true) ∧ Below w.heap.size w w' := by
  obtain ⟨A, c, rfl, h1, h2⟩ := h.form
  obtain ⟨A', c', rfl, h1', h2'⟩ := hq.form
  go_enter Try.func29, Try.ntmps29
  go_wp2_with fail
  go_loopw [5] (fun i wr => ∃ k : Nat, k ≤ ll.length ∧ i = .int .i64 k ∧ Below w.heap.size w wr) (fun i _ => ll.length - (intOf i).toNat)
  case atStart => exact ⟨0, Nat.zero_le _, rfl, by (repeat' (first | exact Below.refl _ _ | (refine Below.setCell ?_ (by first | omega | (simp; omega) | (simp; done)) _) | (refine Below.alloc ?_ (by first | omega | (simp; omega) | (simp; done)) _) | (refine Below.drew ?_) | (refine below_drewN ?_ _) | (refine Below.trans ?_ (Below.mono (by assumption) (by first | omega | (simp; omega) | (simp; done))))))⟩
  case round =>
    obtain ⟨k, hk, rfl, hb⟩ := hrel
    have hz := hb.size
    by_cases hlt : k < ll.length
    · obtain ⟨g, off, u, rfl, hg, k0, hru⟩ := (h.below hb).cell hlt
      obtain ⟨g', off', u', rfl, hg', k1, hru'⟩ := (hq.below hb).cell hlt
      go_wp2_with fail
      go_still_tail 8, (by kernel_rfl)
      change wpList _ _ _ _ _ wr.drew
      go_wp2_with (go_at_call 34; refine (eqIntS_any u u' ll[k] wr.drew hru hru').mono ?_; rintro e w' ⟨rfl, hb'⟩)
      go_roundw
      case rel => exact ⟨k + 1, by omega, by go_num, by (repeat' (first | exact Below.refl _ _ | (refine Below.setCell ?_ (by first | omega | (simp; omega) | (simp; done)) _) | (refine Below.alloc ?_ (by first | omega | (simp; omega) | (simp; done)) _) | (refine Below.drew ?_) | (refine below_drewN ?_ _) | (refine Below.trans ?_ (Below.mono (by assumption) (by first | omega | (simp; omega) | (simp; done))))))⟩
      case measure => simp [intOf]; omega
    · go_wp2_with fail
      go_ret
      exact ⟨rfl, by (repeat' (first | exact Below.refl _ _ | (refine Below.setCell ?_ (by first | omega | (simp; omega) | (simp; done)) _) | (refine Below.alloc ?_ (by first | omega | (simp; omega) | (simp; done)) _) | (refine Below.drew ?_) | (refine below_drewN ?_ _) | (refine Below.trans ?_ (Below.mono (by assumption) (by first | omega | (simp; omega) | (simp; done))))))⟩
set_option maxHeartbeats 1000000 in
set_option maxRecDepth 100000 in
theorem toIntSS_any (v : Value) (ll : List (List Int)) (w : World) (h : RdRows w v ll) (hl : rowsTot ll ≤ 1048576) :
    Calls Try.prog 27 #[v] w fun e w' => ∃ v' S, e = .returned v' ∧ OwRows 24 3 w' S v' ll ∧ Fresh w.heap.size w' S ∧ Below w.heap.size w w' := by
  obtain ⟨A, c, rfl, h1, h2⟩ := h.form
  obtain ⟨i0, hi0, hz0, hz1, hz2⟩ := info_parts infoRow
  have hll : ll.length ≤ 1048576 := by unfold rowsTot at hl; omega
  go_enter Try.func27, Try.ntmps27
  go_wp2_with (at_make; refine wpList_make_full _ rfl _ _ _ rfl w.heap.size 24 i0 _ 1 Try.underlying38 hi0 hz0 hz1 _ _ _ _ ll.length rfl rfl rfl rfl (by rw [hz2]; omega) (by simp [maxLen]; omega) (Nat.le_refl _) ?_; intro w1 hown hgr)
  have hb1 : Below w.heap.size w w1 := (Below.refl _ _).grown hgr (Nat.le_refl _) (by simp)
  have hlt1 := hown.lt w.heap.size rfl
  go_loopw [4] (fun i wr => ∃ (k : Nat) (xs vs : List Value), k ≤ ll.length ∧ i = .int .i64 k ∧ wr.ownsRow w.heap.size 24 1 (.slice (some ⟨w.heap.size, 0, none⟩) ll.length ll.length) ll.length xs ∧ Hid (xs.take k = vs) ∧ Hid (vs.length = k) ∧ RowsOwn 3 wr vs (ll.take k) ∧ Fresh (w.heap.size + 1) wr (blocksOf vs) ∧ Below w.heap.size w wr) (fun i _ => ll.length - (intOf i).toNat)
  case atStart => exact ⟨0, _, [], Nat.zero_le _, rfl, hown, by simp [Hid], by rfl, fun i v' l hv => by simp at hv, ⟨by simp [blocksOf], by simp [blocksOf]⟩, hb1⟩
  case round =>
    obtain ⟨k, xs, vs, hk, rfl, hown, ht, hvl, hrows, hfr, hb⟩ := hrel
    have hz := hb.size
    by_cases hlt : k < ll.length
    · obtain ⟨g, off, u, rfl, hg, k0, hru⟩ := (h.below hb).cell hlt
      have hxl := hown.1
      obtain ⟨u0, c0⟩ : ∃ u, wr.cell? ⟨w.heap.size, k, none⟩ = some u := ⟨_, (hown.cellAt k (by omega)).trans (List.getElem?_eq_getElem (by omega))⟩
      have f0 := hown.frozenAt k
      have hlo := (hown.lt w.heap.size rfl).2
      have Hxl := Lib.hid hxl
      clear hxl
      have hlk : ll[k].length ≤ 1048576 := by
        have := sum_take_succ List.length ll hlt
        have h3 : ((ll.take (k + 1)).map List.length).sum ≤ (ll.map List.length).sum := by
          conv => rhs; rw [← List.take_append_drop (k + 1) ll, List.map_append, List.sum_append_nat]
          omega
        unfold rowsTot at hl
        omega
      go_wp2_with fail
      refine (toIntS_any u ll[k] _ hru hlk).mono ?_
      rintro e w' ⟨v', rfl, hown', hb'⟩
      obtain ⟨A1, c1, hv1, _, _⟩ := (RdS.of_own hown').form
      subst hv1
      have d0 := carry hb' c0
      have g0 := carryF hb' c0 f0
      have hz' := hb'.size
      have ho1 := (own_below hown hb').stored k (.slice A1 ll[k].length c1)
      have hchg : Chg [w.heap.size] w' (w'.setCell ⟨w.heap.size, k, none⟩ (.slice A1 ll[k].length c1)) := Chg.mono (Chg.of_grown (v := .slice (some ⟨w.heap.size, 0, none⟩) 0 0) (grown_setCell (World.grownBy.refl w' _) rfl _)) (by simp [Value.ownBlock])
      have hfv := fresh_of hown'
      clear c0 f0 k0
      go_wp2_with fail
      go_roundw
      case rel =>
        refine ⟨k + 1, _, vs ++ [.slice A1 ll[k].length c1], by omega, by go_num, ho1.1, ?_, by simp [Hid, hvl.out], ?_, ?_, by (repeat' (first | exact Below.refl _ _ | (refine Below.setCell ?_ (by first | omega | (simp; omega) | (simp; done)) _) | (refine Below.alloc ?_ (by first | omega | (simp; omega) | (simp; done)) _) | (refine Below.drew ?_) | (refine below_drewN ?_ _) | (refine Below.trans ?_ (Below.mono (by assumption) (by first | omega | (simp; omega) | (simp; done))))))⟩
        · show _ = _
          exact size_set1 _ ht.out (by rw [Hxl.out]; omega)
        · intro i x l hx hl'
          by_cases hi : i < vs.length
          · rw [List.getElem?_append_left hi] at hx
            have hik : i < k := by rw [← hvl.out]; exact hi
            refine own_chg (own_below (hrows i x l hx ?_) hb') hchg ?_
            · rw [List.getElem?_take] at hl' ⊢
              rw [if_pos hik]; rw [if_pos (by omega)] at hl'; exact hl'
            · intro b hbm
              have := hfr.2 b (mem_blocks hx b hbm)
              simp; omega
          · have hik : i = k := by
              have := (List.getElem?_eq_some_iff.1 hx).1
              have e := hvl.out
              simp at this; omega
            subst hik
            rw [List.getElem?_append_right (by have := hvl.out; omega), hvl.out, Nat.sub_self] at hx
            simp at hx
            subst hx
            rw [List.getElem?_take, if_pos (by omega), List.getElem?_eq_getElem hlt] at hl'
            injection hl' with hl'
            subst hl'
            exact own_chg (own_mono hown' (Nat.zero_le _)) hchg (fun b hbm => by have := hfv.2 b hbm; simp; omega)
        · rw [blocks_snoc]
          refine ⟨List.nodup_append.2 ⟨hfr.1, hfv.1, fun a ha b hb' e => ?_⟩, fun b hbm => ?_⟩
          · have := hfr.2 a ha
            have := hfv.2 b hb'
            omega
          · rw [World.size_setCell]
            rcases List.mem_append.1 hbm with hbm | hbm
            · have := hfr.2 b hbm; omega
            · have := hfv.2 b hbm; omega
      case measure => simp [intOf]; omega
    · obtain rfl : k = ll.length := by omega
      go_wp2_with fail
      go_ret
      have hlo := (hown.lt w.heap.size rfl).2
      have e := ht.out
      rw [List.take_of_length_le (by rw [hown.1]; omega)] at e
      subst e
      rw [List.take_length] at hrows
      refine ⟨_, _, rfl, ⟨xs, hvl.out, ?_, hrows, rfl⟩, ?_, by (repeat' (first | exact Below.refl _ _ | (refine Below.setCell ?_ (by first | omega | (simp; omega) | (simp; done)) _) | (refine Below.alloc ?_ (by first | omega | (simp; omega) | (simp; done)) _) | (refine Below.drew ?_) | (refine below_drewN ?_ _) | (refine Below.trans ?_ (Below.mono (by assumption) (by first | omega | (simp; omega) | (simp; done))))))⟩
      · rw [hvl.out]; exact own_mono hown (Nat.zero_le _)
      · refine ⟨List.nodup_append.2 ⟨by simp [Value.ownBlock], hfr.1, fun a ha b hb' e => ?_⟩, fun b hbm => ?_⟩
        · have := hfr.2 b hb'
          simp [Value.ownBlock] at ha
          omega
        · rcases List.mem_append.1 hbm with hbm | hbm
          · simp [Value.ownBlock] at hbm; omega
          · have := hfr.2 b hbm; omega
end Go.Proofs.Ythponccjbbkhaaa
