/- Contracts: PointsOf, FirstByPoints. -/
import Derived.Test.YtkejgogheonakaaV3
import Derived.StillTailTactics
namespace Go.Proofs.Ytkejgogheonakaa
open Go.RowKit

def ptsF (vv : List (List Int)) : List Int := if votesB vv = true then ptsL (vv.getD 0 []).length vv else []
theorem ptsF_len (vv : List (List Int)) : (ptsF vv).length ≤ 7 := by
  unfold ptsF
  split
  · rename_i h; rw [ptsL_len]; have := votes_vote h; omega
  · simp
def fptF (vv : List (List Int)) : Int := if votesB vv = true then (bestTo (ptsF vv) (ptsF vv).length : Int) else -1
theorem bestTo_one (p : List Int) : bestTo p 1 = 0 := by simp [bestTo]
theorem fptF_t {vv : List (List Int)} (h : votesB vv = true) : fptF vv = bestTo (ptsF vv) (ptsF vv).length := if_pos h
theorem fptF_f {vv : List (List Int)} (h : votesB vv = false) : fptF vv = -1 := if_neg (by rw [h]; simp)
theorem ptsF_t {vv : List (List Int)} (h : votesB vv = true) {n : Nat} (hn : (vv.getD 0 []).length = n) : ptsF vv = ptsL n vv := by rw [ptsF, if_pos h, hn]
theorem ptsF_f {vv : List (List Int)} (h : votesB vv = false) : ptsF vv = [] := if_neg (by rw [h]; simp)
theorem votes_n {vv : List (List Int)} (h : votesB vv = true) : ∃ n, (1 ≤ n ∧ n ≤ 7) ∧ (1 ≤ vv.length ∧ vv.length ≤ 15) ∧ (vv.getD 0 []).length = n ∧ ∀ m (hm : m < vv.length), orderB vv[m] = true ∧ Vote n vv[m] := by
  obtain ⟨h1, h2, h3⟩ := votes_vote h
  exact ⟨_, h2, h1, rfl, fun m hm => h3 _ (List.getElem_mem hm)⟩
theorem flat_cInt (l : List Int) : l.flatMap cInt = l.map (fun n => Value.int .i64 n) := by
  induction l with
  | nil => rfl
  | cons a l ih => rw [List.flatMap_cons, ih]; rfl
theorem made_zero (n : Nat) : (madeCells (Value.int .i64 0).cells n).toList = (List.replicate n (0 : Int)).flatMap cInt := by
  rw [flat_cInt]
  apply List.ext_getElem
  · simp [madeCells]
  · intro i h1 h2
    simp [madeCells, Value.cells, Nat.mod_one]
theorem flat_get1 (l : List Int) (q : Nat) (h : q < l.length) : (l.flatMap cInt)[q]? = some (.int .i64 l[q]) := by
  have := get_flat cInt_len l q h 0 (by omega)
  simpa [cInt] using this

set_option maxHeartbeats 2000000 in
set_option maxRecDepth 100000 in
theorem implPointsOf_any (v : Value) (vv : List (List Int)) (w : World) (h : RdRows w v vv) :
    Calls Try.prog 15 #[v] w fun e w' => ∃ v', e = .returned v' ∧ w'.ownsRow w.heap.size 3 1 v' (ptsF vv).length ((ptsF vv).flatMap cInt) ∧ Below w.heap.size w w' := by
  have h0 := h
  obtain ⟨A, c, rfl, h1, h2⟩ := h.form
  obtain ⟨i0, hi0, hz0, hz1, hz2⟩ := info_parts infoInt
  have hcon := fun W (h : RdRows W (.slice A vv.length c) vv) => implVotesOk_any _ vv W h
  cases hv : votesB vv <;> rw [hv] at hcon <;> have Hv := Lib.hid hv <;> have Hcon := Lib.hid hcon <;> clear hcon
  · clear hv
    go_enter Try.func15, Try.ntmps15
    go_wp2_with (go_at_call 21; refine (Hcon.out _ h0).mono ?_; rintro e w' ⟨rfl, hb⟩)
    go_ret
    rw [ptsF_f Hv.out]
    exact ⟨_, rfl, World.ownsRow_nil _ _ _ _, by (repeat' (first | exact Below.refl _ _ | (refine Below.setCell ?_ (by first | omega | (simp; omega) | (simp; done)) _) | (refine Below.alloc ?_ (by first | omega | (simp; omega) | (simp; done)) _) | (refine Below.drew ?_) | (refine below_drewN ?_ _) | (refine Below.trans ?_ (Below.mono (by assumption) (by first | omega | (simp; omega) | (simp; done))))))⟩
  · obtain ⟨n, hl2, hl1, hn, hvt⟩ := votes_n hv
    have hpf := ptsF_t hv hn
    have Hpf := Lib.hid hpf
    have Hvt := Lib.hid hvt
    clear hpf hn hv hvt
    obtain ⟨g, off, u, rfl, hg, k0, hru⟩ := h0.cell (k := 0) (by omega)
    simp only [Nat.add_zero] at k0
    obtain ⟨A1, c1, rfl, _, _⟩ := hru.form
    rw [(Hvt.out 0 (by omega)).2.len] at k0
    clear hru
    go_enter Try.func15, Try.ntmps15
    go_wp2_with (first
      | (go_at_call 21; refine (Hcon.out _ h0).mono ?_; rintro e w1 ⟨rfl, hb1⟩; replace k0 := carry hb1 k0; have hz1' := hb1.size)
      | (at_make; refine wpList_make_full _ rfl _ _ _ rfl w.heap.size 3 i0 _ 1 Try.underlying26 hi0 hz0 hz1 _ _ _ _ n rfl rfl rfl rfl (by rw [hz2]; omega) (by simp [maxLen]; omega) (by omega) ?_; intro w2 hown hgr))
    have hb2 : Below w.heap.size w w2 := hb1.grown hgr (by omega) (by simp)
    have hz2' := hgr.size
    have hown0 : w2.ownsRow w.heap.size 3 1 (.slice (some ⟨w1.heap.size, 0, none⟩) n n) n ((ptsAt n vv 0 [] 0).flatMap cInt) := by
      rw [ptsAt_zero, ← made_zero]
      rw [Nat.mul_one] at hown
      exact hown
    clear hown hgr
    go_loopw [18] (fun i wr => ∃ m : Nat, m ≤ vv.length ∧ i = .int .i64 m ∧ wr.ownsRow w.heap.size 3 1 (.slice (some ⟨w1.heap.size, 0, none⟩) n n) n ((ptsAt n vv m [] 0).flatMap cInt) ∧ Below w.heap.size w wr) (fun i _ => vv.length - (intOf i).toNat)
    case atStart => exact ⟨0, Nat.zero_le _, rfl, hown0, hb2⟩
    case round =>
      obtain ⟨m, hm, rfl, hown, hbr⟩ := hrel
      have hzr := hbr.size
      by_cases hlt : m < vv.length
      · obtain ⟨g', off', u', hA, hg', k1, hru'⟩ := h0.cell hlt
        injection hA with hA
        injection hA with e1 e2
        subst e1 e2
        obtain ⟨A2, c2, rfl, h3, h4⟩ := hru'.form
        have hrv := (Hvt.out m hlt).2
        rw [hrv.len] at k1
        have kw := k1
        replace k1 := cell_below hbr (Nat.le_refl _) _ _ k1
        have hbd := fun q hq => ptsTo_bd n (by omega) (vv.take m) (fun v hv => by obtain ⟨i, hi, e⟩ := List.getElem_of_mem hv; rw [← e, List.getElem_take]; exact (Hvt.out i (by simp at hi; omega)).2) q hq
        rw [List.length_take, Nat.min_eq_left hm] at hbd
        have Hbd := Lib.hid hbd
        have Hrv := Lib.hid hrv
        have Hnext := Lib.hid (ptsAt_row n vv m hlt hrv [])
        have hown1 : wr.ownsRow w.heap.size 3 1 (.slice (some ⟨w1.heap.size, 0, none⟩) n n) n ((ptsAt n vv m vv[m] 0).flatMap cInt) := by
          have e : ptsAt n vv m vv[m] 0 = ptsAt n vv m [] 0 := by
            apply List.ext_getElem
            · simp [ptsAt]
            · intro i h1 h2; simp [ptsAt, ptsPart]
          rw [e]; exact hown
        clear hrv hbd hown
        go_wp2_with fail
        obtain ⟨wo, rfl⟩ : ∃ wo : World, wo = wr := ⟨_, rfl⟩
        go_loopw [24] (fun i wi => ∃ j : Nat, j ≤ n ∧ i = .int .i64 j ∧ wi.ownsRow w.heap.size 3 1 (.slice (some ⟨w1.heap.size, 0, none⟩) n n) n ((ptsAt n vv m vv[m] j).flatMap cInt) ∧ Below w.heap.size w wi) (fun i _ => n - (intOf i).toNat)
        case atStart => exact ⟨0, Nat.zero_le _, rfl, hown1, hbr⟩
        case round =>
          obtain ⟨j, hj, rfl, hown, hbi⟩ := hrel
          by_cases hltj : j < n
          · have hjr : j < vv[m].length := by rw [Hrv.out.len]; exact hltj
            rw [← Hrv.out.len] at k1
            have kr := cell_below hbi (Nat.le_refl _) _ _ kw
            rw [← Hrv.out.len] at kr
            obtain ⟨q, hq, hqn⟩ : ∃ q : Nat, vv[m][j] = (q : Int) ∧ q < n := by
              have hb := Hrv.out.bd _ (List.getElem_mem hjr)
              exact ⟨vv[m][j].toNat, by omega, by omega⟩
            obtain ⟨g3, off3, rfl, hg3, hc3⟩ := (hru'.below hbi).cell cInt_len (by omega) hjr
            have k2 := hc3 0 _ rfl
            simp only [Nat.add_zero, Nat.mul_one] at k2
            rw [hq] at k2
            clear hc3
            have hlen := ptsAt_len n vv m vv[m] j
            have hb0 := Hbd.out q hqn
            have hget := ptsAt_get n vv m vv[m] Hrv.out j hjr q hq hqn
            have k3 := hown.cellAt q (by omega)
            rw [flat_get1 _ q (by omega), hget] at k3
            have f3 := hown.frozenAt q
            have hst := (hown.stored q (.int .i64 (ptsTo n (vv.take m) q + ((n : Int) - 1 - j)))).1
            rw [flat_set1 cInt_len (ptsAt n vv m vv[m] j) q (by omega) _ (ptsTo n (vv.take m) q + ((n : Int) - 1 - j)) rfl, ptsAt_succ n vv m vv[m] Hrv.out j hjr q hq hqn] at hst
            have Hq := Lib.hid hq
            clear hq hget
            generalize ptsTo n (vv.take m) q = pq at *
            have hge := (hown.lt w1.heap.size rfl).1
            have hw := IntWalk.i64_in (pq + ((n : Int) - 1 - j)) (by omega)
            clear hlen
            go_wp2_with fail
            go_roundw
            case rel => exact ⟨j + 1, by omega, by go_num, hst, by (repeat' (first | exact Below.refl _ _ | (refine Below.setCell ?_ (by first | omega | (simp; omega) | (simp; done)) _) | (refine Below.alloc ?_ (by first | omega | (simp; omega) | (simp; done)) _) | (refine Below.drew ?_) | (refine below_drewN ?_ _) | (refine Below.trans ?_ (Below.mono (by assumption) (by first | omega | (simp; omega) | (simp; done))))))⟩
            case measure => simp [intOf]; omega
          · obtain rfl : j = n := by omega
            rw [Hnext.out] at hown
            go_wp2_with fail
            go_roundw
            case rel => exact ⟨m + 1, by omega, by go_num, hown, hbi⟩
            case measure => simp [intOf]; omega
      · obtain rfl : m = vv.length := by omega
        go_wp2_with fail
        go_ret
        rw [ptsAt_end] at hown
        rw [Hpf.out, ptsL_len]
        exact ⟨_, rfl, hown, hbr⟩

set_option maxHeartbeats 2000000 in
set_option maxRecDepth 100000 in
theorem implFirstByPoints_any (v : Value) (vv : List (List Int)) (w : World) (h : RdRows w v vv) :
    Calls Try.prog 17 #[v] w fun e w' => e = .returned (.int .i64 (fptF vv)) ∧ Below w.heap.size w w' := by
  have h0 := h
  obtain ⟨A, c, rfl, h1, h2⟩ := h.form
  have hcon := fun W (h : RdRows W (.slice A vv.length c) vv) => implVotesOk_any _ vv W h
  have Hcp := Lib.hid (fun W (h : RdRows W (.slice A vv.length c) vv) => implPointsOf_any _ vv W h)
  cases hv : votesB vv <;> rw [hv] at hcon <;> have Hv := Lib.hid hv <;> have Hcon := Lib.hid hcon <;> clear hcon
  · clear hv
    go_enter Try.func17, Try.ntmps17
    go_wp2_with (go_at_call 21; refine (Hcon.out _ h0).mono ?_; rintro e w' ⟨rfl, hb⟩)
    go_ret
    exact ⟨ret_int (fptF_f Hv.out).symm, by (repeat' (first | exact Below.refl _ _ | (refine Below.setCell ?_ (by first | omega | (simp; omega) | (simp; done)) _) | (refine Below.alloc ?_ (by first | omega | (simp; omega) | (simp; done)) _) | (refine Below.drew ?_) | (refine below_drewN ?_ _) | (refine Below.trans ?_ (Below.mono (by assumption) (by first | omega | (simp; omega) | (simp; done))))))⟩
  · obtain ⟨n, hl2, hl1, hn, hvt⟩ := votes_n hv
    have hft := fptF_t hv
    have hpl : (ptsF vv).length = n := by rw [ptsF_t hv hn, ptsL_len]
    have Hft := Lib.hid hft
    clear hft hn hv hvt
    generalize ptsF vv = p at *
    go_enter Try.func17, Try.ntmps17
    go_wp2_with (go_at_call 21; refine (Hcon.out _ h0).mono ?_; rintro e w1 ⟨rfl, hb1⟩)
    refine (Hcp.out _ (h0.below hb1)).mono ?_
    rintro e w2 ⟨v2, rfl, hown, hb2⟩
    obtain ⟨A2, c2, rfl, h3, h4⟩ := (RdS.of_own hown).form
    simp only [maxLen] at h4
    have hp0 : 0 < p.length := by omega
    have hrd : RdL cInt 1 w2 (.slice A2 p.length c2) p := RdS.of_own hown
    have Hpl := Lib.hid hpl
    have hp7 : p.length ≤ 7 := by omega
    clear hpl hown
    go_wp2_with fail
    go_loop [3, 14] (fun b i => ∃ k : Nat, k ≤ p.length ∧ i = .int .i64 k ∧ b = .int .i64 (bestTo p k)) (fun _ i => p.length - (intOf i).toNat)
    case atStart => exact ⟨0, Nat.zero_le _, rfl, rfl⟩
    case round =>
      obtain ⟨k, hk, rfl, rfl⟩ := hrel
      by_cases hlt : k < p.length
      · have hbl := bestTo_lt p k hp0 hk
        have hs1 := bestTo_t (l := p) (k := k)
        have hs2 := bestTo_f (l := p) (k := k)
        rw [getD_get p k hlt, getD_get p _ hbl] at hs1 hs2
        have Hs1 := Lib.hid hs1
        have Hs2 := Lib.hid hs2
        clear hs1 hs2
        generalize bestTo p k = b at *
        obtain ⟨g, off, rfl, hg, hc⟩ := hrd.cell cInt_len (by omega) hlt
        have k0 := hc 0 _ rfl
        obtain ⟨g', off', hA, hg', hc'⟩ := hrd.cell cInt_len (by omega) hbl
        injection hA with hA
        injection hA with e1 e2
        subst e1 e2
        have k1 := hc' 0 _ rfl
        simp only [Nat.add_zero, Nat.mul_one] at k0 k1
        clear hc hc'
        by_cases hd : p[b] < p[k]
        · go_wp2_with fail
          go_round
          case rel => exact ⟨k + 1, by omega, by go_num, int_eq (by rw [Hs1.out hd])⟩
          case measure => simp [intOf]; omega
        · go_wp2_with fail
          go_round
          case rel => exact ⟨k + 1, by omega, by go_num, int_eq (by rw [Hs2.out hd])⟩
          case measure => simp [intOf]; omega
      · obtain rfl : k = p.length := by omega
        go_wp2_with fail
        go_ret
        exact ⟨ret_int Hft.out.symm, bl_trans hb1 hb2⟩
end Go.Proofs.Ytkejgogheonakaa
