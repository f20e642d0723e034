/- Contracts: beats, FirstByPairs. -/
import Derived.Test.YtkejgogheonakaaV4
namespace Go.Proofs.Ytkejgogheonakaa
open Go.RowKit

theorem beatB_t {vv : List (List Int)} {i k : Nat} (h : (vv.length : Int) < 2 * (befN vv i k : Int)) : beatB vv i k = true := by rw [beatB]; exact decide_eq_true h
theorem beatB_f {vv : List (List Int)} {i k : Nat} (h : ¬ (vv.length : Int) < 2 * (befN vv i k : Int)) : beatB vv i k = false := by rw [beatB]; exact decide_eq_false h
theorem inB_nat {n i : Nat} (h : i < n) : inB (i : Int) 0 ((n : Int) - 1) = true := inB_iff.2 ⟨by omega, by omega⟩
set_option maxHeartbeats 1000000 in
theorem beats_any (v : Value) (vv : List (List Int)) (n : Nat) (i k : Nat) (w : World) (h : RdRows w v vv) (hv : votesB vv = true) (hn : (vv.getD 0 []).length = n) (hi : i < n) (hk : k < n) (hik : i ≠ k) :
    Calls Try.prog 72 #[v, .int .i64 i, .int .i64 k] w fun e w' => e = .returned (.bool (beatB vv i k)) ∧ Below w.heap.size w w' := by
  have h0 := h
  obtain ⟨A, c, rfl, h1, h2⟩ := h.form
  have hp := pref_t hv (i := i) (k := k) (by omega) (by rw [hn]; exact inB_nat hi) (by rw [hn]; exact inB_nat hk)
  have hl := befN_le vv i k
  have hv15 := (votes_vote hv).1
  have Hp := Lib.hid (implPrefers_any _ vv i k w h0)
  have Hb : Hid (beatB vv i k = decide ((vv.length : Int) < 2 * (befN vv i k : Int))) := rfl
  rw [hp] at Hp
  clear hp hv hn
  generalize beatB vv i k = b at *
  generalize befN vv i k = q at *
  go_enter Try.func72, Try.ntmps72
  go_wp2_with (go_at_call 18; refine Hp.out.mono ?_; rintro e w' ⟨rfl, hb⟩)
  go_ret
  exact ⟨ret_bool Hb.out.symm, by (repeat' (first | exact Below.refl _ _ | (refine Below.setCell ?_ (by first | omega | (simp; omega) | (simp; done)) _) | (refine Below.alloc ?_ (by first | omega | (simp; omega) | (simp; done)) _) | (refine Below.drew ?_) | (refine below_drewN ?_ _) | (refine Below.trans ?_ (Below.mono (by assumption) (by first | omega | (simp; omega) | (simp; done))))))⟩
def fbpF (vv : List (List Int)) : Int := if votesB vv = true ∧ fbpN vv (vv.getD 0 []).length < (vv.getD 0 []).length then (fbpN vv (vv.getD 0 []).length : Int) else -1
theorem fbpF_f {vv : List (List Int)} (h : votesB vv = false) : fbpF vv = -1 := if_neg (by rw [h]; simp)
theorem fbpF_at {vv : List (List Int)} (h : votesB vv = true) {n i : Nat} (hn : (vv.getD 0 []).length = n) (hi : i < n) (h1 : (List.range i).all (fun k => !(fbpB vv n k)) = true) (h2 : fbpB vv n i = true) : fbpF vv = i := by
  have e : fbpN vv n = i := by
    unfold fbpN
    rw [List.findIdx_eq (by simpa using hi)]
    refine ⟨by simpa using h2, fun j hj => ?_⟩
    have := List.all_eq_true.1 h1 j (by simpa using hj)
    simpa using this
  rw [fbpF, hn, e, if_pos ⟨h, hi⟩]
theorem fbpF_none {vv : List (List Int)} {n : Nat} (hn : (vv.getD 0 []).length = n) (h1 : (List.range n).all (fun k => !(fbpB vv n k)) = true) : fbpF vv = -1 := by
  rw [fbpF, hn, if_neg]
  rintro ⟨_, hlt⟩
  have hl : (List.range n).findIdx (fbpB vv n) < (List.range n).length := by simpa [fbpN] using hlt
  have hg := List.findIdx_getElem (w := hl)
  have := List.all_eq_true.1 h1 _ (List.getElem_mem hl)
  rw [hg] at this
  simp at this
/-- the flag of the inner loop: whether i is before each k below j -/
def fbpTo (vv : List (List Int)) (i j : Nat) : Bool := (List.range j).all (fun k => decide (i = k) || beatB vv i k)
theorem fbpTo_succ (vv : List (List Int)) (i j : Nat) : fbpTo vv i (j + 1) = (fbpTo vv i j && (decide (i = j) || beatB vv i j)) := by
  unfold fbpTo; rw [List.range_succ, List.all_append]; simp
set_option maxHeartbeats 4000000 in
set_option maxRecDepth 100000 in
theorem implFirstByPairs_any (v : Value) (vv : List (List Int)) (w : World) (h : RdRows w v vv) :
    Calls Try.prog 16 #[v] w fun e w' => e = .returned (.int .i64 (fbpF vv)) ∧ Below w.heap.size w w' := by
  have h0 := h
  obtain ⟨A, c, rfl, h1, h2⟩ := h.form
  have hcon := fun W (h : RdRows W (.slice A vv.length c) vv) => implVotesOk_any _ vv W h
  cases hv : votesB vv <;> rw [hv] at hcon <;> have Hv := Lib.hid hv <;> have Hcon := Lib.hid hcon <;> clear hcon
  · clear hv
    go_enter Try.func16, Try.ntmps16
    go_wp2_with (go_at_call 21; refine (Hcon.out _ h0).mono ?_; rintro e w' ⟨rfl, hb⟩)
    go_ret
    exact ⟨ret_int (fbpF_f Hv.out).symm, by (repeat' (first | exact Below.refl _ _ | (refine Below.setCell ?_ (by first | omega | (simp; omega) | (simp; done)) _) | (refine Below.alloc ?_ (by first | omega | (simp; omega) | (simp; done)) _) | (refine Below.drew ?_) | (refine below_drewN ?_ _) | (refine Below.trans ?_ (Below.mono (by assumption) (by first | omega | (simp; omega) | (simp; done))))))⟩
  · obtain ⟨n, hl2, hl1, hn, hvt⟩ := votes_n hv
    have Hvt := Lib.hid hvt
    have Hn := Lib.hid hn
    clear hn hv hvt
    obtain ⟨g, off, u, rfl, hg, k0, hru⟩ := h0.cell (k := 0) (by omega)
    simp only [Nat.add_zero] at k0
    obtain ⟨A1, c1, rfl, _, _⟩ := hru.form
    rw [(Hvt.out 0 (by omega)).2.len] at k0
    clear hru
    go_enter Try.func16, Try.ntmps16
    go_wp2_with (go_at_call 21; refine (Hcon.out _ h0).mono ?_; rintro e w1 ⟨rfl, hb1⟩; have k1 := carry hb1 k0)
    go_loopw [13] (fun i wr => ∃ m : Nat, m ≤ n ∧ i = .int .i64 m ∧ Hid ((List.range m).all (fun k => !(fbpB vv n k)) = true) ∧ Below w.heap.size w wr) (fun i _ => n - (intOf i).toNat)
    case atStart => exact ⟨0, Nat.zero_le _, rfl, by rfl, hb1⟩
    case round =>
      obtain ⟨m, hm, rfl, hall, hbr⟩ := hrel
      by_cases hlt : m < n
      · have k2 := carry hbr k0
        go_wp2_with fail
        obtain ⟨wo, rfl⟩ : ∃ wo : World, wo = wr := ⟨_, rfl⟩
        go_loopw [4, 20] (fun q i wi => ∃ j : Nat, j ≤ n ∧ i = .int .i64 j ∧ q = .bool (fbpTo vv m j) ∧ Below w.heap.size w wi) (fun _ i _ => n - (intOf i).toNat)
        case atStart => exact ⟨0, Nat.zero_le _, rfl, rfl, hbr⟩
        case round =>
          obtain ⟨j, hj, rfl, rfl, hbi⟩ := hrel
          by_cases hltj : j < n
          · have hs := fbpTo_succ vv m j
            cases hf : fbpTo vv m j
            · rw [hf] at hs
              have Hs := Lib.hid hs
              clear hs hf
              go_wp2_with fail
              go_roundw
              case rel => exact ⟨j + 1, by omega, by go_num, by rw [Hs.out]; rfl, hbi⟩
              case measure => simp [intOf]; omega
            · rw [hf] at hs
              by_cases hij : m = j
              · have hij' : ((m : Int) == (j : Int)) = true := by rw [beq_iff_eq]; omega
                rw [decide_eq_true hij] at hs
                have Hs := Lib.hid hs
                clear hs hf hij
                go_wp2_with fail
                go_roundw
                case rel => exact ⟨j + 1, by omega, by go_num, by rw [Hs.out]; rfl, hbi⟩
                case measure => simp [intOf]; omega
              · have hij' : ((m : Int) == (j : Int)) = false := by rw [beq_eq_false_iff_ne]; omega
                rw [decide_eq_false hij] at hs
                have hbe := beats_any _ vv n m j _ (h0.below hbi) Hv.out Hn.out hlt hltj hij
                have Hs := Lib.hid hs
                have Hbe := Lib.hid hbe
                clear hs hf hij hbe
                generalize beatB vv m j = b at *
                cases b
                · go_wp2_with (go_at_call 72; refine Hbe.out.mono ?_; rintro e w3 ⟨rfl, hb3⟩)
                  go_roundw
                  case rel => exact ⟨j + 1, by omega, by go_num, by rw [Hs.out]; rfl, hbi.trans (hb3.mono hbi.size)⟩
                  case measure => simp [intOf]; omega
                · go_wp2_with (go_at_call 72; refine Hbe.out.mono ?_; rintro e w3 ⟨rfl, hb3⟩)
                  go_roundw
                  case rel => exact ⟨j + 1, by omega, by go_num, by rw [Hs.out]; rfl, hbi.trans (hb3.mono hbi.size)⟩
                  case measure => simp [intOf]; omega
          · obtain rfl : j = n := by omega
            cases hf : fbpTo vv m j
            · have Hf := Lib.hid hf
              clear hf
              go_wp2_with fail
              go_roundw
              case rel => exact ⟨m + 1, by omega, by go_num, range_all_succ hall.out (by show (!(fbpTo vv m j)) = true; rw [Hf.out]; rfl), hbi⟩
              case measure => simp [intOf]; omega
            · have Hf := Lib.hid hf
              clear hf
              go_wp2_with fail
              go_ret
              exact ⟨ret_int (fbpF_at Hv.out Hn.out hlt hall.out Hf.out).symm, hbi⟩
      · obtain rfl : m = n := by omega
        go_wp2_with fail
        go_ret
        exact ⟨ret_int (fbpF_none Hn.out hall.out).symm, hbr⟩
end Go.Proofs.Ytkejgogheonakaa
