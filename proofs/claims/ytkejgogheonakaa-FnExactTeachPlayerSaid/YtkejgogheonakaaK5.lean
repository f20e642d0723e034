/- Contracts: seasons; theatres that are ones. -/
import Derived.Test.YtkejgogheonakaaK3
import Derived.Test.YtkejgogheonakaaSTheatre
namespace Go.Proofs.Ytkejgogheonakaa
open Go.RowKit

def seasonB (l : List Int) : Bool := decide (l.length ≤ 60) && strictB l 0 365
theorem season_f1 {l : List Int} (h : ¬ l.length ≤ 60) : seasonB l = false := by rw [seasonB, decide_eq_false h]; rfl
theorem season_t {l : List Int} (h : l.length ≤ 60) : seasonB l = strictB l 0 365 := by rw [seasonB, decide_eq_true h]; rfl
theorem season_bd {l : List Int} (h : seasonB l = true) : l.length ≤ 60 ∧ ∀ x ∈ l, 0 ≤ x ∧ x ≤ 365 := by
  rw [seasonB, Bool.and_eq_true, decide_eq_true_iff, strictB, Bool.and_eq_true] at h
  exact ⟨h.1, fun x hx => inB_iff.1 (List.all_eq_true.1 h.2.2 x hx)⟩
theorem implSeasonOk_any (v : Value) (l : List Int) (w : World) (h : RdL cInt 1 w v l) :
    Calls Try.prog 166 #[v] w fun e w' => e = .returned (.bool (seasonB l)) ∧ Below w.heap.size w w' := by
  have h0 := h
  obtain ⟨A, c, rfl, h1, h2⟩ := h.form
  by_cases hl : l.length ≤ 60
  · go_enter Try.func166, Try.ntmps166
    go_wp2_with (go_at_call 137; refine (isStrict_any _ l 0 365 _ h0).mono ?_; rintro e w' ⟨rfl, hb⟩)
    go_ret
    exact ⟨ret_bool (season_t hl).symm, hb⟩
  · go_enter Try.func166, Try.ntmps166
    go_wp2_with fail
    go_ret
    exact ⟨ret_bool (season_f1 hl).symm, Below.refl _ _⟩
theorem specSeasonOk_any (v : Value) (l : List Int) (w : World) (h : RdL cInt 1 w v l) :
    Calls Try.prog 165 #[v] w fun e w' => e = .returned (.bool (seasonB l)) ∧ Below w.heap.size w w' := by
  have h0 := h
  obtain ⟨A, c, rfl, h1, h2⟩ := h.form
  by_cases hl : l.length ≤ 60
  · go_enter Try.func165, Try.ntmps165
    go_wp2_with (go_at_call 127; refine (l11Rising_q _ l 365 _ h0).mono ?_; rintro e w' ⟨rfl, d, rfl⟩)
    go_ret
    exact ⟨ret_bool (season_t hl).symm, below_drewN (Below.refl _ _) _⟩
  · go_enter Try.func165, Try.ntmps165
    go_wp2_with fail
    go_ret
    exact ⟨ret_bool (season_f1 hl).symm, Below.refl _ _⟩
def runR (l : List Int) : Nat → Nat
  | 0 => 0
  | k + 1 => if 0 < k ∧ l.getD (k - 1) 0 + 1 = l.getD k 0 then runR l k + 1 else 1
def runB (l : List Int) : Nat → Nat
  | 0 => 0
  | k + 1 => max (runB l k) (runR l (k + 1))
theorem runR_le (l : List Int) (k : Nat) : runR l k ≤ k := by
  induction k with
  | zero => exact Nat.le_refl _
  | succ k ih => unfold runR; split <;> omega
theorem runB_le (l : List Int) (k : Nat) : runB l k ≤ k := by
  induction k with
  | zero => exact Nat.le_refl _
  | succ k ih => unfold runB; have := runR_le l (k + 1); omega
theorem runR_t {l : List Int} {k : Nat} (hk : k < l.length) (h0 : 0 < k) (h : l[k - 1] + 1 = l[k]) : runR l (k + 1) = runR l k + 1 := by
  rw [runR, if_pos]
  rw [rise_get hk, rise_get (by omega)]
  exact ⟨h0, h⟩
theorem runR_f {l : List Int} {k : Nat} (hk : k < l.length) (h : ¬ (0 < k ∧ l[k - 1] + 1 = l[k])) : runR l (k + 1) = 1 := by
  rw [runR, if_neg]
  rw [rise_get hk, rise_get (by omega)]
  exact h
theorem runB_succ (l : List Int) (k : Nat) : runB l (k + 1) = max (runB l k) (runR l (k + 1)) := rfl
def runF (l : List Int) : Int := if seasonB l = true then (runB l l.length : Int) else -1
theorem runF_t {l : List Int} (h : seasonB l = true) : runF l = runB l l.length := if_pos h
theorem runF_f {l : List Int} (h : seasonB l = false) : runF l = -1 := if_neg (by rw [h]; simp)
theorem max_val {a b : Nat} {c : Int} (h : (b : Int) = c) : (if (a : Int) < c then c else (a : Int)) = ((max a b : Nat) : Int) := by split <;> omega
set_option maxHeartbeats 2000000 in
set_option maxRecDepth 100000 in
theorem implLongestRun_any (v : Value) (l : List Int) (w : World) (h : RdL cInt 1 w v l) :
    Calls Try.prog 183 #[v] w fun e w' => e = .returned (.int .i64 (runF l)) ∧ Below w.heap.size w w' := by
  have h0 := h
  obtain ⟨A, c, rfl, h1, h2⟩ := h.form
  go_enter Try.func183, Try.ntmps183
  go_wp2_with fail
  refine twoB (implSeasonOk_any _ l _ h0) (fun w1 hq hb => ?_) (fun w1 hq hb => ?_)
  · have hs := season_bd hq.out
    have hr := h0.below hb
    have hl60 := hs.1
    have Hs := Lib.hid hs.2
    clear hs
    go_wp2_with fail
    go_loop [3, 4, 12] (fun b r i => ∃ k : Nat, k ≤ l.length ∧ i = .int .i64 k ∧ b = .int .i64 (runB l k) ∧ r = .int .i64 (runR l k)) (fun _ _ i => l.length - (intOf i).toNat)
    case atStart => exact ⟨0, Nat.zero_le _, rfl, rfl, rfl⟩
    case round =>
      obtain ⟨k, hk, rfl, rfl, rfl⟩ := hrel
      by_cases hlt : k < l.length
      · obtain ⟨g, off, rfl, hg, hc⟩ := hr.cell cInt_len (by omega) hlt
        have j0 := hc 0 _ rfl
        simp only [Nat.add_zero, Nat.mul_one] at j0
        clear hc
        have hx := Hs.out _ (List.getElem_mem hlt)
        have hbl := runB_le l k
        have hrl := runR_le l k
        have hsu := runB_succ l k
        have hkk : k - 1 < l.length := by omega
        by_cases h00 : 0 < k
        · obtain ⟨g', off', hA, hg', hc'⟩ := hr.cell (k := k - 1) cInt_len (by omega) (by omega)
          injection hA with hA
          injection hA with e1 e2
          subst e1 e2
          have j1 := hc' 0 _ rfl
          simp only [Nat.add_zero, Nat.mul_one] at j1
          clear hc'
          by_cases hrun : l[k - 1] + 1 = l[k]
          · have hrr := runR_t hlt h00 hrun
            rw [hrr] at hsu
            have Hsu := Lib.hid hsu
            have Hrr := Lib.hid hrr
            have hd : (l[k - 1] == l[k] - 1) = true := by rw [beq_iff_eq]; omega
            clear hsu hrr hrun
            generalize runB l k = b at *
            generalize runR l k = r at *
            go_wp2_with fail
            go_round
            case rel => exact ⟨k + 1, by omega, by go_num, int_eq (by rw [Hsu.out]; first | exact max_val (by omega) | (split <;> omega)), int_eq (by rw [Hrr.out]; omega)⟩
            case measure => simp [intOf]; omega
          · have hrr := runR_f hlt (fun h => hrun h.2)
            rw [hrr] at hsu
            have Hsu := Lib.hid hsu
            have Hrr := Lib.hid hrr
            have hd : (l[k - 1] == l[k] - 1) = false := by rw [beq_eq_false_iff_ne]; omega
            clear hsu hrr hrun
            generalize runB l k = b at *
            generalize runR l k = r at *
            go_wp2_with fail
            go_round
            case rel => exact ⟨k + 1, by omega, by go_num, int_eq (by rw [Hsu.out]; first | exact max_val (by omega) | (split <;> omega)), int_eq (by rw [Hrr.out]; omega)⟩
            case measure => simp [intOf]; omega
        · obtain rfl : k = 0 := by omega
          simp only [Nat.add_zero] at j0
          have hrr : runR l 1 = 1 := runR_f hlt (fun h => absurd h.1 (by omega))
          replace hsu : runB l 1 = 1 := by show max 0 (runR l 1) = 1; rw [hrr]; rfl
          have Hsu := Lib.hid hsu
          have Hrr := Lib.hid hrr
          clear hsu hrr
          go_wp2_with fail
          go_round
          case rel => exact ⟨1, by omega, by rfl, int_eq (by rw [Hsu.out]; rfl), int_eq (by rw [Hrr.out]; rfl)⟩
          case measure => simp [intOf]; omega
      · obtain rfl : k = l.length := by omega
        go_wp2_with fail
        go_ret
        exact ⟨ret_int (runF_t hq.out).symm, hb⟩
  · go_wp2_with fail
    go_ret
    exact ⟨ret_int (runF_f hq.out).symm, hb⟩
set_option maxHeartbeats 2000000 in
set_option maxRecDepth 100000 in
theorem specLongestRun_any (v : Value) (l : List Int) (w : World) (h : RdL cInt 1 w v l) :
    Calls Try.prog 174 #[v] w fun e w' => e = .returned (.int .i64 (runF l)) ∧ Below w.heap.size w w' := by
  have h0 := h
  obtain ⟨A, c, rfl, h1, h2⟩ := h.form
  go_enter Try.func174, Try.ntmps174
  go_wp2_with fail
  refine twoB (specSeasonOk_any _ l _ h0) (fun w1 hq hb => ?_) (fun w1 hq hb => ?_)
  · have hs := season_bd hq.out
    have hl60 := hs.1
    have Hs := Lib.hid hs.2
    clear hs
    go_wp2_with fail
    go_loopw [3, 4, 5] (fun b r i wr => ∃ k : Nat, k ≤ l.length ∧ i = .int .i64 k ∧ b = .int .i64 (runB l k) ∧ r = .int .i64 (runR l k) ∧ Below w.heap.size w wr) (fun _ _ i _ => l.length - (intOf i).toNat)
    case atStart => exact ⟨0, Nat.zero_le _, rfl, rfl, rfl, hb⟩
    case round =>
      obtain ⟨k, hk, rfl, rfl, rfl, hbr⟩ := hrel
      have hr := h0.below hbr
      by_cases hlt : k < l.length
      · obtain ⟨g, off, rfl, hg, hc⟩ := hr.cell cInt_len (by omega) hlt
        have j0 := hc 0 _ rfl
        simp only [Nat.add_zero, Nat.mul_one] at j0
        clear hc
        have hx := Hs.out _ (List.getElem_mem hlt)
        have hbl := runB_le l k
        have hrl := runR_le l k
        have hsu := runB_succ l k
        have hkk : k - 1 < l.length := by omega
        by_cases h00 : 0 < k
        · obtain ⟨g', off', hA, hg', hc'⟩ := hr.cell (k := k - 1) cInt_len (by omega) (by omega)
          injection hA with hA
          injection hA with e1 e2
          subst e1 e2
          have j1 := hc' 0 _ rfl
          simp only [Nat.add_zero, Nat.mul_one] at j1
          clear hc'
          have hy := Hs.out _ (List.getElem_mem (show k - 1 < l.length by omega))
          have hw1 : IntKind.i64.wrap ((k : Int) - 1) = (k : Int) - 1 := IntWalk.i64_in _ (by omega)
          have hw2 : (0 : Int) ≤ (k : Int) - 1 := by omega
          have hw2' : (1 : Int) ≤ (k : Int) := by omega
          have hw4 : (k : Int) - 1 < (l.length : Int) := by omega
          have hw3 : ((k : Int) - 1).toNat = k - 1 := by omega
          have hw5 : IntKind.i64.wrap (l[k - 1] + 1) = l[k - 1] + 1 := IntWalk.i64_in _ (by omega)
          by_cases hrun : l[k - 1] + 1 = l[k]
          · have hrr := runR_t hlt h00 hrun
            rw [hrr] at hsu
            have Hsu := Lib.hid hsu
            have Hrr := Lib.hid hrr
            have hd : (l[k] == l[k - 1] + 1) = true := by rw [beq_iff_eq]; omega
            clear hsu hrr hrun
            generalize runB l k = b at *
            generalize runR l k = r at *
            go_wp2_with fail
            go_quiet (fail)
            go_wp2_with fail
            go_roundw
            case rel => exact ⟨k + 1, by omega, by go_num, int_eq (by rw [Hsu.out]; first | exact max_val (by omega) | (split <;> omega)), int_eq (by rw [Hrr.out]; omega), by first | exact hbr.drew | exact below_drewN hbr _⟩
            case measure => simp [intOf]; omega
          · have hrr := runR_f hlt (fun h => hrun h.2)
            rw [hrr] at hsu
            have Hsu := Lib.hid hsu
            have Hrr := Lib.hid hrr
            have hd : (l[k] == l[k - 1] + 1) = false := by rw [beq_eq_false_iff_ne]; omega
            clear hsu hrr hrun
            generalize runB l k = b at *
            generalize runR l k = r at *
            go_wp2_with fail
            go_quiet (fail)
            go_wp2_with fail
            go_roundw
            case rel => exact ⟨k + 1, by omega, by go_num, int_eq (by rw [Hsu.out]; first | exact max_val (by omega) | (split <;> omega)), int_eq (by rw [Hrr.out]; omega), by first | exact hbr.drew | exact below_drewN hbr _⟩
            case measure => simp [intOf]; omega
        · obtain rfl : k = 0 := by omega
          simp only [Nat.add_zero] at j0
          have hrr : runR l 1 = 1 := runR_f hlt (fun h => absurd h.1 (by omega))
          replace hsu : runB l 1 = 1 := by show max 0 (runR l 1) = 1; rw [hrr]; rfl
          have Hsu := Lib.hid hsu
          have Hrr := Lib.hid hrr
          clear hsu hrr
          go_wp2_with fail
          go_quiet (fail)
          go_wp2_with fail
          go_roundw
          case rel => exact ⟨1, by omega, by rfl, int_eq (by rw [Hsu.out]; rfl), int_eq (by rw [Hrr.out]; rfl), by first | exact hbr.drew | exact below_drewN hbr _⟩
          case measure => simp [intOf]; omega
      · obtain rfl : k = l.length := by omega
        go_wp2_with fail
        go_ret
        exact ⟨ret_int (runF_t hq.out).symm, hbr⟩
  · go_wp2_with fail
    go_ret
    exact ⟨ret_int (runF_f hq.out).symm, hb⟩
def keepsB (l : List Int) (r : Int) : Bool := (seasonB l && inB r 1 60) && decide (runF l ≤ r)
theorem implKeepsRest_any (v : Value) (l : List Int) (r : Int) (w : World) (h : RdL cInt 1 w v l) :
    Calls Try.prog 175 #[v, .int .i64 r] w fun e w' => e = .returned (.bool (keepsB l r)) ∧ Below w.heap.size w w' := by
  have h0 := h
  obtain ⟨A, c, rfl, h1, h2⟩ := h.form
  go_enter Try.func175, Try.ntmps175
  go_wp2_with fail
  refine twoB (implSeasonOk_any _ l _ h0) (fun w1 hq hb => ?_) (fun w1 hq hb => ?_)
  · go_wp2_with fail
    refine two (within_any _ _ _ _) (fun hc => ?_) (fun hc => ?_)
    · have hcon := implLongestRun_any _ l _ (h0.below hb)
      obtain ⟨x, hx⟩ : ∃ x, runF l = x := ⟨_, rfl⟩
      rw [hx] at hcon
      have Hx := Lib.hid hx
      have Hcon := Lib.hid hcon
      clear hx hcon
      go_wp2_with (go_at_call 183; refine Hcon.out.mono ?_; rintro e w2 ⟨rfl, hb2⟩)
      go_ret
      exact ⟨ret_bool (by rw [keepsB, hq.out, hc.out, Hx.out]; rfl), bl_trans hb hb2⟩
    · go_wp2_with fail
      go_ret
      exact ⟨ret_bool (by rw [keepsB, hc.out, Bool.and_false]; rfl), hb⟩
  · go_wp2_with fail
    go_ret
    exact ⟨ret_bool (by rw [keepsB, hq.out]; rfl), hb⟩
theorem specKeepsRest_any (v : Value) (l : List Int) (r : Int) (w : World) (h : RdL cInt 1 w v l) :
    Calls Try.prog 146 #[v, .int .i64 r] w fun e w' => e = .returned (.bool (keepsB l r)) ∧ Below w.heap.size w w' := by
  have h0 := h
  obtain ⟨A, c, rfl, h1, h2⟩ := h.form
  go_enter Try.func146, Try.ntmps146
  go_wp2_with fail
  refine twoB (specSeasonOk_any _ l _ h0) (fun w1 hq hb => ?_) (fun w1 hq hb => ?_)
  · go_wp2_with fail
    refine two (l01In_any _ _ _ _) (fun hc => ?_) (fun hc => ?_)
    · have hcon := specLongestRun_any _ l _ (h0.below hb)
      obtain ⟨x, hx⟩ : ∃ x, runF l = x := ⟨_, rfl⟩
      rw [hx] at hcon
      have Hx := Lib.hid hx
      have Hcon := Lib.hid hcon
      clear hx hcon
      go_wp2_with (go_at_call 174; refine Hcon.out.mono ?_; rintro e w2 ⟨rfl, hb2⟩)
      go_ret
      exact ⟨ret_bool (by rw [keepsB, hq.out, hc.out, Hx.out]; rfl), bl_trans hb hb2⟩
    · go_wp2_with fail
      go_ret
      exact ⟨ret_bool (by rw [keepsB, hc.out, Bool.and_false]; rfl), hb⟩
  · go_wp2_with fail
    go_ret
    exact ⟨ret_bool (by rw [keepsB, hq.out]; rfl), hb⟩
def theatreB (n m : Int) (cs : List RCross) (ps : List RPl) (ds : List Int) : Bool := (companyB n cs ps && keepsB ds 5) && inB m 0 1000000
set_option maxHeartbeats 1000000 in
theorem implTheatreOk_any (n m : Int) (v1 v2 v3 : Value) (cs : List RCross) (ps : List RPl) (ds : List Int) (w : World) (h : RdTheatre w v1 v2 v3 cs ps ds) :
    Calls Try.prog 149 #[.agg #[.int .i64 n, v1, v2, v3, .int .i64 m]] w fun e w' => e = .returned (.bool (theatreB n m cs ps ds)) ∧ Below w.heap.size w w' := by
  obtain ⟨⟨A1, c1, rfl⟩, ⟨A2, c2, rfl⟩, ⟨A3, c3, rfl⟩⟩ := h.forms
  obtain ⟨h1, h2⟩ := h
  go_enter Try.func149, Try.ntmps149
  go_wp2_with fail
  refine twoB (implCompanyOk_any n _ _ cs ps _ (h1.below (by (repeat' (first | exact Below.refl _ _ | (refine Below.setCell ?_ (by first | omega | (simp; omega) | (simp; done)) _) | (refine Below.alloc ?_ (by first | omega | (simp; omega) | (simp; done)) _) | (refine Below.drew ?_) | (refine below_drewN ?_ _) | (refine Below.trans ?_ (Below.mono (by assumption) (by first | omega | (simp; omega) | (simp; done))))))))) (fun w1 hq hb => ?_) (fun w1 hq hb => ?_)
  · have k3 := carry (b := w.heap.size) (o := 3) (v := .slice A3 ds.length c3) hb (by simp [go_sem])
    have k4 := carry (b := w.heap.size) (o := 4) (v := .int .i64 m) hb (by simp [go_sem])
    have hb' := bl_alloc hb
    go_wp2_with fail
    refine twoB (implKeepsRest_any _ ds 5 _ (h2.below hb')) (fun w2 hr hb2 => ?_) (fun w2 hr hb2 => ?_)
    · replace k4 := carry hb2 k4
      go_wp2_with (go_at_call 73; refine (within_any _ _ _ _).mono ?_; rintro e w3 ⟨rfl, rfl⟩)
      go_ret
      exact ⟨ret_bool (by rw [theatreB, hq.out, hr.out]; rfl), bl_trans hb' hb2⟩
    · go_wp2_with fail
      go_ret
      exact ⟨ret_bool (by rw [theatreB, hr.out, Bool.and_false]; rfl), bl_trans hb' hb2⟩
  · go_wp2_with fail
    go_ret
    exact ⟨ret_bool (by rw [theatreB, hq.out]; rfl), bl_alloc hb⟩
set_option maxHeartbeats 1000000 in
theorem specTheatreOk_any (n m : Int) (v1 v2 v3 : Value) (cs : List RCross) (ps : List RPl) (ds : List Int) (w : World) (h : RdTheatre w v1 v2 v3 cs ps ds) :
    Calls Try.prog 87 #[.agg #[.int .i64 n, v1, v2, v3, .int .i64 m]] w fun e w' => e = .returned (.bool (theatreB n m cs ps ds)) ∧ Below w.heap.size w w' := by
  obtain ⟨⟨A1, c1, rfl⟩, ⟨A2, c2, rfl⟩, ⟨A3, c3, rfl⟩⟩ := h.forms
  obtain ⟨h1, h2⟩ := h
  go_enter Try.func87, Try.ntmps87
  go_wp2_with fail
  refine twoB (specCompanyOk_any n _ _ cs ps _ (h1.below (by (repeat' (first | exact Below.refl _ _ | (refine Below.setCell ?_ (by first | omega | (simp; omega) | (simp; done)) _) | (refine Below.alloc ?_ (by first | omega | (simp; omega) | (simp; done)) _) | (refine Below.drew ?_) | (refine below_drewN ?_ _) | (refine Below.trans ?_ (Below.mono (by assumption) (by first | omega | (simp; omega) | (simp; done))))))))) (fun w1 hq hb => ?_) (fun w1 hq hb => ?_)
  · have k3 := carry (b := w.heap.size) (o := 3) (v := .slice A3 ds.length c3) hb (by simp [go_sem])
    have k4 := carry (b := w.heap.size) (o := 4) (v := .int .i64 m) hb (by simp [go_sem])
    have hb' := bl_alloc hb
    go_wp2_with fail
    refine twoB (specKeepsRest_any _ ds 5 _ (h2.below hb')) (fun w2 hr hb2 => ?_) (fun w2 hr hb2 => ?_)
    · replace k4 := carry hb2 k4
      go_wp2_with (go_at_call 144; refine (l01In_any _ _ _ _).mono ?_; rintro e w3 ⟨rfl, rfl⟩)
      go_ret
      exact ⟨ret_bool (by rw [theatreB, hq.out, hr.out]; rfl), bl_trans hb' hb2⟩
    · go_wp2_with fail
      go_ret
      exact ⟨ret_bool (by rw [theatreB, hr.out, Bool.and_false]; rfl), bl_trans hb' hb2⟩
  · go_wp2_with fail
    go_ret
    exact ⟨ret_bool (by rw [theatreB, hq.out]; rfl), bl_alloc hb⟩
end Go.Proofs.Ytkejgogheonakaa
