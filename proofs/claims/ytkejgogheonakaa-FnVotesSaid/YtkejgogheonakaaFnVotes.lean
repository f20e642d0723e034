/- FnVotes: the law returns true for every input. No condition. -/
import Derived.Test.YtkejgogheonakaaQ4
import Derived.Test.YtkejgogheonakaaW3
import Derived.Test.YtkejgogheonakaaO3
import Derived.OpenShut
namespace Go.Proofs.Ytkejgogheonakaa
open Go.ChangeShapes Go.WideShapes Go.ChangeAt Go.RowKit Go.Deep

theorem btoiT (w : World) : Calls Try.prog 19 #[.bool true] w fun e w' => e = .returned (.int .i64 1) ∧ Below w.heap.size w w' := by
  have := btoi_any true w
  rwa [if_pos rfl] at this
theorem btoiF (w : World) : Calls Try.prog 19 #[.bool false] w fun e w' => e = .returned (.int .i64 0) ∧ Below w.heap.size w w' := by
  have := btoi_any false w
  rwa [if_neg (by simp)] at this
theorem circle_rd (w : World) : RdRows ((((w.alloc (.cells #[.int .i64 0, .int .i64 1, .int .i64 2] 3)).alloc (.cells #[.int .i64 1, .int .i64 2, .int .i64 0] 3)).alloc (.cells #[.int .i64 2, .int .i64 0, .int .i64 1] 3)).alloc (.cells #[.slice (some ⟨w.heap.size, 0, none⟩) 3 3, .slice (some ⟨w.heap.size + 1, 0, none⟩) 3 3, .slice (some ⟨w.heap.size + 1 + 1, 0, none⟩) 3 3] 26))
    (.slice (some ⟨w.heap.size + 1 + 1 + 1, 0, none⟩) 3 3) circle3 := by
  refine ⟨[.slice (some ⟨w.heap.size, 0, none⟩) 3 3, .slice (some ⟨w.heap.size + 1, 0, none⟩) 3 3, .slice (some ⟨w.heap.size + 1 + 1, 0, none⟩) 3 3], ?_, rfl, ?_⟩
  · unfold RdL
    rw [flat_cVal]
    exact rdS_newAt _ (w.heap.size + 1 + 1 + 1) (by simp) #[.slice (some ⟨w.heap.size, 0, none⟩) 3 3, .slice (some ⟨w.heap.size + 1, 0, none⟩) 3 3, .slice (some ⟨w.heap.size + 1 + 1, 0, none⟩) 3 3] 26 1 3 rfl (by simp [maxLen])
  · have hal : ∀ (w : World) (o : Obj), Below w.heap.size w (w.alloc o) := fun w o => (Below.refl _ _).alloc (Nat.le_refl _) o
    have r1 : RdL cInt 1 (w.alloc (.cells #[.int .i64 0, .int .i64 1, .int .i64 2] 3)) (.slice (some ⟨w.heap.size, 0, none⟩) 3 3) [0, 1, 2] := rdS_new w #[.int .i64 0, .int .i64 1, .int .i64 2] 3 1 3 rfl (by simp [maxLen])
    have r2 : RdL cInt 1 ((w.alloc (.cells #[.int .i64 0, .int .i64 1, .int .i64 2] 3)).alloc (.cells #[.int .i64 1, .int .i64 2, .int .i64 0] 3)) (.slice (some ⟨w.heap.size + 1, 0, none⟩) 3 3) [1, 2, 0] := rdS_newAt _ (w.heap.size + 1) (by simp) #[.int .i64 1, .int .i64 2, .int .i64 0] 3 1 3 rfl (by simp [maxLen])
    have r3 : RdL cInt 1 (((w.alloc (.cells #[.int .i64 0, .int .i64 1, .int .i64 2] 3)).alloc (.cells #[.int .i64 1, .int .i64 2, .int .i64 0] 3)).alloc (.cells #[.int .i64 2, .int .i64 0, .int .i64 1] 3)) (.slice (some ⟨w.heap.size + 1 + 1, 0, none⟩) 3 3) [2, 0, 1] := rdS_newAt _ (w.heap.size + 1 + 1) (by simp) #[.int .i64 2, .int .i64 0, .int .i64 1] 3 1 3 rfl (by simp [maxLen])
    intro i v l hv hl
    match i, hv, hl with
    | 0, hv, hl => cases hv; cases hl; exact ((r1.below (hal _ _)).below (hal _ _)).below (hal _ _)
    | 1, hv, hl => cases hv; cases hl; exact (r2.below (hal _ _)).below (hal _ _)
    | 2, hv, hl => cases hv; cases hl; exact r3.below (hal _ _)
    | i + 3, hv, _ => simp at hv
set_option maxHeartbeats 8000000 in
set_option maxRecDepth 100000 in
theorem lawFnVotes_any (A : Option Addr) (c : Nat) (bs : List Int) (w : World) (h : RdL cU8 1 w (.slice A bs.length c) bs) (hby : ∀ x ∈ bs, 0 ≤ x ∧ x ≤ 255) :
    Calls Try.prog 3 #[.slice A bs.length c] w fun e w' => e = .returned (.bool true) ∧ Below w.heap.size w w' := by
  have Hby := Lib.hid hby
  clear hby
  go_enter Try.func3, Try.ntmps3
  go_wp2_with (go_at_call 13; refine twoB (big_any _ _ _ _) (fun wb hc hb => ?_) (fun wb hc hb => ?_))
  · go_ret
    exact ⟨rfl, hb⟩
  have hlen : bs.length ≤ 1048576 := by have := hc.out; simp at this; omega
  refine (drawVotes_any A c bs wb (h.below hb) Hby.out hlen).mono ?_
  rintro e w1 ⟨v, vv, n, rfl, hrd, hl, hn, hval, hb1⟩
  obtain ⟨hv, h0⟩ := votes_ok hval hl hn
  have hvo : ∀ r ∈ vv, Vote n r := fun r hr => perm_vote (hval r hr)
  obtain ⟨A1, c1, rfl, h3, h4⟩ := hrd.form
  obtain ⟨g, off, u, rfl, hg, k0, hru⟩ := hrd.cell (k := 0) (by omega)
  simp only [Nat.add_zero] at k0
  obtain ⟨Au, cu, rfl, _, _⟩ := hru.form
  rw [(hvo vv[0] (List.getElem_mem _)).len] at k0
  have hbw1 : Below w.heap.size w w1 := bl_trans hb hb1
  have C1 := Lib.hid (fun W hr => implPointsOf_any (.slice (some ⟨g, off, none⟩) vv.length c1) vv W hr)
  have C2 := Lib.hid (fun W hr => implFirstByPairs_any (.slice (some ⟨g, off, none⟩) vv.length c1) vv W hr)
  have C3 := Lib.hid (fun W hr => implFirstByPoints_any (.slice (some ⟨g, off, none⟩) vv.length c1) vv W hr)
  have C4 := Lib.hid (fun i k W hr => implPrefers_any (.slice (some ⟨g, off, none⟩) vv.length c1) vv i k W hr)
  have C5 := Lib.hid (fun W hr => implHasCircle_any (.slice (some ⟨g, off, none⟩) vv.length c1) vv W hr)
  have C6 := Lib.hid (fun W hr => implVotesOk_any (.slice (some ⟨g, off, none⟩) vv.length c1) vv W hr)
  have hpl : ptsF vv = ptsL n vv := ptsF_t hv h0
  have hgf := fptF_t hv
  have hff : -1 ≤ fbpF vv ∧ fbpF vv < n := by
    unfold fbpF
    split
    · rename_i hx; rw [h0] at hx ⊢; omega
    · omega
  have hfb := Lib.hid (fun i (hi : i < n) => fbp_beats hvo hv h0 hi)
  have hpp := Lib.hid (fun i (hi : i < n) => pts_bef hvo hi)
  have hps := Lib.hid (pts_sum hvo)
  rw [hpl] at hgf
  rw [hpl] at C1
  have hPl : (ptsL n vv).length = n := ptsL_len n vv
  have hPg := Lib.hid (fun i (hi : i < (ptsL n vv).length) => (by simp [ptsL] : (ptsL n vv)[i] = ptsTo n vv i))
  have hmx := Lib.hid (fun i hi => bestTo_max (ptsL n vv) (ptsL n vv).length i hi)
  have hbt := bestTo_lt (ptsL n vv) (ptsL n vv).length (by omega) (Nat.le_refl _)
  rw [hgf] at C3
  have hbf := Lib.hid (fun i k (hi : i < n) (hk : k < n) (hik : i ≠ k) => bef_sum hvo hi hk hik)
  have hcs := Lib.hid (fun (h2 : n ≤ 2) => circ_small h0 h2)
  clear hpl hgf
  generalize ptsL n vv = P at *
  generalize bestTo P P.length = gN at *
  generalize fbpF vv = f at *
  have Hv := Lib.hid hv
  have H0 := Lib.hid h0
  have Hvo := Lib.hid hvo
  have HPl := Lib.hid hPl
  rw [hPl] at hbt C1
  clear hval hv h0 hvo hru h hb hb1 hPl
  go_wp2_with fail
  refine (C1.out _ hrd).mono ?_
  rintro e w2 ⟨v2, rfl, hown2, hb2⟩
  have hrd2 := hrd.below hb2
  have hbw2 := bl_trans hbw1 hb2
  obtain ⟨A2, c2, rfl, h5, h6⟩ := (RdS.of_own hown2).form
  simp only [maxLen] at h6
  have hrp : RdS w2 1 (.slice A2 n c2) n (P.flatMap cInt) := RdS.of_own hown2
  clear hown2 hrd hbw1 hb2
  go_wp2_with fail
  refine (C2.out _ hrd2).mono ?_
  rintro e w3 ⟨rfl, hb3⟩
  have hrd3 := hrd2.below hb3
  have hbw3 := bl_trans hbw2 hb3
  have hrp3 := hrp.below hb3
  clear hrd2 hbw2 hrp hb3
  go_wp2_with fail
  refine (C3.out _ hrd3).mono ?_
  rintro e w4 ⟨rfl, hb4⟩
  have hrd4 := hrd3.below hb4
  have hbw4 := bl_trans hbw3 hb4
  have hrp4 := hrp3.below hb4
  clear hrd3 hbw3 hrp3 hb4
  go_wp2_with fail
  have hvv6 := hl.2
  have hbd : ∀ i, i < n → 0 ≤ ptsTo n vv i ∧ ptsTo n vv i ≤ 36 := fun i hi => by have := ptsTo_bd n (by omega) vv Hvo.out i hi; omega
  have Hbd := Lib.hid hbd
  clear hbd
  (try generalize decide (n ≤ gN) = qd1 at *); (try generalize decide ((n : Int) ≤ (gN : Int)) = qd2 at *); (try generalize decide ((gN : Int) < 0) = qd3 at *); (try generalize decide ((n : Int) ≤ f) = qd4 at *)
  go_loopw [8, 9] (fun s i wr => ∃ k : Nat, k ≤ n ∧ i = .int .i64 k ∧ s = .int .i64 (sumI (fun i => ptsTo n vv i) k) ∧ Below w4.heap.size w4 wr) (fun _ i _ => n - (intOf i).toNat)
  case atStart => exact ⟨0, Nat.zero_le _, rfl, rfl, Below.refl _ _⟩
  case round =>
    obtain ⟨k, hk, rfl, rfl, hbr⟩ := hrel
    have hzr := hbr.size
    by_cases hlt : k < n
    · obtain ⟨gp, ofp, e9, hgp, hcp⟩ := RdS.at_ (hrp4.below hbr) (by omega) (by omega)
      subst e9
      have hkP : k < P.length := by rw [HPl.out]; exact hlt
      have kp := hcp k _ (flat_get1 P k hkP)
      rw [hPg.out k hkP, hpp.out k hlt] at kp
      have hsb := sumI_bd Hbd.out k hk
      have hnx : sumI (fun i => ptsTo n vv i) (k + 1) = sumI (fun i => ptsTo n vv i) k + (befTo vv k n : Nat) := by rw [sumI, hpp.out k hlt]
      have Hnx := Lib.hid hnx
      have hbf36 := befTo_le vv k n hl.2
      clear hnx
      generalize sumI (fun i => ptsTo n vv i) k = S at *
      obtain ⟨wo, rfl⟩ : ∃ wo : World, wo = wr := ⟨_, rfl⟩
      go_wp2_with fail
      go_loopw [10, 11, 12] (fun b q i wi => ∃ j : Nat, j ≤ n ∧ i = .int .i64 j ∧ b = .int .i64 (beatTo vv k j : Nat) ∧ q = .int .i64 (befTo vv k j : Nat) ∧ Below wo.heap.size wo wi) (fun _ _ i _ => n - (intOf i).toNat)
      case atStart => exact ⟨0, Nat.zero_le _, rfl, rfl, rfl, Below.refl _ _⟩
      case round =>
        obtain ⟨j, hj, rfl, rfl, rfl, hbi⟩ := hrel
        have hzi := hbi.size
        have hbj := beatTo_le vv k j
        have hfj := befTo_le vv k j hl.2
        have hrdi := (hrd4.below hbr).below hbi
        by_cases hltj : j < n
        · by_cases hjk : j = k
          · subst hjk
            have e1 := Lib.hid (beatTo_s (vv := vv) (i := j))
            have e2 := Lib.hid (befTo_s (vv := vv) (i := j))
            generalize beatTo vv j j = bb at *
            generalize befTo vv j j = ff at *
            go_wp2_with fail
            go_roundw
            case rel => exact ⟨j + 1, by omega, by go_num, int_eq (by rw [e1.out]), int_eq (by rw [e2.out]), hbi⟩
            case measure => simp [intOf]; omega
          · have hp1 : prefF vv (k : Int) (j : Int) = befN vv k j := pref_t Hv.out (by omega) (by rw [H0.out]; exact inB_nat hlt) (by rw [H0.out]; exact inB_nat hltj)
            have hp2 : prefF vv (j : Int) (k : Int) = befN vv j k := pref_t Hv.out (by omega) (by rw [H0.out]; exact inB_nat hltj) (by rw [H0.out]; exact inB_nat hlt)
            have D1 := C4.out (k : Int) (j : Int)
            have D2 := C4.out (j : Int) (k : Int)
            rw [hp1] at D1
            rw [hp2] at D2
            have HD1 := Lib.hid D1
            have HD2 := Lib.hid D2
            clear D1 D2 hp1 hp2
            have hab := hbf.out k j hlt hltj (fun e => hjk e.symm)
            have e2 := Lib.hid (befTo_t (vv := vv) (i := k) (m := j) hjk)
            have e3 := Lib.hid (fun h => beatTo_t (vv := vv) (i := k) (m := j) hjk h)
            have e4 := Lib.hid (fun h => beatTo_f (vv := vv) (i := k) (m := j) hjk h)
            generalize beatTo vv k j = bb at *
            generalize befTo vv k j = ff at *
            generalize befN vv k j = a at *
            generalize befN vv j k = b at *
            have hjk1 : ¬ (j : Int) = (k : Int) := by omega
            have habI : (((a : Nat) : Int) + ((b : Nat) : Int) != (vv.length : Int)) = false := by rw [bne_eq_false_iff_eq]; omega
            go_wp2_with fail
            refine (HD1.out _ hrdi).mono ?_
            rintro e w5 ⟨rfl, hb5⟩
            have hrd5 := hrdi.below hb5
            have hbi5 := bl_trans hbi hb5
            clear hrdi hbi hb5
            by_cases hm : vv.length < 2 * a
            · have hm1 : 2 * (a : Int) > (vv.length : Int) := by omega
              go_wp2_with fail
              refine (btoiT _).mono ?_
              rintro e w6 ⟨rfl, hb6⟩
              have hrd6 := hrd5.below hb6
              have hbi6 := bl_trans hbi5 hb6
              clear hrd5 hbi5 hb6
              go_wp2_with fail
              refine (HD2.out _ hrd6).mono ?_
              rintro e w7 ⟨rfl, hb7⟩
              have hbi7 := bl_trans hbi6 hb7
              go_wp2_with fail
              go_roundw
              case rel => exact ⟨j + 1, by omega, by go_num, int_eq (by rw [e3.out (by omega)]; rfl), int_eq (by rw [e2.out]; rfl), hbi7⟩
              case measure => simp [intOf]; omega
            · have hm1 : decide ((vv.length : Int) < 2 * (a : Int)) = false := decide_eq_false (by omega)
              go_wp2_with fail
              refine (btoiF _).mono ?_
              rintro e w6 ⟨rfl, hb6⟩
              have hrd6 := hrd5.below hb6
              have hbi6 := bl_trans hbi5 hb6
              clear hrd5 hbi5 hb6
              go_wp2_with fail
              refine (HD2.out _ hrd6).mono ?_
              rintro e w7 ⟨rfl, hb7⟩
              have hbi7 := bl_trans hbi6 hb7
              go_wp2_with fail
              go_roundw
              case rel => exact ⟨j + 1, by omega, by go_num, int_eq (by rw [e4.out (by omega)]), int_eq (by rw [e2.out]; rfl), hbi7⟩
              case measure => simp [intOf]; omega
        · obtain rfl : j = n := by omega
          have hbk := hbr.trans (hbi.mono hzr)
          have hrpi := (hrp4.below hbr).below hbi
          obtain ⟨gp2, ofp2, e9, hgp2, hcp2⟩ := RdS.at_ hrpi (by omega) (by omega)
          injection e9 with e9
          injection e9 with e91 e92
          subst e91 e92
          have kp2 := hcp2 k _ (flat_get1 P k hkP)
          have hgP : gN < P.length := by rw [HPl.out]; exact hbt
          have kg := hcp2 gN _ (flat_get1 P gN hgP)
          have hmxk := hmx.out k hkP
          rw [getD_get P k hkP, getD_get P gN hgP, hPg.out k hkP, hpp.out k hlt] at hmxk
          rw [hPg.out k hkP, hpp.out k hlt] at kp2
          have hfk := hfb.out k hlt
          have hbeq : ((beatTo vv k j : Nat) == (j : Int) - 1) = ((k : Int) == f) := by
            rw [Bool.eq_iff_iff, beq_iff_eq, beq_iff_eq, ← hfk]
            omega
          have hbn : (!(((beatTo vv k j : Nat) : Int) == (j : Int) - 1) == ((k : Int) == f)) = false := by rw [hbeq]; simp
          have hwj : IntKind.i64.wrap ((j : Int) - 1) = (j : Int) - 1 := IntWalk.i64_in _ (by omega)
          clear hbeq
          have Hnx2 := Hnx
          clear hcp2 hcp
          generalize P[gN] = pg at *
          generalize befTo vv k j = ff at *
          generalize beatTo vv k j = bb at *
          have hnle : ¬ pg < (ff : Int) := by omega
          go_wp2_with fail
          go_quiet (fail)
          go_wp2_with fail
          go_roundw
          case rel => exact ⟨k + 1, by omega, by go_num, int_eq (by rw [Hnx2.out]), below_drewN hbk _⟩
          case measure => simp [intOf]; omega
    · obtain rfl : k = n := by omega
      have hrd5 := hrd4.below hbr
      have hbw5 : Below w.heap.size w wr := bl_trans hbw4 hbr
      have hpr := hps.out
      have hcq := hcs.out
      obtain ⟨S, hS⟩ : ∃ S, sumI (fun i => ptsTo k vv i) k = S := ⟨_, rfl⟩
      rw [hS] at hpr ⊢
      obtain ⟨P1, hP1⟩ : ∃ P1 : Nat, (vv.length : Int) * (k : Int) = (P1 : Int) := ⟨vv.length * k, by rw [Int.natCast_mul]⟩
      obtain ⟨P2, hP2⟩ : ∃ P2 : Nat, (P1 : Int) * ((k : Int) - 1) = (P2 : Int) := ⟨P1 * (k - 1), by rw [Int.natCast_mul]; congr 1; omega⟩
      have hP1b : P1 ≤ 36 := by
        have h1 : vv.length * k ≤ 6 * 6 := Nat.mul_le_mul hl.2 hn.2
        have h2 : ((vv.length * k : Nat) : Int) = P1 := by rw [Int.natCast_mul]; exact hP1
        omega
      have hP2b : P2 ≤ 180 := by
        have h1 : P1 * (k - 1) ≤ 36 * 5 := Nat.mul_le_mul hP1b (by omega)
        have h2 : ((P1 * (k - 1) : Nat) : Int) = P2 := by rw [Int.natCast_mul, ← hP2]; congr 1; omega
        omega
      have hq2 : 2 * S = (P2 : Int) := by rw [hpr, ← Int.mul_assoc, hP1]; exact hP2
      have hq : (P2 : Int).tdiv 2 = S := by rw [Int.tdiv_eq_ediv_of_nonneg (by omega)]; omega
      have hw : ∀ x : Int, 0 ≤ x → x ≤ 1000 → wrap64 x = x := by intro x h1 h2; unfold wrap64; omega
      have hT : wrap64 ((wrap64 (wrap64 ((vv.length : Int) * (k : Int)) * ((k : Int) - 1))).tdiv 2) = S := by
        rw [hP1, hw P1 (by omega) (by omega), hP2, hw P2 (by omega) (by omega), hq, hw S (by omega) (by omega)]
      have hcr := circle_rd wr
      have B1 := fun W h => implHasCircle_any (.slice (some ⟨wr.heap.size + 1 + 1 + 1, 0, none⟩) 3 3) circle3 W h
      have B2 := fun W h => implFirstByPairs_any (.slice (some ⟨wr.heap.size + 1 + 1 + 1, 0, none⟩) 3 3) circle3 W h
      rw [circle3_facts.1] at B1
      rw [circle3_facts.2] at B2
      have HB1 := Lib.hid B1
      have HB2 := Lib.hid B2
      have hvt := Hv.out
      rw [hvt] at C6
      clear hS hpr hbf hmx hfb hpp hps hcs hq2 hP1 hP2 hq hw B1 B2 hvt C4 hPg HPl H0
      go_upto_region 29 with (fail)
      have hbz : Below wr.heap.size wr ((((wr.alloc (.cells #[.int .i64 0, .int .i64 1, .int .i64 2] 3)).alloc (.cells #[.int .i64 1, .int .i64 2, .int .i64 0] 3)).alloc (.cells #[.int .i64 2, .int .i64 0, .int .i64 1] 3)).alloc (.cells #[.slice (some ⟨wr.heap.size, 0, none⟩) 3 3, .slice (some ⟨wr.heap.size + 1, 0, none⟩) 3 3, .slice (some ⟨wr.heap.size + 1 + 1, 0, none⟩) 3 3] 26)) := by (repeat' (first | (with_reducible exact Below.refl _ _) | (with_reducible assumption) | (with_reducible refine Below.setCell ?_ (by first | omega | (simp; omega) | (simp; done)) _) | (with_reducible refine Below.alloc ?_ (by first | omega | (simp; omega) | (simp; done)) _) | (with_reducible refine Below.drew ?_) | (with_reducible refine below_drewN ?_ _)))
      generalize ((((wr.alloc (.cells #[.int .i64 0, .int .i64 1, .int .i64 2] 3)).alloc (.cells #[.int .i64 1, .int .i64 2, .int .i64 0] 3)).alloc (.cells #[.int .i64 2, .int .i64 0, .int .i64 1] 3)).alloc (.cells #[.slice (some ⟨wr.heap.size, 0, none⟩) 3 3, .slice (some ⟨wr.heap.size + 1, 0, none⟩) 3 3, .slice (some ⟨wr.heap.size + 1 + 1, 0, none⟩) 3 3] 26)) = wz at *
      have hbwz : Below w.heap.size w wz := bl_trans hbw5 hbz
      have hrdz := hrd5.below hbz
      go_wp2_with fail
      refine (HB1.out _ hcr).mono ?_
      rintro e w6 ⟨rfl, hb6⟩
      have hcr6 := hcr.below hb6
      have hrd6 := hrdz.below hb6
      have hbw6 := bl_trans hbwz hb6
      clear hcr hrdz hbwz hb6
      go_wp2_with fail
      refine (HB2.out _ hcr6).mono ?_
      rintro e w7 ⟨rfl, hb7⟩
      have hrd7 := hrd6.below hb7
      have hbw7 := bl_trans hbw6 hb7
      clear hcr6 hrd6 hbw6 hb7
      by_cases h2 : 2 < k
      · have h2' : (2 : Int) < (k : Int) := by omega
        go_wp2_with fail
        refine (C6.out _ hrd7).mono ?_
        rintro e w8 ⟨rfl, hb8⟩
        go_wp2_with fail
        go_ret
        exact ⟨rfl, bl_trans hbw7 hb8⟩
      · have h2' : ¬ (2 : Int) < (k : Int) := by omega
        rw [hcq (by omega)] at C5
        go_wp2_with fail
        refine (C5.out _ hrd7).mono ?_
        rintro e w8 ⟨rfl, hb8⟩
        have hrd8 := hrd7.below hb8
        have hbw8 := bl_trans hbw7 hb8
        go_wp2_with fail
        refine (C6.out _ hrd8).mono ?_
        rintro e w9 ⟨rfl, hb9⟩
        go_wp2_with fail
        go_ret
        exact ⟨rfl, bl_trans hbw8 hb9⟩

set_option maxRecDepth 100000 in
set_option maxHeartbeats 1000000 in
theorem fnVotes_lifted (os : Os) (started : os.Started) (H : Type) (enc : TypeId × Value → H) :
    ReturnsInHanded {} Try.checked os 3 .any (Rows.fnVotesSpec.pre6 enc Try.prog Try.f3 Rows.fnVotesRow.domain false) (Rows.fnVotesSpec.post enc Try.prog Try.f3 false true false false) := by
  refine returnsInHanded_of_change (C := Try.checked) tryOwn started (by kernel_rfl) Try.func3
    (ChangeSpec.witness6 (enc := enc) (C := Try.checked) false ⟨#[], #[.slice none 0 0], []⟩ 12 (by kernel_rfl) (by kernel_rfl) (by kernel_rfl) (by kernel_rfl)) ?_
  intro W base args ds gs before hval0 hW hcnd _
  have hval : ∀ (j : Nat) t v, Try.f3.params[j]? = some t → args[j]? = some v → Value.okWide Try.prog W .any base t v := hval0
  have hW' := hW
  obtain ⟨p, q, hA0, hV, rfl, hfz, hnd⟩ := hW
  have hA : DataW.TrodAll enc Try.prog W 0 (fun _ => true) true Try.f3.params.toList args.toList ds p := hA0
  rw [Try.params3] at hA hval
  obtain ⟨v0, vs0, d0, ds0, p0, q0, hargs, rfl, rfl, h0, r0⟩ := trodAll_cons hA
  obtain ⟨rfl, rfl, rfl⟩ := trodAll_nil r0
  obtain rfl : args = #[v0] := by cases args; simp_all
  obtain ⟨rfl, rfl⟩ := trodVars_none hV
  have e0 := h0
  have lt0 : ∀ x ∈ p0, x.block < W.heap.size := by obtain ⟨m, hm⟩ := e0; exact DataW.trod_lt m _ _ _ hm
  have ok0 := hval 0 22 v0 rfl rfl
  clear hA0 hval0 hval
  obtain ⟨xs, hrd, hby⟩ := arg_slice Try.underlying22 ok0 h0 (opens_slice (f := cU8) (size := 1) Try.underlying22 (by kernel_rfl) (by omega) cU8_len (opens_u8 Try.underlying5))
  obtain ⟨A, c, rfl, _⟩ := RdS.form hrd
  refine (lawFnVotes_any A c xs W hrd hby).mono fun e W' ⟨he, bel⟩ => ?_
  subst he
  exact ⟨_, rfl, _, _, _, [], _, [], hW', trodAll_mk1 (shut_bool Try.underlying4 _), (trodAll_cons_mk (Below.trod tryLaid (by kernel_rfl) (of_decide_eq_true (by kernel_rfl)) e0 bel lt0) trodAll_mk0), rfl, bel.frame _, fun h => by cases h⟩

theorem fnVotes_holds : Rows.FnVotesSaid :=
  OpenClaim.holds_of_wide 3 Try.f3 rfl rfl rfl rfl rfl rfl rfl ⟨rfl, rfl, rfl, rfl, rfl⟩ rfl rfl rfl rfl rfl (by kernel_rfl) Try.func3 (by kernel_rfl)
    (of_decide_eq_true (by kernel_rfl)) (by unfold Func.isWrapper; first | (rw [if_pos (by decide +kernel)]; kernel_rfl) | (rw [if_neg (by decide +kernel)]; exact ⟨rfl, rfl⟩))
    (fun os started H enc _ => fnVotes_lifted os started H enc)
#print axioms fnVotes_holds
end Go.Proofs.Ytkejgogheonakaa
