/- Contracts: TiltArm of the reference. Written by a program (gen_k12.py). -/
import Derived.Test.YthponccjbbkhaaaK12
import Derived.StillTailTactics
namespace Go.Proofs.Ythponccjbbkhaaa
open Go.RowKit
theorem chg_drewN {w w' : World} {S : List Nat} (h : Chg S w w') (n : Nat) : Chg S w (w'.drewN n) := ⟨h.os, h.tape, h.output, h.size, h.block⟩
theorem l01In_t {n a b : Int} {w : World} (h : inB n a b = true) : Calls Try.prog 78 #[.int .i64 n, .int .i64 a, .int .i64 b] w fun e w' => e = .returned (.bool true) ∧ w = w' := h ▸ l01In_any n a b w
theorem tilt_all_iff {d : List Int} {i : Nat} {b : Int} (hi : i < d.length) (hij : d.length - 1 - i ≠ i) (h : allB (-50) 50 d = true) : allB (-50) 50 (tiltN d i b) = true ↔ (inB (d[i] + b) (-50) 50 = true ∧ inB (d[d.length - 1 - i] - b) (-50) 50 = true) := by
  have hj : d.length - 1 - i < d.length := by omega
  have hN : tiltN d i b = (d.set i (d[i] + b)).set (d.length - 1 - i) (d[d.length - 1 - i] - b) := by unfold tiltN; rw [getD_at hi, getD_at hj]
  rw [hN]
  unfold allB
  constructor
  · intro h'
    rw [List.all_eq_true] at h'
    refine ⟨h' _ ?_, h' _ ?_⟩
    · exact List.mem_iff_getElem.2 ⟨i, by simpa using hi, by rw [List.getElem_set_ne hij, List.getElem_set_self]⟩
    · exact List.mem_iff_getElem.2 ⟨d.length - 1 - i, by simpa using hj, by rw [List.getElem_set_self]⟩
  · rintro ⟨h1, h2⟩
    rw [List.all_eq_true]
    intro x hx
    rcases List.mem_or_eq_of_mem_set hx with hx | rfl
    · rcases List.mem_or_eq_of_mem_set hx with hx | rfl
      · exact List.all_eq_true.1 h x hx
      · exact h1
    · exact h2
theorem all_upto {d : List Int} {k : Nat} (hk : k < d.length) (h : (d.take k).all (fun n => inB n (-50) 50) = true) (h1 : inB d[k] (-50) 50 = true) : (d.take (k + 1)).all (fun n => inB n (-50) 50) = true := all_take_succ hk h h1
set_option maxHeartbeats 8000000 in
set_option maxRecDepth 100000 in
theorem specTilt_no (ht a b : Int) (v1 v2 : Value) (d1 : List Int) (d2 : List RCord) (w : World) (h : RdControl w v1 v2 d1 d2) (hsz : szControl d1 d2 ≤ 1048576) (hno : tiltOk d1 a b = false) :
    Calls Try.prog 64 #[.agg #[.int .i64 ht, v1, v2], .int .i64 a, .int .i64 b] w (RetTilt ht (tiltF d1 a b) d2 w) := by
  obtain ⟨⟨A1, n1, rfl⟩, ⟨A2, n2, rfl⟩⟩ := h.forms
  have hdl : d1.length ≤ 1048576 := by unfold szControl at hsz; omega
  have Hno := Lib.hid hno
  clear hno
  go_enter Try.func64, Try.ntmps64
  go_wp2_with fail
  refine (l05Copy_any ht _ _ d1 d2 _ (h.below (by (repeat' (first | (with_reducible exact Below.refl _ _) | (with_reducible assumption) | (with_reducible refine Below.setCell ?_ (by first | omega | (simp; omega) | (simp; done)) _) | (with_reducible refine Below.alloc ?_ (by first | omega | (simp; omega) | (simp; done)) _) | (with_reducible refine Below.drew ?_) | (with_reducible refine below_drewN ?_ _))))) hsz).mono ?_
  rintro e W1 ⟨x1, x2, S, rfl, ow, f1, q⟩
  obtain ⟨⟨B1, k1, rfl⟩, ⟨B2, k2, rfl⟩⟩ := ow.rd.forms
  have Lc : Loc W1 (w.heap.size) [.int .i64 ht, .slice A1 d1.length n1, .slice A2 d2.length n2] := by have := ((Loc.new w #[.int .i64 ht, .slice A1 d1.length n1, .slice A2 d2.length n2] 27).alloc _).below q; simpa using this
  have Lr : Loc W1 (w.heap.size + 1) [.int .i64 0, .slice none 0 0, .slice none 0 0] := by have := (Loc.new (w.alloc (.cells #[.int .i64 ht, .slice A1 d1.length n1, .slice A2 d2.length n2] 27)) #[.int .i64 0, .slice none 0 0, .slice none 0 0] 27).below q; simpa using this
  have hb : Below w.heap.size w W1 := Below.trans (by (repeat' (first | (with_reducible exact Below.refl _ _) | (with_reducible assumption) | (with_reducible refine Below.setCell ?_ (by first | omega | (simp; omega) | (simp; done)) _) | (with_reducible refine Below.alloc ?_ (by first | omega | (simp; omega) | (simp; done)) _) | (with_reducible refine Below.drew ?_) | (with_reducible refine below_drewN ?_ _)))) (q.mono (by simp <;> omega))
  have hz0 : w.heap.size + 1 + 1 ≤ W1.heap.size := by have := q.size; simp at this; omega
  have hlow : w.heap.size + 1 + 1 ≤ (((w.alloc (.cells #[.int .i64 ht, .slice A1 d1.length n1, .slice A2 d2.length n2] 27)).alloc (.cells #[.int .i64 0, .slice none 0 0, .slice none 0 0] 27))).heap.size := by first | exact Nat.le_refl _ | (simp; done) | (simp; omega) | omega
  have FK := Lib.hid (fresh_mono f1 hlow (Nat.le_refl _))
  have DK : Hid (∀ x ∈ S, x ∉ [w.heap.size, w.heap.size + 1]) := (fun x hx => by have := (FK.out.2 x hx).1; simp; omega)
  have OK := Lib.hid ow
  clear ow f1 hlow
  clear q
  go_upto_region 2 with (fail)
  replace Lc : Loc (W1.alloc (.cells #[.int .i64 ht, .slice B1 d1.length k1, .slice B2 d2.length k2] 27)) (w.heap.size) [.int .i64 ht, .slice A1 d1.length n1, .slice A2 d2.length n2] := Lc.alloc _
  replace Lr : Loc (W1.alloc (.cells #[.int .i64 ht, .slice B1 d1.length k1, .slice B2 d2.length k2] 27)) (w.heap.size + 1) [.int .i64 0, .slice none 0 0, .slice none 0 0] := Lr.alloc _
  obtain ⟨go, hgo⟩ : ∃ g, W1.heap.size = g := ⟨_, rfl⟩
  have Lo : Loc (W1.alloc (.cells #[.int .i64 ht, .slice B1 d1.length k1, .slice B2 d2.length k2] 27)) W1.heap.size [.int .i64 ht, .slice B1 d1.length k1, .slice B2 d2.length k2] := Loc.new W1 #[.int .i64 ht, .slice B1 d1.length k1, .slice B2 d2.length k2] 27
  rw [hgo] at Lo
  have OK' := Lib.hid (OK.out.below (w' := (W1.alloc (.cells #[.int .i64 ht, .slice B1 d1.length k1, .slice B2 d2.length k2] 27))) ((Below.refl _ _).alloc (Nat.le_refl _) _))
  clear OK; have OK := OK'; clear OK'
  have DK' : Hid (∀ x ∈ S, x ∉ [w.heap.size, w.heap.size + 1, go]) := (fun x hx => by have := DK.out x hx; have := (FK.out.2 x hx).2; simp at *; omega)
  clear DK; have DK := DK'; clear DK'
  have FK' := Lib.hid (fresh_mono (w' := (W1.alloc (.cells #[.int .i64 ht, .slice B1 d1.length k1, .slice B2 d2.length k2] 27))) FK.out (Nat.le_refl _) (by simp))
  clear FK; have FK := FK'; clear FK'
  replace hb : Below w.heap.size w (W1.alloc (.cells #[.int .i64 ht, .slice B1 d1.length k1, .slice B2 d2.length k2] 27)) := hb.alloc hb.size _
  have hlto : go < (W1.alloc (.cells #[.int .i64 ht, .slice B1 d1.length k1, .slice B2 d2.length k2] 27)).heap.size := by simp; omega
  have hne_c_o : w.heap.size < go := by omega
  have hne_r_o : w.heap.size + 1 < go := by omega
  generalize W1.alloc (.cells #[.int .i64 ht, .slice B1 d1.length k1, .slice B2 d2.length k2] 27) = W2 at *
  rw [hgo]
  clear hgo
  have c1 := (Lc 1 _ rfl).1
  have o0 := (Lo 0 _ rfl).1
  have o1 := (Lo 1 _ rfl).1
  have o2 := (Lo 2 _ rfl).1
  have r0 := (Lr 0 _ rfl).1
  have rf0 := (Lr 0 _ rfl).2
  have r1 := (Lr 1 _ rfl).1
  have rf1 := (Lr 1 _ rfl).2
  have r2 := (Lr 2 _ rfl).1
  have rf2 := (Lr 2 _ rfl).2
  by_cases h8 : d1.length ≤ 8
  · skip
    go_wp2_with (go_at_call 78; refine twoI (l01In_any _ _ _ _) (fun hc hm hm' => ?_) (fun hc => ?_))
    · have Hc1 : Hid (inB a 0 (d1.length - 1) = true) := by assumption
      have Hc2 := hc
      have hrd := (h.below hb).1
      have Hrd := Lib.hid hrd
      clear hrd
      go_loop [10] (fun i => ∃ k : Nat, k ≤ d1.length ∧ i = .int .i64 k ∧ Hid ((d1.take k).all (fun n => inB n (-50) 50) = true)) (fun i => d1.length - (intOf i).toNat)
      case atStart => exact ⟨0, Nat.zero_le _, rfl, by rfl⟩
      case round =>
        obtain ⟨k, hk, rfl, hall⟩ := hrel
        by_cases hlt : k < d1.length
        · obtain ⟨gc, offc, rfl, hgc, hcc⟩ := RdL.cell Hrd.out cInt_len (by omega) hlt
          have kc := hcc 0 _ rfl
          simp only [Nat.add_zero, Nat.mul_one] at kc
          clear hcc
          go_wp2_with (go_at_call 78; refine two (l01In_any _ _ _ _) (fun hq => ?_) (fun hq => ?_))
          · go_round
            case rel => exact ⟨k + 1, by omega, by go_num, all_upto hlt hall.out hq.out⟩
            case measure => simp [intOf]; omega
          · refine bodyPost_ret (v := .tuple #[.agg #[.int .i64 ht, .slice B1 d1.length k1, .slice B2 d2.length k2], .bool false]) (by simp [results, Try.results64, go_sem, *]) rfl (tilt_no Hno.out ⟨_, _, S, rfl, ?_, ?_, ?_⟩)
            · exact OK.out.chg (T := [w.heap.size + 1]) (by repeat' (first | (with_reducible exact Chg.refl _ _) | (with_reducible refine chg_set ?_ (by simp)))) (fun x hx hx' => DK.out x hx (by simp at hx'; subst hx'; simp))
            · exact fresh_mono FK.out (by omega) (by simp)
            · exact Below.chg hb (S := [w.heap.size + 1]) (by repeat' (first | (with_reducible exact Chg.refl _ _) | (with_reducible refine chg_set ?_ (by simp)))) hb.size (fun x hx => by simp at hx; omega)
        · obtain rfl : k = d1.length := by omega
          have hfull : allB (-50) 50 d1 = true := by have := hall.out; rw [List.take_length] at this; exact this
          clear hall
          exact absurd (tilt_all Hc1.out Hc2.out h8 hfull) (by rw [Hno.out]; simp)
    all_goals
      refine bodyPost_ret (v := .tuple #[.agg #[.int .i64 ht, .slice B1 d1.length k1, .slice B2 d2.length k2], .bool false]) (by simp [results, Try.results64, go_sem, *]) rfl (tilt_no Hno.out ⟨_, _, S, rfl, ?_, ?_, ?_⟩)
      · exact OK.out.chg (T := [w.heap.size + 1]) (by repeat' (first | (with_reducible exact Chg.refl _ _) | (with_reducible refine chg_set ?_ (by simp)))) (fun x hx hx' => DK.out x hx (by simp at hx'; subst hx'; simp))
      · exact fresh_mono FK.out (by omega) (by simp)
      · exact Below.chg hb (S := [w.heap.size + 1]) (by repeat' (first | (with_reducible exact Chg.refl _ _) | (with_reducible refine chg_set ?_ (by simp)))) hb.size (fun x hx => by simp at hx; omega)
  · skip
    go_wp2_with (go_at_call 78; refine twoI (l01In_any _ _ _ _) (fun hc hm hm' => ?_) (fun hc => ?_))
    all_goals
      refine bodyPost_ret (v := .tuple #[.agg #[.int .i64 ht, .slice B1 d1.length k1, .slice B2 d2.length k2], .bool false]) (by simp [results, Try.results64, go_sem, *]) rfl (tilt_no Hno.out ⟨_, _, S, rfl, ?_, ?_, ?_⟩)
      · exact OK.out.chg (T := [w.heap.size + 1]) (by repeat' (first | (with_reducible exact Chg.refl _ _) | (with_reducible refine chg_set ?_ (by simp)))) (fun x hx hx' => DK.out x hx (by simp at hx'; subst hx'; simp))
      · exact fresh_mono FK.out (by omega) (by simp)
      · exact Below.chg hb (S := [w.heap.size + 1]) (by repeat' (first | (with_reducible exact Chg.refl _ _) | (with_reducible refine chg_set ?_ (by simp)))) hb.size (fun x hx => by simp at hx; omega)
set_option maxHeartbeats 8000000 in
set_option maxRecDepth 100000 in
theorem specTilt_yes (ht b : Int) (i : Nat) (v1 v2 : Value) (d1 : List Int) (d2 : List RCord) (w : World) (h : RdControl w v1 v2 d1 d2) (hsz : szControl d1 d2 ≤ 1048576) (hok : tiltOk d1 i b = true) :
    Calls Try.prog 64 #[.agg #[.int .i64 ht, v1, v2], .int .i64 i, .int .i64 b] w (RetTilt ht (tiltF d1 i b) d2 w) := by
  obtain ⟨⟨A1, n1, rfl⟩, ⟨A2, n2, rfl⟩⟩ := h.forms
  have hdl : d1.length ≤ 1048576 := by unfold szControl at hsz; omega
  obtain ⟨hw1, hw2, h8, hw4⟩ := tilt_ok hok
  have hil := inB_iff.1 hw1
  have hi : i < d1.length := by omega
  have hi2 : d1.length - 1 - i < d1.length := by omega
  have hbb := inB_iff.1 hw2
  obtain ⟨hb1, hb2⟩ := hbb
  have Hok := Lib.hid hok
  replace hw1 := Lib.hid hw1
  replace hw2 := Lib.hid hw2
  have hvi := allB_at hw4 hi
  have hvj := allB_at hw4 hi2
  replace hw4 := Lib.hid hw4
  clear hok hil
  go_enter Try.func64, Try.ntmps64
  go_wp2_with fail
  refine (l05Copy_any ht _ _ d1 d2 _ (h.below (by (repeat' (first | (with_reducible exact Below.refl _ _) | (with_reducible assumption) | (with_reducible refine Below.setCell ?_ (by first | omega | (simp; omega) | (simp; done)) _) | (with_reducible refine Below.alloc ?_ (by first | omega | (simp; omega) | (simp; done)) _) | (with_reducible refine Below.drew ?_) | (with_reducible refine below_drewN ?_ _))))) hsz).mono ?_
  rintro e W1 ⟨x1, x2, S, rfl, ow, f1, q⟩
  obtain ⟨⟨B1, k1, rfl⟩, ⟨B2, k2, rfl⟩⟩ := ow.rd.forms
  have Lc : Loc W1 (w.heap.size) [.int .i64 ht, .slice A1 d1.length n1, .slice A2 d2.length n2] := by have := ((Loc.new w #[.int .i64 ht, .slice A1 d1.length n1, .slice A2 d2.length n2] 27).alloc _).below q; simpa using this
  have Lr : Loc W1 (w.heap.size + 1) [.int .i64 0, .slice none 0 0, .slice none 0 0] := by have := (Loc.new (w.alloc (.cells #[.int .i64 ht, .slice A1 d1.length n1, .slice A2 d2.length n2] 27)) #[.int .i64 0, .slice none 0 0, .slice none 0 0] 27).below q; simpa using this
  have hb : Below w.heap.size w W1 := Below.trans (by (repeat' (first | (with_reducible exact Below.refl _ _) | (with_reducible assumption) | (with_reducible refine Below.setCell ?_ (by first | omega | (simp; omega) | (simp; done)) _) | (with_reducible refine Below.alloc ?_ (by first | omega | (simp; omega) | (simp; done)) _) | (with_reducible refine Below.drew ?_) | (with_reducible refine below_drewN ?_ _)))) (q.mono (by simp <;> omega))
  have hz0 : w.heap.size + 1 + 1 ≤ W1.heap.size := by have := q.size; simp at this; omega
  have hlow : w.heap.size + 1 + 1 ≤ (((w.alloc (.cells #[.int .i64 ht, .slice A1 d1.length n1, .slice A2 d2.length n2] 27)).alloc (.cells #[.int .i64 0, .slice none 0 0, .slice none 0 0] 27))).heap.size := by first | exact Nat.le_refl _ | (simp; done) | (simp; omega) | omega
  have FK := Lib.hid (fresh_mono f1 hlow (Nat.le_refl _))
  have DK : Hid (∀ x ∈ S, x ∉ [w.heap.size, w.heap.size + 1]) := (fun x hx => by have := (FK.out.2 x hx).1; simp; omega)
  have OK := Lib.hid ow
  clear ow f1 hlow
  clear q
  go_upto_region 2 with (fail)
  replace Lc : Loc (W1.alloc (.cells #[.int .i64 ht, .slice B1 d1.length k1, .slice B2 d2.length k2] 27)) (w.heap.size) [.int .i64 ht, .slice A1 d1.length n1, .slice A2 d2.length n2] := Lc.alloc _
  replace Lr : Loc (W1.alloc (.cells #[.int .i64 ht, .slice B1 d1.length k1, .slice B2 d2.length k2] 27)) (w.heap.size + 1) [.int .i64 0, .slice none 0 0, .slice none 0 0] := Lr.alloc _
  obtain ⟨go, hgo⟩ : ∃ g, W1.heap.size = g := ⟨_, rfl⟩
  have Lo : Loc (W1.alloc (.cells #[.int .i64 ht, .slice B1 d1.length k1, .slice B2 d2.length k2] 27)) W1.heap.size [.int .i64 ht, .slice B1 d1.length k1, .slice B2 d2.length k2] := Loc.new W1 #[.int .i64 ht, .slice B1 d1.length k1, .slice B2 d2.length k2] 27
  rw [hgo] at Lo
  have OK' := Lib.hid (OK.out.below (w' := (W1.alloc (.cells #[.int .i64 ht, .slice B1 d1.length k1, .slice B2 d2.length k2] 27))) ((Below.refl _ _).alloc (Nat.le_refl _) _))
  clear OK; have OK := OK'; clear OK'
  have DK' : Hid (∀ x ∈ S, x ∉ [w.heap.size, w.heap.size + 1, go]) := (fun x hx => by have := DK.out x hx; have := (FK.out.2 x hx).2; simp at *; omega)
  clear DK; have DK := DK'; clear DK'
  have FK' := Lib.hid (fresh_mono (w' := (W1.alloc (.cells #[.int .i64 ht, .slice B1 d1.length k1, .slice B2 d2.length k2] 27))) FK.out (Nat.le_refl _) (by simp))
  clear FK; have FK := FK'; clear FK'
  replace hb : Below w.heap.size w (W1.alloc (.cells #[.int .i64 ht, .slice B1 d1.length k1, .slice B2 d2.length k2] 27)) := hb.alloc hb.size _
  have hlto : go < (W1.alloc (.cells #[.int .i64 ht, .slice B1 d1.length k1, .slice B2 d2.length k2] 27)).heap.size := by simp; omega
  have hne_c_o : w.heap.size < go := by omega
  have hne_r_o : w.heap.size + 1 < go := by omega
  generalize W1.alloc (.cells #[.int .i64 ht, .slice B1 d1.length k1, .slice B2 d2.length k2] 27) = W2 at *
  rw [hgo]
  clear hgo
  have c1 := (Lc 1 _ rfl).1
  have o0 := (Lo 0 _ rfl).1
  have o1 := (Lo 1 _ rfl).1
  have o2 := (Lo 2 _ rfl).1
  have r0 := (Lr 0 _ rfl).1
  have rf0 := (Lr 0 _ rfl).2
  have r1 := (Lr 1 _ rfl).1
  have rf1 := (Lr 1 _ rfl).2
  have r2 := (Lr 2 _ rfl).1
  have rf2 := (Lr 2 _ rfl).2
  go_wp2_with (go_at_call 78; refine (l01In_t (by first | exact hw1.out | exact hw2.out)).mono ?_; rintro e w' ⟨rfl, rfl⟩)
  have hrd := (h.below hb).1
  have Hrd := Lib.hid hrd
  clear hrd
  go_loop [10] (fun i => ∃ k : Nat, k ≤ d1.length ∧ i = .int .i64 k ∧ Hid ((d1.take k).all (fun n => inB n (-50) 50) = true)) (fun i => d1.length - (intOf i).toNat)
  case atStart => exact ⟨0, Nat.zero_le _, rfl, by rfl⟩
  case round =>
    obtain ⟨k, hk, rfl, hall⟩ := hrel
    by_cases hlt : k < d1.length
    · obtain ⟨gc, offc, rfl, hgc, hcc⟩ := RdL.cell Hrd.out cInt_len (by omega) hlt
      have kc := hcc 0 _ rfl
      simp only [Nat.add_zero, Nat.mul_one] at kc
      clear hcc
      have hqt : Hid (inB d1[k] (-50) 50 = true) := List.all_eq_true.1 hw4.out _ (List.getElem_mem hlt)
      go_wp2_with (go_at_call 78; refine (l01In_t hqt.out).mono ?_; rintro e w' ⟨rfl, rfl⟩)
      go_round
      case rel => exact ⟨k + 1, by omega, by go_num, all_upto hlt hall.out hqt.out⟩
      case measure => simp [intOf]; omega
    · obtain rfl : k = d1.length := by omega
      have hfull : allB (-50) 50 d1 = true := by have := hall.out; rw [List.take_length] at this; exact this
      clear hall
      clear hfull hlt hk
      by_cases hij : d1.length - 1 - i = i
      · have hne : ((d1.length : Int) - 1 - i == i) = true := by rw [beq_iff_eq]; omega
        have Hij := Lib.hid hij
        clear hij
        go_wp2_with fail
        refine bodyPost_ret (v := .tuple #[.agg #[.int .i64 ht, .slice B1 d1.length k1, .slice B2 d2.length k2], .bool true]) (by simp [results, Try.results64, go_sem, *]) rfl (tilt_eq Hok.out Hij.out ⟨_, _, S, rfl, ?_, ?_, ?_⟩)
        · exact OK.out.chg (T := [w.heap.size + 1]) (by repeat' (first | (with_reducible exact Chg.refl _ _) | (with_reducible refine chg_set ?_ (by simp)))) (fun x hx hx' => DK.out x hx (by simp at hx'; subst hx'; simp))
        · exact fresh_mono FK.out (by omega) (by simp)
        · exact Below.chg hb (S := [w.heap.size + 1]) (by repeat' (first | (with_reducible exact Chg.refl _ _) | (with_reducible refine chg_set ?_ (by simp)))) hb.size (fun x hx => by simp at hx; omega)
      · have hne : ((d1.length : Int) - 1 - i == i) = false := by rw [beq_eq_false_iff_ne]; omega
        have Htl := Lib.hid (tilt_all_iff (b := b) hi hij hw4.out)
        have hw6 : ((d1.length : Int) - 1 - i).toNat = d1.length - 1 - i := by omega
        have hw7 : (0 : Int) ≤ (d1.length : Int) - 1 - i := by omega
        have hw8 : (d1.length : Int) - 1 - i < d1.length := by omega
        have hw9 : (i : Int) ≤ (d1.length : Int) - 1 := by omega
        have hw10 : (d1.length : Int) - 1 < (d1.length : Int) + i := by omega
        have hw11 : (d1.length : Int) ≤ (d1.length : Int) - 1 - i + 1 + i := by omega
        have hwi0 : (0 : Int) ≤ (i : Int) := by omega
        have hwi1 : (i : Int) < d1.length := by omega
        obtain ⟨gc, offc, rfl, hgc, hcc⟩ := RdL.cell Hrd.out cInt_len (by omega) hi
        have kc := hcc 0 _ rfl
        obtain ⟨gc', offc', hAA, hgc', hcc'⟩ := RdL.cell Hrd.out cInt_len (by omega) hi2
        injection hAA with hAA
        injection hAA with e1 e2
        subst e1 e2
        have kd := hcc' 0 _ rfl
        simp only [Nat.add_zero, Nat.mul_one] at kc kd
        clear hcc hcc'
        generalize hdi : d1[i] = di at *
        generalize hdj : d1[d1.length - 1 - i] = dj at *
        have Hdi := Lib.hid hdi
        have Hdj := Lib.hid hdj
        have Hij := Lib.hid hij
        have hij' : i ≠ d1.length - 1 - i := fun e => hij e.symm
        clear hdi hdj hij
        go_wp2_with (go_at_call 78; refine twoI (l01In_any _ _ _ _) (fun hc hm hm' => ?_) (fun hc => ?_))
        · skip
          have Hc1 : Hid (inB (di + b) (-50) 50 = true) := by assumption
          have Hc2 := hc
          obtain ⟨SK1, SK2, eK, oK, pK⟩ := OK.out
          have FKx := FK.out
          have DKx := DK.out
          rw [eK] at FKx DKx
          have OK1 := Lib.hid oK
          have OK2 := Lib.hid pK
          have FK1 := Lib.hid (fresh_left FKx)
          have FK2 := Lib.hid (fresh_right FKx)
          have DK1 : Hid (∀ x ∈ SK1, x ∉ [w.heap.size, w.heap.size + 1, go]) := (fun x hx => DKx x (List.mem_append_left _ hx))
          have DK2 : Hid (∀ x ∈ SK2, x ∉ [w.heap.size, w.heap.size + 1, go]) := (fun x hx => DKx x (List.mem_append_right _ hx))
          have JK : Hid (∀ x ∈ SK1, x ∉ SK2) := (nodup2 FKx.1).2.2.1
          clear OK FK DK FKx DKx oK pK
          obtain ⟨gB, capB, hv⟩ := own_form OK1.out.1 (by omega)
          injection hv with hv1 hv2 hv3
          subst hv1 hv3
          have hS1 : SK1 = [gB] := OK1.out.2
          have hown := OK1.out.1
          have ci := (hown.cellAt i (by have := hown.1; omega)).trans (flat_getI d1 i hi)
          have cj := (hown.cellAt (d1.length - 1 - i) (by have := hown.1; omega)).trans (flat_getI d1 (d1.length - 1 - i) hi2)
          have fi := hown.frozenAt i
          have fj := hown.frozenAt (d1.length - 1 - i)
          have Hown := Lib.hid hown
          have HS1 := Lib.hid hS1
          clear hown hS1 hv2
          have hg1 : ¬ gB = go := fun e => DK1.out gB (by rw [HS1.out]; simp) (by simp [e])
          have hg2 : ¬ go = gB := fun e => hg1 e.symm
          have hg3 : ¬ gB = w.heap.size := fun e => DK1.out gB (by rw [HS1.out]; simp) (by simp [e])
          have hg4 : ¬ w.heap.size = gB := fun e => hg3 e.symm
          have hgcw : gc < w.heap.size := by
            obtain ⟨g2, o2', hA2, hg2w, _⟩ := RdL.cell h.1 cInt_len (by omega) hi
            injection hA2 with hA2
            injection hA2 with e1 e2
            subst e1 e2
            exact hg2w
          have hg5 : ¬ gB = gc := fun e => by have := (FK1.out.2 gB (by rw [HS1.out]; simp)).1; omega
          have hg6 : ¬ gc = gB := fun e => hg5 e.symm
          go_still_tail 11, (by kernel_rfl)
          change wpList _ _ _ _ _ W2.drew
          go_upto_region 16 with (fail)
          clear c1 o0 o1 o2 r0 rf0 r1 rf1 r2 rf2
          have hch : Chg [gB] W2 ((W2.setCell ⟨gB, i, none⟩ (.int .i64 (di + b))).drew) := chg_drewN (by repeat' (first | (with_reducible exact Chg.refl _ _) | (with_reducible refine chg_set ?_ (by simp)))) 1
          have kd' := carryChg hch kd (by simp; omega)
          replace Lc := Lc.chg hch (fun hm => DK1.out gB (by rw [HS1.out]; simp) (by simp at hm; subst hm; simp))
          replace Lr := Lr.chg hch (fun hm => DK1.out gB (by rw [HS1.out]; simp) (by simp at hm; subst hm; simp))
          replace Lo := Lo.chg hch (fun hm => DK1.out gB (by rw [HS1.out]; simp) (by simp at hm; subst hm; simp))
          have OK2' := Lib.hid (OK2.out.chg hch (fun x hx hx' => by simp at hx'; subst hx'; exact JK.out _ (by rw [HS1.out]; simp) hx))
          have FK1' := Lib.hid (fresh_mono (w' := (W2.setCell ⟨gB, i, none⟩ (.int .i64 (di + b))).drew) FK1.out (Nat.le_refl _) hch.size)
          have FK2' := Lib.hid (fresh_mono (w' := (W2.setCell ⟨gB, i, none⟩ (.int .i64 (di + b))).drew) FK2.out (Nat.le_refl _) hch.size)
          replace hb : Below w.heap.size w (W2.setCell ⟨gB, i, none⟩ (.int .i64 (di + b))).drew := Below.chg hb hch hb.size (by have := (FK1.out.2 gB (by rw [HS1.out]; simp)).1; simp; omega)
          have hzt_WA := hch.size
          clear OK2 FK1 FK2 hch kc kd ci cj fi fj OK1
          have Hown' : Hid (((W2.setCell ⟨gB, i, none⟩ (.int .i64 (di + b))).drew).ownsRow 0 3 1 (.slice (some ⟨gB, 0, none⟩) (d1.set i (di + b)).length k1) (d1.set i (di + b)).length ((d1.set i (di + b)).flatMap cInt)) := own_setI Hown.out i (di + b)
          clear Hown
          generalize (W2.setCell ⟨gB, i, none⟩ (.int .i64 (di + b))).drew = WA at *
          have Hown := Hown'; have OK2 := OK2'; have FK1 := FK1'; have FK2 := FK2'; have kd := kd'; clear Hown' OK2' FK1' FK2' kd'
          have hown := Hown.out
          have hlset : (d1.set i (di + b)).length = d1.length := List.length_set
          have ci : True := trivial
          have fi : True := trivial
          have cj := (hown.cellAt (d1.length - 1 - i) (by have := hown.1; rw [hlset] at this; omega)).trans (flat_getI (d1.set i (di + b)) (d1.length - 1 - i) (by rw [hlset]; exact hi2))
          have fj := hown.frozenAt (d1.length - 1 - i)
          rw [List.getElem_set_ne hij', Hdj.out] at cj
          clear hown hlset
          have c1 := (Lc 1 _ rfl).1
          have o1 := (Lo 1 _ rfl).1
          have hcast : (d1.length : Int) - 1 - i = ((d1.length - 1 - i : Nat) : Int) := by omega
          rw [hcast]
          obtain ⟨j, hj⟩ : ∃ j, d1.length - 1 - i = j := ⟨_, rfl⟩
          rw [hj] at kd cj fj hi2 ⊢
          have HJ2 := Lib.hid hj
          have hjc0 : (0 : Int) ≤ (j : Int) := by omega
          have hjc1 : (j : Int) < (d1.length : Int) := by omega
          clear hcast hw6 hw7 hw8 hw9 hw10 hw11 hj
          go_still_tail 11, (by kernel_rfl)
          change wpList _ _ _ _ _ WA.drew
          go_upto_region 17 with (fail)
          clear c1 o1
          have hch : Chg [gB] WA ((WA.setCell ⟨gB, j, none⟩ (.int .i64 (dj - b))).drew) := chg_drewN (by repeat' (first | (with_reducible exact Chg.refl _ _) | (with_reducible refine chg_set ?_ (by simp)))) 1
          replace Lc := Lc.chg hch (fun hm => DK1.out gB (by rw [HS1.out]; simp) (by simp at hm; subst hm; simp))
          replace Lr := Lr.chg hch (fun hm => DK1.out gB (by rw [HS1.out]; simp) (by simp at hm; subst hm; simp))
          replace Lo := Lo.chg hch (fun hm => DK1.out gB (by rw [HS1.out]; simp) (by simp at hm; subst hm; simp))
          have OK2' := Lib.hid (OK2.out.chg hch (fun x hx hx' => by simp at hx'; subst hx'; exact JK.out _ (by rw [HS1.out]; simp) hx))
          have FK1' := Lib.hid (fresh_mono (w' := (WA.setCell ⟨gB, j, none⟩ (.int .i64 (dj - b))).drew) FK1.out (Nat.le_refl _) hch.size)
          have FK2' := Lib.hid (fresh_mono (w' := (WA.setCell ⟨gB, j, none⟩ (.int .i64 (dj - b))).drew) FK2.out (Nat.le_refl _) hch.size)
          replace hb : Below w.heap.size w (WA.setCell ⟨gB, j, none⟩ (.int .i64 (dj - b))).drew := Below.chg hb hch hb.size (by have := (FK1.out.2 gB (by rw [HS1.out]; simp)).1; simp; omega)
          have hzt_WT := hch.size
          clear OK2 FK1 FK2 hch ci cj fi fj kd
          have on : ((WA.setCell ⟨gB, j, none⟩ (.int .i64 (dj - b))).drew).ownsRow 0 3 1 (.slice (some ⟨gB, 0, none⟩) d1.length k1) (tiltN d1 i b).length ((tiltN d1 i b).flatMap cInt) := by
            have h2 := own_setI Hown.out j (dj - b)
            rw [List.length_set, List.length_set] at h2
            rw [tiltN_len]; unfold tiltN; rw [getD_at hi, getD_at (by rw [HJ2.out]; exact hi2), Hdi.out, Hdj.out, HJ2.out]; exact h2
          have OK1' : Hid (OwL 3 cInt 1 ((WA.setCell ⟨gB, j, none⟩ (.int .i64 (dj - b))).drew) SK1 (.slice (some ⟨gB, 0, none⟩) d1.length k1) (tiltN d1 i b)) := ⟨on, HS1.out⟩
          clear on Hown
          generalize (WA.setCell ⟨gB, j, none⟩ (.int .i64 (dj - b))).drew = WT at *
          have OK1 := OK1'; have OK2 := OK2'; have FK1 := FK1'; have FK2 := FK2'; clear OK1' OK2' FK1' FK2'
          have OP : OwControl WT (SK1 ++ SK2) (.slice (some ⟨gB, 0, none⟩) d1.length k1) (.slice B2 d2.length k2) (tiltN d1 i b) d2 := ⟨_, _, rfl, OK1.out, OK2.out⟩
          have FQ := Lib.hid (fresh_join FK1.out FK2.out (JK.out))
          have DQ : Hid (∀ x ∈ SK1 ++ SK2, x ∉ [w.heap.size, w.heap.size + 1, go]) := (fun x hx => (List.mem_append.1 hx).elim (DK1.out x) (DK2.out x))
          have OQ := Lib.hid (OP)
          clear OK1 FK1 DK1 OK2 FK2 DK2
          obtain ⟨SQ, hSQ⟩ : ∃ T, SK1 ++ SK2 = T := ⟨_, rfl⟩
          rw [hSQ] at OQ FQ DQ
          clear hSQ
          clear OP
          have o0 := (Lo 0 _ rfl).1
          have o1 := (Lo 1 _ rfl).1
          have o2 := (Lo 2 _ rfl).1
          have r0 := (Lr 0 _ rfl).1
          have rf0 := (Lr 0 _ rfl).2
          have r1 := (Lr 1 _ rfl).1
          have rf1 := (Lr 1 _ rfl).2
          have r2 := (Lr 2 _ rfl).1
          have rf2 := (Lr 2 _ rfl).2
          go_wp2_with fail
          refine bodyPost_ret (v := .tuple #[.agg #[.int .i64 ht, .slice (some ⟨gB, 0, none⟩) d1.length k1, .slice B2 d2.length k2], .bool true]) (by simp [results, Try.results64, go_sem, *]) rfl (tilt_t Hok.out Hij.out (Htl.out.2 ⟨Hc1.out, Hc2.out⟩) ⟨_, _, SQ, rfl, ?_, ?_, ?_⟩)
          · exact OQ.out.chg (T := [w.heap.size + 1]) (by repeat' (first | (with_reducible exact Chg.refl _ _) | (with_reducible refine chg_set ?_ (by simp)))) (fun x hx hx' => DQ.out x hx (by simp at hx'; subst hx'; simp))
          · exact fresh_mono FQ.out (by omega) (by simp)
          · exact Below.chg hb (S := [w.heap.size + 1]) (by repeat' (first | (with_reducible exact Chg.refl _ _) | (with_reducible refine chg_set ?_ (by simp)))) hb.size (fun x hx => by simp at hx; omega)
        all_goals
          refine bodyPost_ret (v := .tuple #[.agg #[.int .i64 ht, .slice B1 d1.length k1, .slice B2 d2.length k2], .bool false]) (by simp [results, Try.results64, go_sem, *]) rfl (tilt_f Hok.out Hij.out (by rw [← Bool.not_eq_true, Htl.out]; intro hh; first | (have := hh.2; rw [hc.out] at this; cases this) | (have := hh.1; rw [hc.out] at this; cases this)) ⟨_, _, S, rfl, ?_, ?_, ?_⟩)
          · exact OK.out.chg (T := [w.heap.size + 1]) (by repeat' (first | (with_reducible exact Chg.refl _ _) | (with_reducible refine chg_set ?_ (by simp)))) (fun x hx hx' => DK.out x hx (by simp at hx'; subst hx'; simp))
          · exact fresh_mono FK.out (by omega) (by simp)
          · exact Below.chg hb (S := [w.heap.size + 1]) (by repeat' (first | (with_reducible exact Chg.refl _ _) | (with_reducible refine chg_set ?_ (by simp)))) hb.size (fun x hx => by simp at hx; omega)
theorem tiltF_len (d : List Int) (a b : Int) : (tiltF d a b).1.length = d.length := by
  unfold tiltF
  split
  · split
    · rfl
    · split
      · exact tiltN_len _ _ _
      · rfl
  · rfl
theorem tilt2 (ht a b : Int) (d1 : List Int) (d2 : List RCord) : ∃ ok d', szControl d' d2 = szControl d1 d2 ∧
    (∀ W v1 v2, RdControl W v1 v2 d1 d2 → szControl d1 d2 ≤ 1048576 → Calls Try.prog 64 #[.agg #[.int .i64 ht, v1, v2], .int .i64 a, .int .i64 b] W (RetControl ht ok d' d2 W)) ∧
    (∀ W v1 v2, RdControl W v1 v2 d1 d2 → szControl d1 d2 ≤ 1048576 → Calls Try.prog 23 #[.agg #[.int .i64 ht, v1, v2], .int .i64 a, .int .i64 b] W (RetControl ht ok d' d2 W)) := by
  refine ⟨(tiltF d1 a b).2, (tiltF d1 a b).1, by unfold szControl; rw [tiltF_len], ?_, ?_⟩
  · intro W v1 v2 hr hs
    cases h : tiltOk d1 a b
    · exact specTilt_no ht a b v1 v2 d1 d2 W hr hs h
    · obtain ⟨i, rfl⟩ := Int.eq_ofNat_of_zero_le (inB_iff.1 (tilt_ok h).1).1
      exact specTilt_yes ht b i v1 v2 d1 d2 W hr hs h
  · intro W v1 v2 hr hs
    cases h : tiltOk d1 a b
    · exact implTilt_no ht a b v1 v2 d1 d2 W hr hs h
    · obtain ⟨i, rfl⟩ := Int.eq_ofNat_of_zero_le (inB_iff.1 (tilt_ok h).1).1
      exact implTilt_yes ht b i v1 v2 d1 d2 W hr hs h
end Go.Proofs.Ythponccjbbkhaaa
