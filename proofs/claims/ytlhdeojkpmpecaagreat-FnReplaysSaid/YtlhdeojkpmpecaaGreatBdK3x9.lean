/- Several texts in one: Contracts: crossings, players and companies that are ones. Contracts: upTo, AllPuppets. Contracts: seasons; theatres that are ones. Contracts: OpenTheatre, SampleTheatre. Plain bounds: players that are ones are small. No program in sight. Plain words on crossings: orders behind crossings, crossings that undo each other. No program in sight. Contracts: indexOf, PlaceOf, l35Before, Prefers, beats. Orders in plain words: neighbours exchanged, inversions, the exchanges that sort. No program in sight. Twists in plain words: the table, the pairs that are wound, full turns. No program in sight. -/
import Derived.Deep.QuietTactic
import Derived.BigQuiet
import Derived.IntWalk
import Derived.Test.YtlhdeojkpmpecaaGreatBdC1x8
import Derived.Test.YtlhdeojkpmpecaaGreatBdI7x12
import Derived.Test.YtlhdeojkpmpecaaGreatBdA1x8
import Derived.Test.YtlhdeojkpmpecaaGreatV1
namespace Go.Proofs.YtlhdeojkpmpecaaGreat
open Go.RowKit
theorem quiet_left {P : Program} {f : FuncId} {args : Array Value} {w : World} {n : Nat} {v : Value}
  (h : Calls P f args (w.drewN n) fun e w' => e = .returned v ∧ w.drewN n = w') : Calls P f args (w.drewN n) fun e w'' => e = .returned v ∧ ∃ m, w'' = w.drewN m :=
 h.mono fun _ _ ⟨he, hm⟩ => ⟨he, n, hm.symm⟩
def crossB (n : Int) (c : RCross) : Bool := inB c.1 0 (n - 2)
def crossesB (n : Int) (l : List RCross) : Bool := (inB n 1 7 && decide (l.length ≤ 40)) && l.all (crossB n)
theorem crosses_f1 {n : Int} {l : List RCross} (h : inB n 1 7 = false) : crossesB n l = false := by rw [crossesB, h]; rfl
theorem crosses_f2 {n : Int} {l : List RCross} (h : 40 < l.length) : crossesB n l = false := by rw [crossesB, show decide (l.length ≤ 40) = false by simp; omega, Bool.and_false]; rfl
theorem crosses_f3 {n : Int} {l : List RCross} (h : l.all (crossB n) = false) : crossesB n l = false := by rw [crossesB, h, Bool.and_false]
theorem crosses_t {n : Int} {l : List RCross} (h1 : inB n 1 7 = true) (h2 : ¬ 40 < l.length) (h3 : l.all (crossB n) = true) : crossesB n l = true := by
 rw [crossesB, h1, h3, show decide (l.length ≤ 40) = true by simp; omega]; rfl
theorem crosses_len {n : Int} {l : List RCross} (h : crossesB n l = true) : (1 ≤ n ∧ n ≤ 7) ∧ l.length ≤ 40 ∧ ∀ c ∈ l, 0 ≤ c.1 ∧ c.1 ≤ n - 2 := by
 rw [crossesB, Bool.and_eq_true, Bool.and_eq_true, inB_iff, decide_eq_true_iff] at h
 exact ⟨h.1.1, h.1.2, fun c hc => inB_iff.1 (List.all_eq_true.1 h.2 c hc)⟩
set_option maxHeartbeats 1000000 in
set_option maxRecDepth 100000 in
theorem implCrossesOk_any (n : Int) (v : Value) (l : List RCross) (w : World) (h : RdL cCross 2 w v l) :
  Calls Tryz.prog 101 #[.int .i64 n, v] w fun e w' => e = .returned (.bool (crossesB n l)) ∧ Below w.heap.size w w' := by
 obtain ⟨A, c, rfl, h1, h2⟩ := h.form
 by_cases hlen : 40 < l.length
 ·go_enter Tryz.func101, Tryz.ntmps101
  go_wp2_with (go_at_call 83; refine two (within_any _ _ _ _) (fun hc => ?_) (fun hc => ?_))
  all_goals
   go_ret
   exact ⟨ret_bool (crosses_f2 hlen).symm, by (repeat' (first | exact Below.refl _ _ | refine qS ?_ _ | refine qA ?_ _ | refine qD ?_ | refine qN ?_ _ | refine qT ?_ (by assumption)))⟩
 ·go_enter Tryz.func101, Tryz.ntmps101
  go_wp2_with (go_at_call 83; refine two (within_any _ _ _ _) (fun hc => ?_) (fun hc => ?_))
  ·have hm := inB_iff.1 hc.out
   go_loopw [17] (fun i wr => ∃ k : Nat, k ≤ l.length ∧ i = .int .i64 k ∧ Hid ((l.take k).all (crossB n) = true) ∧ Below w.heap.size w wr) (fun i _ => l.length - (intOf i).toNat)
   case atStart => exact ⟨0, Nat.zero_le _, rfl, by rfl, Below.refl _ _⟩
   case round =>
    obtain ⟨k, hk, rfl, hall, hb⟩ := hrel
    have hz := hb.size
    by_cases hlt : k < l.length
    ·obtain ⟨g, off, rfl, hg, hc'⟩ := (h.below hb).cell cCross_len (by omega) hlt
     have k0 := hc' 0 _ rfl
     have k1 := hc' 1 _ rfl
     simp only [Nat.add_zero] at k0 k1
     clear hc'
     go_wp2_with (go_at_call 83; refine two (within_any _ _ _ _) (fun hq => ?_) (fun hq => ?_))
     ·go_roundw
      case rel => exact ⟨k + 1, by omega, by go_num, all_take_succ hlt hall.out hq.out, by (repeat' (first | exact Below.refl _ _ | refine qS ?_ _ | refine qA ?_ _ | refine qD ?_ | refine qN ?_ _ | refine qT ?_ (by assumption)))⟩
      case measure => simp [intOf]; omega
     ·go_ret
      exact ⟨ret_bool (crosses_f3 (all_false_at hlt hq.out)).symm, by (repeat' (first | exact Below.refl _ _ | refine qS ?_ _ | refine qA ?_ _ | refine qD ?_ | refine qN ?_ _ | refine qT ?_ (by assumption)))⟩
    ·go_wp2_with fail
     go_ret
     exact ⟨ret_bool (crosses_t hc.out hlen (all_take_end hlt hall.out)).symm, hb⟩
  ·go_ret
   exact ⟨ret_bool (crosses_f1 hc.out).symm, by (repeat' (first | exact Below.refl _ _ | refine qS ?_ _ | refine qA ?_ _ | refine qD ?_ | refine qN ?_ _ | refine qT ?_ (by assumption)))⟩
set_option maxHeartbeats 1000000 in
set_option maxRecDepth 100000 in
theorem specCrossesOk_any (n : Int) (v : Value) (l : List RCross) (w : World) (h : RdL cCross 2 w v l) :
  Calls Tryz.prog 94 #[.int .i64 n, v] w fun e w' => e = .returned (.bool (crossesB n l)) ∧ Below w.heap.size w w' := by
 obtain ⟨A, c, rfl, h1, h2⟩ := h.form
 by_cases hlen : 40 < l.length
 ·go_enter Tryz.func94, Tryz.ntmps94
  go_wp2_with (go_at_call 85; refine two (l01In_any _ _ _ _) (fun hc => ?_) (fun hc => ?_))
  all_goals
   go_ret
   exact ⟨ret_bool (crosses_f2 hlen).symm, by (repeat' (first | exact Below.refl _ _ | refine qS ?_ _ | refine qA ?_ _ | refine qD ?_ | refine qN ?_ _ | refine qT ?_ (by assumption)))⟩
 ·go_enter Tryz.func94, Tryz.ntmps94
  go_wp2_with (go_at_call 85; refine two (l01In_any _ _ _ _) (fun hc => ?_) (fun hc => ?_))
  ·have hm := inB_iff.1 hc.out
   go_loop [5] (fun i => ∃ k : Nat, k ≤ l.length ∧ i = .int .i64 k ∧ Hid ((l.take k).all (crossB n) = true)) (fun i => l.length - (intOf i).toNat)
   case atStart => exact ⟨0, Nat.zero_le _, rfl, by rfl⟩
   case round =>
    obtain ⟨k, hk, rfl, hall⟩ := hrel
    by_cases hlt : k < l.length
    ·obtain ⟨g, off, rfl, hg, hc'⟩ := h.cell cCross_len (by omega) hlt
     have k0 := hc' 0 _ rfl
     simp only [Nat.add_zero] at k0
     clear hc'
     go_wp2_with (go_at_call 85; refine two (l01In_any _ _ _ _) (fun hq => ?_) (fun hq => ?_))
     ·go_round
      case rel => exact ⟨k + 1, by omega, by go_num, all_take_succ hlt hall.out hq.out⟩
      case measure => simp [intOf]; omega
     ·go_ret
      exact ⟨ret_bool (crosses_f3 (all_false_at hlt hq.out)).symm, by (repeat' (first | exact Below.refl _ _ | refine qS ?_ _ | refine qA ?_ _ | refine qD ?_ | refine qN ?_ _ | refine qT ?_ (by assumption)))⟩
    ·go_wp2_with fail
     go_ret
     exact ⟨ret_bool (crosses_t hc.out hlen (all_take_end hlt hall.out)).symm, by (repeat' (first | exact Below.refl _ _ | refine qS ?_ _ | refine qA ?_ _ | refine qD ?_ | refine qN ?_ _ | refine qT ?_ (by assumption)))⟩
  ·go_ret
   exact ⟨ret_bool (crosses_f1 hc.out).symm, by (repeat' (first | exact Below.refl _ _ | refine qS ?_ _ | refine qA ?_ _ | refine qD ?_ | refine qN ?_ _ | refine qT ?_ (by assumption)))⟩
/- players -/
def playerB (p : RPl) : Bool := strictB p.1 0 6 && inB p.2 0 2
def playersB (l : List RPl) : Bool := l.all playerB && inB l.length 1 6
theorem playerB_t {p : RPl} (h1 : strictB p.1 0 6 = true) (h2 : inB p.2 0 2 = true) : playerB p = true := by rw [playerB, h1, h2]; rfl
theorem playerB_f1 {p : RPl} (h : strictB p.1 0 6 = false) : playerB p = false := by rw [playerB, h]; rfl
theorem playerB_f2 {p : RPl} (h : inB p.2 0 2 = false) : playerB p = false := by rw [playerB, h, Bool.and_false]
theorem players_f {l : List RPl} (h : l.all playerB = false) : playersB l = false := by rw [playersB, h]; rfl
theorem players_t {l : List RPl} (h : l.all playerB = true) : playersB l = inB l.length 1 6 := by rw [playersB, h]; rfl
set_option maxHeartbeats 1000000 in
set_option maxRecDepth 100000 in
theorem implPlayersOk_any (v : Value) (l : List RPl) (w : World) (h : RdPls w v l) :
  Calls Tryz.prog 132 #[v] w fun e w' => e = .returned (.bool (playersB l)) ∧ Below w.heap.size w w' := by
 obtain ⟨A, c, rfl, h1, h2⟩ := h.form
 go_enter Tryz.func132, Tryz.ntmps132
 go_wp2_with fail
 go_loopw [7] (fun i wr => ∃ k : Nat, k ≤ l.length ∧ i = .int .i64 k ∧ Hid ((l.take k).all playerB = true) ∧ Below w.heap.size w wr) (fun i _ => l.length - (intOf i).toNat)
 case atStart => exact ⟨0, Nat.zero_le _, rfl, by rfl, Below.refl _ _⟩
 case round =>
  obtain ⟨k, hk, rfl, hall, hb⟩ := hrel
  have hz := hb.size
  by_cases hlt : k < l.length
  ·obtain ⟨g, off, u, rfl, hg, k0, k1, hru⟩ := (h.below hb).cell hlt
   obtain ⟨A1, c1, rfl, _, _⟩ := hru.form
   go_wp2_with fail
   refine twoB (isStrict_any _ l[k].1 0 6 _ (hru.below (by (repeat' (first | exact Below.refl _ _ | refine qS ?_ _ | refine qA ?_ _ | refine qD ?_ | refine qN ?_ _ | refine qT ?_ (by assumption)))))) (fun w' hs hb' => ?_) (fun w' hs hb' => ?_)
   ·have j1 := carry (b := wr.heap.size) (o := 1) (v := .int .i64 l[k].2) hb' (by simp [go_sem])
    have hz' := hb'.size
    simp at hz'
    go_wp2_with fail
    refine two (within_any _ _ _ _) (fun hq => ?_) (fun hq => ?_)
    ·go_wp2_with fail
     go_roundw
     case rel => exact ⟨k + 1, by omega, by go_num, all_take_succ hlt hall.out (playerB_t hs.out hq.out), bl_trans hb (bl_alloc hb')⟩
     case measure => simp [intOf]; omega
    ·go_wp2_with fail
     go_ret
     exact ⟨ret_bool (players_f (all_false_at hlt (playerB_f2 hq.out))).symm, bl_trans hb (bl_alloc hb')⟩
   ·go_wp2_with fail
    go_ret
    exact ⟨ret_bool (players_f (all_false_at hlt (playerB_f1 hs.out))).symm, bl_trans hb (bl_alloc hb')⟩
  ·have hall' := players_t (all_take_end hlt hall.out)
   have Hall := Lib.hid hall'
   clear hall'
   go_wp2_with (go_at_call 83; refine (within_any _ _ _ _).mono ?_; rintro e w' ⟨rfl, rfl⟩)
   go_ret
   exact ⟨ret_bool Hall.out.symm, hb⟩
theorem rise_get {l : List Int} {k : Nat} (h : k < l.length) : l.getD k 0 = l[k] := by rw [List.getD_eq_getElem?_getD, List.getElem?_eq_getElem h]; rfl
def riseAt (l : List Int) (m : Int) (k : Nat) : Bool := inB (l.getD k 0) 0 m && ascAt l k
theorem rise_t {l : List Int} {m : Int} (h : (List.range l.length).all (riseAt l m) = true) : strictB l 0 m = true := by
 rw [List.all_eq_true] at h
 rw [strictB, Bool.and_eq_true]
 refine ⟨List.all_eq_true.2 (fun i hi => ?_), List.all_eq_true.2 (fun x hx => ?_)⟩
 ·have := h i hi
  rw [riseAt, Bool.and_eq_true] at this
  exact this.2
 ·obtain ⟨i, hi, rfl⟩ := List.getElem_of_mem hx
  have := h i (by simpa using hi)
  rw [riseAt, Bool.and_eq_true, rise_get hi] at this
  exact this.1
theorem rise_f {l : List Int} {m : Int} {k : Nat} (hk : k < l.length) (h : riseAt l m k = false) : strictB l 0 m = false := by
 rw [riseAt, Bool.and_eq_false_iff] at h
 rw [strictB, Bool.and_eq_false_iff]
 rcases h with h | h
 ·rw [rise_get hk] at h
  exact .inr (List.all_eq_false.2 ⟨l[k], List.getElem_mem hk, by simp [h]⟩)
 ·exact .inl (asc_false hk h)
theorem rise_succ {l : List Int} {m : Int} {k : Nat} (hk : k < l.length) (h1 : (List.range k).all (riseAt l m) = true) (hi : inB l[k] 0 m = true) (ha : ascAt l k = true) : (List.range (k + 1)).all (riseAt l m) = true := by
 rw [List.range_succ, List.all_append, h1]
 simp only [List.all_cons, List.all_nil, Bool.and_true, Bool.true_and]
 rw [riseAt, rise_get hk, hi, ha]; rfl
set_option maxHeartbeats 2000000 in
set_option maxRecDepth 100000 in
theorem l11Rising_q (v : Value) (l : List Int) (m : Int) (w : World) (h : RdL cInt 1 w v l) :
  Calls Tryz.prog 88 #[v, .int .i64 m] w fun e w' => e = .returned (.bool (strictB l 0 m)) ∧ ∃ d, w' = w.drewN d := by
 have h' := h
 obtain ⟨A, c, rfl, h1, h2⟩ := h.form
 go_enter Tryz.func88, Tryz.ntmps88
 go_wp2_with fail
 go_loopw [5] (fun i wr => ∃ k : Nat, k ≤ l.length ∧ i = .int .i64 k ∧ Hid ((List.range k).all (riseAt l m) = true) ∧ Hid (∃ d, wr = w.drewN d)) (fun i _ => l.length - (intOf i).toNat)
 case atStart => exact ⟨0, Nat.zero_le _, rfl, by rfl, ⟨0, rfl⟩⟩
 case round =>
  obtain ⟨k, hk, rfl, hall, hd⟩ := hrel
  by_cases hlt : k < l.length
  ·have hb : Below w.heap.size w wr := by obtain ⟨d, e⟩ := hd.out; rw [e]; exact below_drewN (Below.refl _ _) d
   have hdn : ∀ n, ∃ d, wr.drewN n = w.drewN d := fun n => by obtain ⟨d, e⟩ := hd.out; exact ⟨d + n, by rw [e]; simp⟩
   obtain ⟨g, off, rfl, hg, hc⟩ := (h'.below hb).cell cInt_len (by omega) hlt
   have k0 := hc 0 _ rfl
   simp only [Nat.add_zero, Nat.mul_one] at k0
   clear hc
   have hcon := fun W => l01In_any l[k] 0 m W
   have hgk := rise_get hlt
   cases hi : inB l[k] 0 m <;> rw [hi] at hcon <;> have Hi := Lib.hid hi <;> have Hcon := Lib.hid hcon <;> have Hgk := Lib.hid hgk <;> have Hdn := Lib.hid hdn <;> clear hi hcon hgk hdn
   ·go_wp2_with fail
    go_quiet ((go_at_call 85; exact quiet_left (Hcon.out _)))
    rename_i nq
    go_wp2_with fail
    go_ret
    exact ⟨ret_bool (rise_f hlt (by rw [riseAt, Hgk.out, Hi.out]; rfl)).symm, Hdn.out _⟩
   ·by_cases hk0 : 0 < k
    ·obtain ⟨g', off', hA, hg', hc'⟩ := (h'.below hb).cell (k := k - 1) cInt_len (by omega) (by omega)
     injection hA with hA
     injection hA with e1 e2
     subst e1 e2
     have k1 := hc' 0 _ rfl
     simp only [Nat.add_zero, Nat.mul_one] at k1
     clear hc'
     have hat := ascAt_get hlt hk0
     have Hat := Lib.hid hat
     clear hat
     have hw1 : IntKind.i64.wrap ((k : Int) - 1) = (k : Int) - 1 := IntWalk.i64_in _ (by omega)
     have hw2 : (0 : Int) ≤ (k : Int) - 1 := by omega
     have hw2' : (1 : Int) ≤ (k : Int) := by omega
     have hw4 : (k : Int) - 1 < (l.length : Int) := by omega
     have hw3 : ((k : Int) - 1).toNat = k - 1 := by omega
     by_cases hle : l[k] ≤ l[k - 1]
     ·go_wp2_with fail
      go_quiet ((go_at_call 85; exact quiet_left (Hcon.out _)))
      rename_i nq
      go_wp2_with fail
      go_ret
      exact ⟨ret_bool (rise_f hlt (by rw [riseAt, Hgk.out, Hi.out, Hat.out]; simp; omega)).symm, Hdn.out _⟩
     ·go_wp2_with fail
      go_quiet ((go_at_call 85; exact quiet_left (Hcon.out _)))
      rename_i nq
      go_wp2_with fail
      go_roundw
      case rel => exact ⟨k + 1, by omega, by go_num, rise_succ hlt hall.out Hi.out (by rw [Hat.out]; exact decide_eq_true (by omega)), Hdn.out _⟩
      case measure => simp [intOf]; omega
    ·obtain rfl : k = 0 := by omega
     simp only [Nat.add_zero] at k0
     go_wp2_with fail
     go_quiet ((go_at_call 85; exact quiet_left (Hcon.out _)))
     rename_i nq
     go_wp2_with fail
     go_roundw
     case rel => exact ⟨1, by omega, by rfl, rise_succ (k := 0) hlt hall.out Hi.out (by rfl), Hdn.out _⟩
     case measure => simp [intOf]; omega
  ·obtain rfl : k = l.length := by omega
   go_wp2_with fail
   go_ret
   exact ⟨ret_bool (rise_t hall.out).symm, hd.out⟩
set_option maxHeartbeats 1000000 in
set_option maxRecDepth 100000 in
theorem specPlayersOk_any (v : Value) (l : List RPl) (w : World) (h : RdPls w v l) :
  Calls Tryz.prog 41 #[v] w fun e w' => e = .returned (.bool (playersB l)) ∧ Below w.heap.size w w' := by
 obtain ⟨A, c, rfl, h1, h2⟩ := h.form
 go_enter Tryz.func41, Tryz.ntmps41
 go_wp2_with fail
 go_loopw [3] (fun i wr => ∃ k : Nat, k ≤ l.length ∧ i = .int .i64 k ∧ Hid ((l.take k).all playerB = true) ∧ Below w.heap.size w wr) (fun i _ => l.length - (intOf i).toNat)
 case atStart => exact ⟨0, Nat.zero_le _, rfl, by rfl, Below.refl _ _⟩
 case round =>
  obtain ⟨k, hk, rfl, hall, hb⟩ := hrel
  have hz := hb.size
  by_cases hlt : k < l.length
  ·obtain ⟨g, off, u, rfl, hg, k0, k1, hru⟩ := (h.below hb).cell hlt
   obtain ⟨A1, c1, rfl, _, _⟩ := hru.form
   have hcon := l11Rising_q _ l[k].1 6 _ hru
   cases hs : strictB l[k].1 0 6 <;> rw [hs] at hcon <;> have Hs := Lib.hid hs <;> have Hcon := Lib.hid hcon <;> clear hs hcon
   ·go_wp2_with (go_at_call 88; refine Hcon.out.mono ?_; rintro e w' ⟨rfl, d, rfl⟩)
    go_ret
    exact ⟨ret_bool (players_f (all_false_at hlt (playerB_f1 Hs.out))).symm, below_drewN hb _⟩
   ·go_wp2_with (go_at_call 88; refine Hcon.out.mono ?_; rintro e w' ⟨rfl, d, rfl⟩)
    refine two (l01In_any _ _ _ _) (fun hq => ?_) (fun hq => ?_)
    ·go_wp2_with fail
     go_roundw
     case rel => exact ⟨k + 1, by omega, by go_num, all_take_succ hlt hall.out (playerB_t Hs.out hq.out), below_drewN hb _⟩
     case measure => simp [intOf]; omega
    ·go_wp2_with fail
     go_ret
     exact ⟨ret_bool (players_f (all_false_at hlt (playerB_f2 hq.out))).symm, below_drewN hb _⟩
  ·have hall' := players_t (all_take_end hlt hall.out)
   have Hall := Lib.hid hall'
   clear hall'
   go_wp2_with (go_at_call 85; refine (l01In_any _ _ _ _).mono ?_; rintro e w' ⟨rfl, rfl⟩)
   go_ret
   exact ⟨ret_bool Hall.out.symm, hb⟩
def companyB (n : Int) (cs : List RCross) (ps : List RPl) : Bool := crossesB n cs && playersB ps
theorem implCompanyOk_any (n : Int) (v1 v2 : Value) (cs : List RCross) (ps : List RPl) (w : World) (h : RdCompany w v1 v2 cs ps) :
  Calls Tryz.prog 82 #[.agg #[.int .i64 n, v1, v2]] w fun e w' => e = .returned (.bool (companyB n cs ps)) ∧ Below w.heap.size w w' := by
 obtain ⟨⟨A1, c1, rfl⟩, ⟨A2, c2, rfl⟩⟩ := h.forms
 obtain ⟨h1, h2⟩ := h
 go_enter Tryz.func82, Tryz.ntmps82
 go_wp2_with fail
 refine twoB (implCrossesOk_any n _ cs _ (h1.below (by (repeat' (first | exact Below.refl _ _ | refine qS ?_ _ | refine qA ?_ _ | refine qD ?_ | refine qN ?_ _ | refine qT ?_ (by assumption)))))) (fun w' hq hb => ?_) (fun w' hq hb => ?_)
 ·have k2 := carry (b := w.heap.size) (o := 2) (v := .slice A2 ps.length c2) hb (by simp [go_sem])
  have hb' := bl_alloc hb
  go_wp2_with (go_at_call 132; refine (implPlayersOk_any _ ps _ (h2.below hb')).mono ?_; rintro e w2 ⟨rfl, hb2⟩)
  go_ret
  exact ⟨ret_bool (by rw [companyB, hq.out]; rfl), bl_trans hb' hb2⟩
 ·go_wp2_with fail
  go_ret
  exact ⟨ret_bool (by rw [companyB, hq.out]; rfl), bl_alloc hb⟩
theorem specCompanyOk_any (n : Int) (v1 v2 : Value) (cs : List RCross) (ps : List RPl) (w : World) (h : RdCompany w v1 v2 cs ps) :
  Calls Tryz.prog 77 #[.agg #[.int .i64 n, v1, v2]] w fun e w' => e = .returned (.bool (companyB n cs ps)) ∧ Below w.heap.size w w' := by
 obtain ⟨⟨A1, c1, rfl⟩, ⟨A2, c2, rfl⟩⟩ := h.forms
 obtain ⟨h1, h2⟩ := h
 go_enter Tryz.func77, Tryz.ntmps77
 go_wp2_with fail
 refine twoB (specCrossesOk_any n _ cs _ (h1.below (by (repeat' (first | exact Below.refl _ _ | refine qS ?_ _ | refine qA ?_ _ | refine qD ?_ | refine qN ?_ _ | refine qT ?_ (by assumption)))))) (fun w' hq hb => ?_) (fun w' hq hb => ?_)
 ·have k2 := carry (b := w.heap.size) (o := 2) (v := .slice A2 ps.length c2) hb (by simp [go_sem])
  have hb' := bl_alloc hb
  go_wp2_with (go_at_call 41; refine (specPlayersOk_any _ ps _ (h2.below hb')).mono ?_; rintro e w2 ⟨rfl, hb2⟩)
  go_ret
  exact ⟨ret_bool (by rw [companyB, hq.out]; rfl), bl_trans hb' hb2⟩
 ·go_wp2_with fail
  go_ret
  exact ⟨ret_bool (by rw [companyB, hq.out]; rfl), bl_alloc hb⟩
open Go.RowKit
def upN (n : Nat) : List Int := (List.range n).map (fun i : Nat => (i : Int))
theorem upN_succ (n : Nat) : upN (n + 1) = upN n ++ [(n : Int)] := by unfold upN; rw [List.range_succ, List.map_append]; rfl
theorem upN_len (n : Nat) : (upN n).length = n := by simp [upN]
def upF (n : Int) : List Int := upN n.toNat
set_option maxHeartbeats 1000000 in
set_option maxRecDepth 100000 in
theorem upTo_any (n : Nat) (w : World) (hn : n ≤ 100000) :
  Calls Tryz.prog 107 #[.int .i64 n] w fun e w' => ∃ v', e = .returned v' ∧ w'.ownsRow w.heap.size 3 1 v' (upN n).length ((upN n).flatMap cInt) ∧ Below w.heap.size w w' := by
 obtain ⟨i0, hi0, hz0, hz1, hz2⟩ := info_parts infoInt
 go_enter Tryz.func107, Tryz.ntmps107
 go_wp2_with fail
 go_loopw [3, 7] (fun q i wr => ∃ k : Nat, k ≤ n ∧ i = .int .i64 k ∧ wr.ownsRow w.heap.size 3 1 q k ((upN k).flatMap cInt) ∧ Below w.heap.size w wr) (fun _ i _ => n - (intOf i).toNat)
 case atStart => exact ⟨0, Nat.zero_le _, rfl, World.ownsRow_made (size := 1) (e := 3) w #[] 0 (Nat.le_refl _) (by simp [maxLen]) rfl, by (repeat' (first | exact Below.refl _ _ | refine qS ?_ _ | refine qA ?_ _ | refine qD ?_ | refine qN ?_ _ | refine qT ?_ (by assumption)))⟩
 case round =>
  obtain ⟨k, hk, rfl, hown, hb⟩ := hrel
  have hz := hb.size
  have Hs := Lib.hid (upN_succ k)
  by_cases hlt : k < n
  ·go_wp2_with (at_builtin; refine wpList_appendR _ rfl (.tmp 10) (.tmp 12) _ rfl w.heap.size 3 i0 _ 1 8 Tryz.underlying26 hi0 hz0 hz1 hz2 rfl (by omega) _ k ((upN k).flatMap cInt) rfl (hown.alloc _) _ 1 [.int .i64 k] rfl (rdS_new wr #[.int .i64 k] _ 1 1 rfl (by simp [maxLen])) (by simp [Value.oneCell']) (by simp [maxLen]; omega) (by omega) (by simp; omega) ?_; intro v2 w2 hown2 hgr2)
   have hb2 : Below w.heap.size (wr.alloc (Obj.cells #[.int .i64 k] 3)) w2 := below_own (hown.alloc _) hgr2 (by simp; omega)
   clear hgr2
   go_wp2_with fail
   go_roundw
   case rel => exact ⟨k + 1, by omega, by go_num, by rw [Hs.out, List.flatMap_append]; exact hown2, (hb.alloc (by omega) _).trans hb2⟩
   case measure => simp [intOf]; omega
  ·obtain rfl : k = n := by omega
   go_wp2_with fail
   go_ret
   rw [upN_len]
   exact ⟨_, rfl, hown, hb⟩
set_option maxHeartbeats 1000000 in
set_option maxRecDepth 100000 in
theorem l08Start_any (n : Nat) (w : World) (hn : n ≤ 100000) :
  Calls Tryz.prog 95 #[.int .i64 n] w fun e w' => ∃ v', e = .returned v' ∧ w'.ownsRow w.heap.size 3 1 v' (upN n).length ((upN n).flatMap cInt) ∧ Below w.heap.size w w' := by
 obtain ⟨i0, hi0, hz0, hz1, hz2⟩ := info_parts infoInt
 go_enter Tryz.func95, Tryz.ntmps95
 go_wp2_with fail
 go_loopw [3, 4] (fun q i wr => ∃ k : Nat, k ≤ n ∧ i = .int .i64 k ∧ wr.ownsRow w.heap.size 3 1 q k ((upN k).flatMap cInt) ∧ Below w.heap.size w wr) (fun _ i _ => n - (intOf i).toNat)
 case atStart => exact ⟨0, Nat.zero_le _, rfl, World.ownsRow_made (size := 1) (e := 3) w #[] 0 (Nat.le_refl _) (by simp [maxLen]) rfl, by (repeat' (first | exact Below.refl _ _ | refine qS ?_ _ | refine qA ?_ _ | refine qD ?_ | refine qN ?_ _ | refine qT ?_ (by assumption)))⟩
 case round =>
  obtain ⟨k, hk, rfl, hown, hb⟩ := hrel
  have hz := hb.size
  have Hs := Lib.hid (upN_succ k)
  by_cases hlt : k < n
  ·go_wp2_with (at_builtin; refine wpList_appendR _ rfl (.tmp 11) (.tmp 13) _ rfl w.heap.size 3 i0 _ 1 8 Tryz.underlying26 hi0 hz0 hz1 hz2 rfl (by omega) _ k ((upN k).flatMap cInt) rfl (hown.alloc _) _ 1 [.int .i64 k] rfl (rdS_new wr #[.int .i64 k] _ 1 1 rfl (by simp [maxLen])) (by simp [Value.oneCell']) (by simp [maxLen]; omega) (by omega) (by simp; omega) ?_; intro v2 w2 hown2 hgr2)
   have hb2 : Below w.heap.size (wr.alloc (Obj.cells #[.int .i64 k] 3)) w2 := below_own (hown.alloc _) hgr2 (by simp; omega)
   clear hgr2
   go_wp2_with fail
   go_roundw
   case rel => exact ⟨k + 1, by omega, by go_num, by rw [Hs.out, List.flatMap_append]; exact hown2, (hb.alloc (by omega) _).trans hb2⟩
   case measure => simp [intOf]; omega
  ·obtain rfl : k = n := by omega
   go_wp2_with fail
   go_ret
   rw [upN_len]
   exact ⟨_, rfl, hown, hb⟩
def allPF (n : Int) (cs : List RCross) (ps : List RPl) : List Int := if companyB n cs ps = true then upF n else []
theorem company_n {n : Int} {cs : List RCross} {ps : List RPl} (h : companyB n cs ps = true) : crossesB n cs = true ∧ playersB ps = true := by rwa [companyB, Bool.and_eq_true] at h
theorem allPF_t {n : Int} {cs : List RCross} {ps : List RPl} (h : companyB n cs ps = true) : allPF n cs ps = upF n := if_pos h
theorem allPF_f {n : Int} {cs : List RCross} {ps : List RPl} (h : companyB n cs ps = false) : allPF n cs ps = [] := if_neg (by rw [h]; simp)
set_option maxHeartbeats 1000000 in
theorem specAllPuppets_any (n : Int) (v1 v2 : Value) (cs : List RCross) (ps : List RPl) (w : World) (h : RdCompany w v1 v2 cs ps) :
  Calls Tryz.prog 79 #[.agg #[.int .i64 n, v1, v2]] w fun e w' => ∃ v', e = .returned v' ∧ w'.ownsRow w.heap.size 3 1 v' (allPF n cs ps).length ((allPF n cs ps).flatMap cInt) ∧ Below w.heap.size w w' := by
 obtain ⟨⟨A1, c1, rfl⟩, ⟨A2, c2, rfl⟩⟩ := h.forms
 go_enter Tryz.func79, Tryz.ntmps79
 go_wp2_with fail
 refine twoB (specCompanyOk_any n _ _ cs ps _ (h.below (by (repeat' (first | exact Below.refl _ _ | refine qS ?_ _ | refine qA ?_ _ | refine qD ?_ | refine qN ?_ _ | refine qT ?_ (by assumption)))))) (fun w' hq hb => ?_) (fun w' hq hb => ?_)
 ·have k0 := carry (b := w.heap.size) (o := 0) (v := .int .i64 n) hb (by simp [go_sem])
  have hn := (crosses_len (company_n hq.out).1).1
  have hb' := bl_alloc hb
  obtain ⟨m, rfl⟩ := Int.eq_ofNat_of_zero_le (show 0 ≤ n by omega)
  go_wp2_with (go_at_call 95; refine (l08Start_any m _ (by omega)).mono ?_; rintro e w2 ⟨v2, rfl, hown, hb2⟩)
  go_ret
  rw [allPF_t hq.out]
  exact ⟨_, rfl, own_mono hown hb'.size, bl_trans hb' hb2⟩
 ·have hb' := bl_alloc hb
  go_wp2_with fail
  go_ret
  rw [allPF_f hq.out]
  exact ⟨_, rfl, own_mono (World.ownsRow_made (size := 1) (e := 3) w' #[] 0 (Nat.le_refl _) (by simp [maxLen]) rfl) hb'.size, hb'.alloc hb'.size _⟩
open Go.RowKit
def seasonB (l : List Int) : Bool := decide (l.length ≤ 60) && strictB l 0 365
theorem season_f1 {l : List Int} (h : ¬ l.length ≤ 60) : seasonB l = false := by rw [seasonB, decide_eq_false h]; rfl
theorem season_t {l : List Int} (h : l.length ≤ 60) : seasonB l = strictB l 0 365 := by rw [seasonB, decide_eq_true h]; rfl
theorem season_bd {l : List Int} (h : seasonB l = true) : l.length ≤ 60 ∧ ∀ x ∈ l, 0 ≤ x ∧ x ≤ 365 := by
 rw [seasonB, Bool.and_eq_true, decide_eq_true_iff, strictB, Bool.and_eq_true] at h
 exact ⟨h.1, fun x hx => inB_iff.1 (List.all_eq_true.1 h.2.2 x hx)⟩
theorem implSeasonOk_any (v : Value) (l : List Int) (w : World) (h : RdL cInt 1 w v l) :
  Calls Tryz.prog 104 #[v] w fun e w' => e = .returned (.bool (seasonB l)) ∧ Below w.heap.size w w' := by
 have h0 := h
 obtain ⟨A, c, rfl, h1, h2⟩ := h.form
 by_cases hl : l.length ≤ 60
 ·go_enter Tryz.func104, Tryz.ntmps104
  go_wp2_with (go_at_call 146; refine (isStrict_any _ l 0 365 _ h0).mono ?_; rintro e w' ⟨rfl, hb⟩)
  go_ret
  exact ⟨ret_bool (season_t hl).symm, hb⟩
 ·go_enter Tryz.func104, Tryz.ntmps104
  go_wp2_with fail
  go_ret
  exact ⟨ret_bool (season_f1 hl).symm, Below.refl _ _⟩
theorem specSeasonOk_any (v : Value) (l : List Int) (w : World) (h : RdL cInt 1 w v l) :
  Calls Tryz.prog 84 #[v] w fun e w' => e = .returned (.bool (seasonB l)) ∧ Below w.heap.size w w' := by
 have h0 := h
 obtain ⟨A, c, rfl, h1, h2⟩ := h.form
 by_cases hl : l.length ≤ 60
 ·go_enter Tryz.func84, Tryz.ntmps84
  go_wp2_with (go_at_call 88; refine (l11Rising_q _ l 365 _ h0).mono ?_; rintro e w' ⟨rfl, d, rfl⟩)
  go_ret
  exact ⟨ret_bool (season_t hl).symm, below_drewN (Below.refl _ _) _⟩
 ·go_enter Tryz.func84, Tryz.ntmps84
  go_wp2_with fail
  go_ret
  exact ⟨ret_bool (season_f1 hl).symm, Below.refl _ _⟩
def runR (l : List Int) : Nat → Nat
 | 0 => 0
 | k + 1 => if 0 < k ∧ l.getD (k - 1) 0 + 1 = l.getD k 0 then runR l k + 1 else 1
def runB (l : List Int) : Nat → Nat
 | 0 => 0
 | k + 1 => max (runB l k) (runR l (k + 1))
theorem runR_le (l : List Int) (k : Nat) : runR l k ≤ k := by
 induction k with
 | zero => exact Nat.le_refl _
 | succ k ih => unfold runR; split <;> omega
theorem runB_le (l : List Int) (k : Nat) : runB l k ≤ k := by
 induction k with
 | zero => exact Nat.le_refl _
 | succ k ih => unfold runB; have := runR_le l (k + 1); omega
theorem runR_t {l : List Int} {k : Nat} (hk : k < l.length) (h0 : 0 < k) (h : l[k - 1] + 1 = l[k]) : runR l (k + 1) = runR l k + 1 := by
 rw [runR, if_pos]
 rw [rise_get hk, rise_get (by omega)]
 exact ⟨h0, h⟩
theorem runR_f {l : List Int} {k : Nat} (hk : k < l.length) (h : ¬ (0 < k ∧ l[k - 1] + 1 = l[k])) : runR l (k + 1) = 1 := by
 rw [runR, if_neg]
 rw [rise_get hk, rise_get (by omega)]
 exact h
theorem runB_succ (l : List Int) (k : Nat) : runB l (k + 1) = max (runB l k) (runR l (k + 1)) := rfl
def runF (l : List Int) : Int := if seasonB l = true then (runB l l.length : Int) else -1
theorem runF_t {l : List Int} (h : seasonB l = true) : runF l = runB l l.length := if_pos h
theorem runF_f {l : List Int} (h : seasonB l = false) : runF l = -1 := if_neg (by rw [h]; simp)
theorem max_val {a b : Nat} {c : Int} (h : (b : Int) = c) : (if (a : Int) < c then c else (a : Int)) = ((max a b : Nat) : Int) := by split <;> omega
set_option maxHeartbeats 2000000 in
set_option maxRecDepth 100000 in
theorem implLongestRun_any (v : Value) (l : List Int) (w : World) (h : RdL cInt 1 w v l) :
  Calls Tryz.prog 105 #[v] w fun e w' => e = .returned (.int .i64 (runF l)) ∧ Below w.heap.size w w' := by
 have h0 := h
 obtain ⟨A, c, rfl, h1, h2⟩ := h.form
 go_enter Tryz.func105, Tryz.ntmps105
 go_wp2_with fail
 refine twoB (implSeasonOk_any _ l _ h0) (fun w1 hq hb => ?_) (fun w1 hq hb => ?_)
 ·have hs := season_bd hq.out
  have hr := h0.below hb
  have hl60 := hs.1
  have Hs := Lib.hid hs.2
  clear hs
  go_wp2_with fail
  go_loop [3, 4, 12] (fun b r i => ∃ k : Nat, k ≤ l.length ∧ i = .int .i64 k ∧ b = .int .i64 (runB l k) ∧ r = .int .i64 (runR l k)) (fun _ _ i => l.length - (intOf i).toNat)
  case atStart => exact ⟨0, Nat.zero_le _, rfl, rfl, rfl⟩
  case round =>
   obtain ⟨k, hk, rfl, rfl, rfl⟩ := hrel
   by_cases hlt : k < l.length
   ·obtain ⟨g, off, rfl, hg, hc⟩ := hr.cell cInt_len (by omega) hlt
    have j0 := hc 0 _ rfl
    simp only [Nat.add_zero, Nat.mul_one] at j0
    clear hc
    have hx := Hs.out _ (List.getElem_mem hlt)
    have hbl := runB_le l k
    have hrl := runR_le l k
    have hsu := runB_succ l k
    have hkk : k - 1 < l.length := by omega
    by_cases h00 : 0 < k
    ·obtain ⟨g', off', hA, hg', hc'⟩ := hr.cell (k := k - 1) cInt_len (by omega) (by omega)
     injection hA with hA
     injection hA with e1 e2
     subst e1 e2
     have j1 := hc' 0 _ rfl
     simp only [Nat.add_zero, Nat.mul_one] at j1
     clear hc'
     by_cases hrun : l[k - 1] + 1 = l[k]
     ·have hrr := runR_t hlt h00 hrun
      rw [hrr] at hsu
      have Hsu := Lib.hid hsu
      have Hrr := Lib.hid hrr
      have hd : (l[k - 1] == l[k] - 1) = true := by rw [beq_iff_eq]; omega
      clear hsu hrr hrun
      generalize runB l k = b at *
      generalize runR l k = r at *
      go_wp2_with fail
      go_round
      case rel => exact ⟨k + 1, by omega, by go_num, int_eq (by rw [Hsu.out]; first | exact max_val (by omega) | (split <;> omega)), int_eq (by rw [Hrr.out]; omega)⟩
      case measure => simp [intOf]; omega
     ·have hrr := runR_f hlt (fun h => hrun h.2)
      rw [hrr] at hsu
      have Hsu := Lib.hid hsu
      have Hrr := Lib.hid hrr
      have hd : (l[k - 1] == l[k] - 1) = false := by rw [beq_eq_false_iff_ne]; omega
      clear hsu hrr hrun
      generalize runB l k = b at *
      generalize runR l k = r at *
      go_wp2_with fail
      go_round
      case rel => exact ⟨k + 1, by omega, by go_num, int_eq (by rw [Hsu.out]; first | exact max_val (by omega) | (split <;> omega)), int_eq (by rw [Hrr.out]; omega)⟩
      case measure => simp [intOf]; omega
    ·obtain rfl : k = 0 := by omega
     simp only [Nat.add_zero] at j0
     have hrr : runR l 1 = 1 := runR_f hlt (fun h => absurd h.1 (by omega))
     replace hsu : runB l 1 = 1 := by show max 0 (runR l 1) = 1; rw [hrr]; rfl
     have Hsu := Lib.hid hsu
     have Hrr := Lib.hid hrr
     clear hsu hrr
     go_wp2_with fail
     go_round
     case rel => exact ⟨1, by omega, by rfl, int_eq (by rw [Hsu.out]; rfl), int_eq (by rw [Hrr.out]; rfl)⟩
     case measure => simp [intOf]; omega
   ·obtain rfl : k = l.length := by omega
    go_wp2_with fail
    go_ret
    exact ⟨ret_int (runF_t hq.out).symm, hb⟩
 ·go_wp2_with fail
  go_ret
  exact ⟨ret_int (runF_f hq.out).symm, hb⟩
set_option maxHeartbeats 2000000 in
set_option maxRecDepth 100000 in
theorem specLongestRun_any (v : Value) (l : List Int) (w : World) (h : RdL cInt 1 w v l) :
  Calls Tryz.prog 86 #[v] w fun e w' => e = .returned (.int .i64 (runF l)) ∧ Below w.heap.size w w' := by
 have h0 := h
 obtain ⟨A, c, rfl, h1, h2⟩ := h.form
 go_enter Tryz.func86, Tryz.ntmps86
 go_wp2_with fail
 refine twoB (specSeasonOk_any _ l _ h0) (fun w1 hq hb => ?_) (fun w1 hq hb => ?_)
 ·have hs := season_bd hq.out
  have hl60 := hs.1
  have Hs := Lib.hid hs.2
  clear hs
  go_wp2_with fail
  go_loopw [3, 4, 5] (fun b r i wr => ∃ k : Nat, k ≤ l.length ∧ i = .int .i64 k ∧ b = .int .i64 (runB l k) ∧ r = .int .i64 (runR l k) ∧ Below w.heap.size w wr) (fun _ _ i _ => l.length - (intOf i).toNat)
  case atStart => exact ⟨0, Nat.zero_le _, rfl, rfl, rfl, hb⟩
  case round =>
   obtain ⟨k, hk, rfl, rfl, rfl, hbr⟩ := hrel
   have hr := h0.below hbr
   by_cases hlt : k < l.length
   ·obtain ⟨g, off, rfl, hg, hc⟩ := hr.cell cInt_len (by omega) hlt
    have j0 := hc 0 _ rfl
    simp only [Nat.add_zero, Nat.mul_one] at j0
    clear hc
    have hx := Hs.out _ (List.getElem_mem hlt)
    have hbl := runB_le l k
    have hrl := runR_le l k
    have hsu := runB_succ l k
    have hkk : k - 1 < l.length := by omega
    by_cases h00 : 0 < k
    ·obtain ⟨g', off', hA, hg', hc'⟩ := hr.cell (k := k - 1) cInt_len (by omega) (by omega)
     injection hA with hA
     injection hA with e1 e2
     subst e1 e2
     have j1 := hc' 0 _ rfl
     simp only [Nat.add_zero, Nat.mul_one] at j1
     clear hc'
     have hy := Hs.out _ (List.getElem_mem (show k - 1 < l.length by omega))
     have hw1 : IntKind.i64.wrap ((k : Int) - 1) = (k : Int) - 1 := IntWalk.i64_in _ (by omega)
     have hw2 : (0 : Int) ≤ (k : Int) - 1 := by omega
     have hw2' : (1 : Int) ≤ (k : Int) := by omega
     have hw4 : (k : Int) - 1 < (l.length : Int) := by omega
     have hw3 : ((k : Int) - 1).toNat = k - 1 := by omega
     have hw5 : IntKind.i64.wrap (l[k - 1] + 1) = l[k - 1] + 1 := IntWalk.i64_in _ (by omega)
     by_cases hrun : l[k - 1] + 1 = l[k]
     ·have hrr := runR_t hlt h00 hrun
      rw [hrr] at hsu
      have Hsu := Lib.hid hsu
      have Hrr := Lib.hid hrr
      have hd : (l[k] == l[k - 1] + 1) = true := by rw [beq_iff_eq]; omega
      clear hsu hrr hrun
      generalize runB l k = b at *
      generalize runR l k = r at *
      go_wp2_with fail
      go_quiet (fail)
      go_wp2_with fail
      go_roundw
      case rel => exact ⟨k + 1, by omega, by go_num, int_eq (by rw [Hsu.out]; first | exact max_val (by omega) | (split <;> omega)), int_eq (by rw [Hrr.out]; omega), by first | exact hbr.drew | exact below_drewN hbr _⟩
      case measure => simp [intOf]; omega
     ·have hrr := runR_f hlt (fun h => hrun h.2)
      rw [hrr] at hsu
      have Hsu := Lib.hid hsu
      have Hrr := Lib.hid hrr
      have hd : (l[k] == l[k - 1] + 1) = false := by rw [beq_eq_false_iff_ne]; omega
      clear hsu hrr hrun
      generalize runB l k = b at *
      generalize runR l k = r at *
      go_wp2_with fail
      go_quiet (fail)
      go_wp2_with fail
      go_roundw
      case rel => exact ⟨k + 1, by omega, by go_num, int_eq (by rw [Hsu.out]; first | exact max_val (by omega) | (split <;> omega)), int_eq (by rw [Hrr.out]; omega), by first | exact hbr.drew | exact below_drewN hbr _⟩
      case measure => simp [intOf]; omega
    ·obtain rfl : k = 0 := by omega
     simp only [Nat.add_zero] at j0
     have hrr : runR l 1 = 1 := runR_f hlt (fun h => absurd h.1 (by omega))
     replace hsu : runB l 1 = 1 := by show max 0 (runR l 1) = 1; rw [hrr]; rfl
     have Hsu := Lib.hid hsu
     have Hrr := Lib.hid hrr
     clear hsu hrr
     go_wp2_with fail
     go_quiet (fail)
     go_wp2_with fail
     go_roundw
     case rel => exact ⟨1, by omega, by rfl, int_eq (by rw [Hsu.out]; rfl), int_eq (by rw [Hrr.out]; rfl), by first | exact hbr.drew | exact below_drewN hbr _⟩
     case measure => simp [intOf]; omega
   ·obtain rfl : k = l.length := by omega
    go_wp2_with fail
    go_ret
    exact ⟨ret_int (runF_t hq.out).symm, hbr⟩
 ·go_wp2_with fail
  go_ret
  exact ⟨ret_int (runF_f hq.out).symm, hb⟩
def keepsB (l : List Int) (r : Int) : Bool := (seasonB l && inB r 1 60) && decide (runF l ≤ r)
theorem implKeepsRest_any (v : Value) (l : List Int) (r : Int) (w : World) (h : RdL cInt 1 w v l) :
  Calls Tryz.prog 53 #[v, .int .i64 r] w fun e w' => e = .returned (.bool (keepsB l r)) ∧ Below w.heap.size w w' := by
 have h0 := h
 obtain ⟨A, c, rfl, h1, h2⟩ := h.form
 go_enter Tryz.func53, Tryz.ntmps53
 go_wp2_with fail
 refine twoB (implSeasonOk_any _ l _ h0) (fun w1 hq hb => ?_) (fun w1 hq hb => ?_)
 ·go_wp2_with fail
  refine two (within_any _ _ _ _) (fun hc => ?_) (fun hc => ?_)
  ·have hcon := implLongestRun_any _ l _ (h0.below hb)
   obtain ⟨x, hx⟩ : ∃ x, runF l = x := ⟨_, rfl⟩
   rw [hx] at hcon
   have Hx := Lib.hid hx
   have Hcon := Lib.hid hcon
   clear hx hcon
   go_wp2_with (go_at_call 105; refine Hcon.out.mono ?_; rintro e w2 ⟨rfl, hb2⟩)
   go_ret
   exact ⟨ret_bool (by rw [keepsB, hq.out, hc.out, Hx.out]; rfl), bl_trans hb hb2⟩
  ·go_wp2_with fail
   go_ret
   exact ⟨ret_bool (by rw [keepsB, hc.out, Bool.and_false]; rfl), hb⟩
 ·go_wp2_with fail
  go_ret
  exact ⟨ret_bool (by rw [keepsB, hq.out]; rfl), hb⟩
theorem specKeepsRest_any (v : Value) (l : List Int) (r : Int) (w : World) (h : RdL cInt 1 w v l) :
  Calls Tryz.prog 38 #[v, .int .i64 r] w fun e w' => e = .returned (.bool (keepsB l r)) ∧ Below w.heap.size w w' := by
 have h0 := h
 obtain ⟨A, c, rfl, h1, h2⟩ := h.form
 go_enter Tryz.func38, Tryz.ntmps38
 go_wp2_with fail
 refine twoB (specSeasonOk_any _ l _ h0) (fun w1 hq hb => ?_) (fun w1 hq hb => ?_)
 ·go_wp2_with fail
  refine two (l01In_any _ _ _ _) (fun hc => ?_) (fun hc => ?_)
  ·have hcon := specLongestRun_any _ l _ (h0.below hb)
   obtain ⟨x, hx⟩ : ∃ x, runF l = x := ⟨_, rfl⟩
   rw [hx] at hcon
   have Hx := Lib.hid hx
   have Hcon := Lib.hid hcon
   clear hx hcon
   go_wp2_with (go_at_call 86; refine Hcon.out.mono ?_; rintro e w2 ⟨rfl, hb2⟩)
   go_ret
   exact ⟨ret_bool (by rw [keepsB, hq.out, hc.out, Hx.out]; rfl), bl_trans hb hb2⟩
  ·go_wp2_with fail
   go_ret
   exact ⟨ret_bool (by rw [keepsB, hc.out, Bool.and_false]; rfl), hb⟩
 ·go_wp2_with fail
  go_ret
  exact ⟨ret_bool (by rw [keepsB, hq.out]; rfl), hb⟩
def theatreB (n m : Int) (cs : List RCross) (ps : List RPl) (ds : List Int) : Bool := (companyB n cs ps && keepsB ds 5) && inB m 0 1000000
set_option maxHeartbeats 1000000 in
theorem implTheatreOk_any (n m : Int) (v1 v2 v3 : Value) (cs : List RCross) (ps : List RPl) (ds : List Int) (w : World) (h : RdTheatre w v1 v2 v3 cs ps ds) :
  Calls Tryz.prog 36 #[.agg #[.int .i64 n, v1, v2, v3, .int .i64 m]] w fun e w' => e = .returned (.bool (theatreB n m cs ps ds)) ∧ Below w.heap.size w w' := by
 obtain ⟨⟨A1, c1, rfl⟩, ⟨A2, c2, rfl⟩, ⟨A3, c3, rfl⟩⟩ := h.forms
 obtain ⟨h1, h2⟩ := h
 go_enter Tryz.func36, Tryz.ntmps36
 go_wp2_with fail
 refine twoB (implCompanyOk_any n _ _ cs ps _ (h1.below (by (repeat' (first | exact Below.refl _ _ | refine qS ?_ _ | refine qA ?_ _ | refine qD ?_ | refine qN ?_ _ | refine qT ?_ (by assumption)))))) (fun w1 hq hb => ?_) (fun w1 hq hb => ?_)
 ·have k3 := carry (b := w.heap.size) (o := 3) (v := .slice A3 ds.length c3) hb (by simp [go_sem])
  have k4 := carry (b := w.heap.size) (o := 4) (v := .int .i64 m) hb (by simp [go_sem])
  have hb' := bl_alloc hb
  go_wp2_with fail
  refine twoB (implKeepsRest_any _ ds 5 _ (h2.below hb')) (fun w2 hr hb2 => ?_) (fun w2 hr hb2 => ?_)
  ·replace k4 := carry hb2 k4
   go_wp2_with (go_at_call 83; refine (within_any _ _ _ _).mono ?_; rintro e w3 ⟨rfl, rfl⟩)
   go_ret
   exact ⟨ret_bool (by rw [theatreB, hq.out, hr.out]; rfl), bl_trans hb' hb2⟩
  ·go_wp2_with fail
   go_ret
   exact ⟨ret_bool (by rw [theatreB, hr.out, Bool.and_false]; rfl), bl_trans hb' hb2⟩
 ·go_wp2_with fail
  go_ret
  exact ⟨ret_bool (by rw [theatreB, hq.out]; rfl), bl_alloc hb⟩
set_option maxHeartbeats 1000000 in
theorem specTheatreOk_any (n m : Int) (v1 v2 v3 : Value) (cs : List RCross) (ps : List RPl) (ds : List Int) (w : World) (h : RdTheatre w v1 v2 v3 cs ps ds) :
  Calls Tryz.prog 58 #[.agg #[.int .i64 n, v1, v2, v3, .int .i64 m]] w fun e w' => e = .returned (.bool (theatreB n m cs ps ds)) ∧ Below w.heap.size w w' := by
 obtain ⟨⟨A1, c1, rfl⟩, ⟨A2, c2, rfl⟩, ⟨A3, c3, rfl⟩⟩ := h.forms
 obtain ⟨h1, h2⟩ := h
 go_enter Tryz.func58, Tryz.ntmps58
 go_wp2_with fail
 refine twoB (specCompanyOk_any n _ _ cs ps _ (h1.below (by (repeat' (first | exact Below.refl _ _ | refine qS ?_ _ | refine qA ?_ _ | refine qD ?_ | refine qN ?_ _ | refine qT ?_ (by assumption)))))) (fun w1 hq hb => ?_) (fun w1 hq hb => ?_)
 ·have k3 := carry (b := w.heap.size) (o := 3) (v := .slice A3 ds.length c3) hb (by simp [go_sem])
  have k4 := carry (b := w.heap.size) (o := 4) (v := .int .i64 m) hb (by simp [go_sem])
  have hb' := bl_alloc hb
  go_wp2_with fail
  refine twoB (specKeepsRest_any _ ds 5 _ (h2.below hb')) (fun w2 hr hb2 => ?_) (fun w2 hr hb2 => ?_)
  ·replace k4 := carry hb2 k4
   go_wp2_with (go_at_call 85; refine (l01In_any _ _ _ _).mono ?_; rintro e w3 ⟨rfl, rfl⟩)
   go_ret
   exact ⟨ret_bool (by rw [theatreB, hq.out, hr.out]; rfl), bl_trans hb' hb2⟩
  ·go_wp2_with fail
   go_ret
   exact ⟨ret_bool (by rw [theatreB, hr.out, Bool.and_false]; rfl), bl_trans hb' hb2⟩
 ·go_wp2_with fail
  go_ret
  exact ⟨ret_bool (by rw [theatreB, hq.out]; rfl), bl_alloc hb⟩
open Go.RowKit
theorem own_full {w : World} {base : Nat} {e : TypeId} {size n : Nat} (cur : Array Value) (hb : base ≤ w.heap.size) (hm : n ≤ maxLen) (hs : cur.size = n * size) :
  (w.alloc (.cells cur e)).ownsRow base e size (.slice (some ⟨w.heap.size, 0, none⟩) n n) n cur.toList :=
 ⟨by simpa using hs, .inr ⟨w.heap.size, n, cur, rfl, hb, heap_alloc_new w _, Nat.le_refl _, hm, hs, by rw [← hs, ← Array.length_toList, List.take_length]⟩⟩
theorem frozen_al {w : World} {p : Addr} {v : Value} (o : Obj) (h : w.cell? p = some v) (hf : w.frozen? p = false) : (w.alloc o).frozen? p = false :=
 (((Below.refl w.heap.size w).alloc (Nat.le_refl _) o).frozen (World.block_lt_of_cell? w _ h)).trans hf
def onePl : List RPl := [([0], 2)]
def openB (n m : Int) : Bool := theatreB n m [] onePl []
def openV (b : Bool) (x : Int) : Int := if b = true then x else 0
def openP (b : Bool) : List RPl := if b = true then onePl else []
def OpenPost (n m : Int) (w : World) (e : Ending) (w' : World) : Prop :=
 ∃ x1 x2 x3 S, e = .returned (.tuple #[.agg #[.int .i64 (openV (openB n m) n), x1, x2, x3, .int .i64 (openV (openB n m) m)], .bool (openB n m)]) ∧ OwTheatre w' S x1 x2 x3 [] (openP (openB n m)) [] ∧ Fresh w.heap.size w' S ∧ Below w.heap.size w w'
theorem ow_none (w : World) : OwTheatre w [] (.slice none 0 0) (.slice none 0 0) (.slice none 0 0) [] [] [] :=
 ⟨[], [], rfl, ⟨[], [], rfl, ⟨World.ownsRow_nil _ _ _ _, rfl⟩, OwPls.empty w⟩, ⟨World.ownsRow_nil _ _ _ _, rfl⟩⟩
theorem fresh_nil (B : Nat) (w : World) : Fresh B w [] := ⟨List.nodup_nil, fun b hb => by simp at hb⟩
theorem ow_one (w : World) {b c : Nat} (h1 : w.ownsRow 0 3 1 (.slice (some ⟨b, 0, none⟩) 1 1) 1 [.int .i64 0]) (h2 : w.ownsRow 0 105 2 (.slice (some ⟨c, 0, none⟩) 1 1) 1 [.slice (some ⟨b, 0, none⟩) 1 1, .int .i64 2]) :
  OwPls w [c, b] (.slice (some ⟨c, 0, none⟩) 1 1) onePl := by
 refine ⟨[(.slice (some ⟨b, 0, none⟩) 1 1, 2)], rfl, h2, fun i p r hp hr => ?_, rfl⟩
 cases i with
 | zero =>
  simp [onePl] at hp hr
  subst hp hr
  exact ⟨rfl, h1⟩
 | succ i => simp at hp
set_option maxHeartbeats 2000000 in
set_option maxRecDepth 100000 in
theorem implOpenTheatre_any (n m : Int) (w : World) :
  Calls Tryz.prog 47 #[.int .i64 n, .int .i64 m] w (OpenPost n m w) := by
 go_enter Tryz.func47, Tryz.ntmps47
 go_wp2_with fail
 have o1 : (((w.alloc (.cells #[.int .i64 0, .slice none 0 0, .slice none 0 0, .slice none 0 0, .int .i64 0] 37)).alloc (.cells #[.int .i64 0] 3))).ownsRow 0 3 1 (.slice (some ⟨w.heap.size + 1, 0, none⟩) 1 1) 1 [.int .i64 0] := by
  have := own_full (w := w.alloc (.cells #[.int .i64 0, .slice none 0 0, .slice none 0 0, .slice none 0 0, .int .i64 0] 37)) (base := 0) (e := 3) (size := 1) (n := 1) #[.int .i64 0] (Nat.zero_le _) (by simp [maxLen]) rfl
  simpa using this
 have o2 : (((w.alloc (.cells #[.int .i64 0, .slice none 0 0, .slice none 0 0, .slice none 0 0, .int .i64 0] 37)).alloc (.cells #[.int .i64 0] 3)).alloc (.cells #[.slice (some ⟨w.heap.size + 1, 0, none⟩) 1 1, .int .i64 2] 105)).ownsRow 0 105 2 (.slice (some ⟨w.heap.size + 1 + 1, 0, none⟩) 1 1) 1 [.slice (some ⟨w.heap.size + 1, 0, none⟩) 1 1, .int .i64 2] := by
  have := own_full (w := (w.alloc (.cells #[.int .i64 0, .slice none 0 0, .slice none 0 0, .slice none 0 0, .int .i64 0] 37)).alloc (.cells #[.int .i64 0] 3)) (base := 0) (e := 105) (size := 2) (n := 1) #[.slice (some ⟨w.heap.size + 1, 0, none⟩) 1 1, .int .i64 2] (Nat.zero_le _) (by simp [maxLen]) rfl
  simpa using this
 have op := (ow_one _ (o1.alloc _) o2).below ((Below.refl _ _).alloc (Nat.le_refl _) (.cells #[.int .i64 n, .slice none 0 0, .slice (some ⟨w.heap.size + 1 + 1, 0, none⟩) 1 1, .slice none 0 0, .int .i64 m] 37))
 have hrd : RdTheatre _ (.slice none 0 0) (.slice (some ⟨w.heap.size + 1 + 1, 0, none⟩) 1 1) (.slice none 0 0) [] onePl [] := ⟨⟨RdS.of_own (World.ownsRow_nil _ 0 0 _), op.rd⟩, RdS.of_own (World.ownsRow_nil _ 0 0 _)⟩
 refine twoB (implTheatreOk_any n m _ _ _ [] onePl [] _ hrd) (fun w1 hq hb => ?_) (fun w1 hq hb => ?_)
 all_goals
  have hz := hb.size
  simp at hz
  have c0 := carry (b := w.heap.size + 1 + 1 + 1) (o := 0) (v := .int .i64 n) hb (by simp [go_sem])
  have c1 := carry (b := w.heap.size + 1 + 1 + 1) (o := 1) (v := .slice none 0 0) hb (by simp [go_sem])
  have c2 := carry (b := w.heap.size + 1 + 1 + 1) (o := 2) (v := .slice (some ⟨w.heap.size + 1 + 1, 0, none⟩) 1 1) hb (by simp [go_sem])
  have c3 := carry (b := w.heap.size + 1 + 1 + 1) (o := 3) (v := .slice none 0 0) hb (by simp [go_sem])
  have c4 := carry (b := w.heap.size + 1 + 1 + 1) (o := 4) (v := .int .i64 m) hb (by simp [go_sem])
  have p0 := carryF (b := w.heap.size) (o := 0) (v := .int .i64 0) hb (by simp [go_sem]) (by simp [go_sem])
  have p1 := carryF (b := w.heap.size) (o := 1) (v := .slice none 0 0) hb (by simp [go_sem]) (by simp [go_sem])
  have p2 := carryF (b := w.heap.size) (o := 2) (v := .slice none 0 0) hb (by simp [go_sem]) (by simp [go_sem])
  have p3 := carryF (b := w.heap.size) (o := 3) (v := .slice none 0 0) hb (by simp [go_sem]) (by simp [go_sem])
  have p4 := carryF (b := w.heap.size) (o := 4) (v := .int .i64 0) hb (by simp [go_sem]) (by simp [go_sem])
  have j0 := carry (b := w.heap.size) (o := 0) (v := .int .i64 0) hb (by simp [go_sem])
  have j1 := carry (b := w.heap.size) (o := 1) (v := .slice none 0 0) hb (by simp [go_sem])
  have j2 := carry (b := w.heap.size) (o := 2) (v := .slice none 0 0) hb (by simp [go_sem])
  have j3 := carry (b := w.heap.size) (o := 3) (v := .slice none 0 0) hb (by simp [go_sem])
  have j4 := carry (b := w.heap.size) (o := 4) (v := .int .i64 0) hb (by simp [go_sem])
  have hb' := bl_alloc (bl_alloc (bl_alloc (bl_alloc hb)))
  replace op := op.below hb
  clear o1 o2 hrd
  go_wp2_with fail
 ·have hB : openB n m = true := hq.out
  have e0 : openV (openB n m) n = n := by rw [hB]; rfl
  have e4 : openV (openB n m) m = m := by rw [hB]; rfl
  have eP : openP (openB n m) = onePl := by rw [hB]; rfl
  refine bodyPost_ret (v := .tuple #[.agg #[.int .i64 n, .slice none 0 0, .slice (some ⟨w.heap.size + 1 + 1, 0, none⟩) 1 1, .slice none 0 0, .int .i64 m], .bool true]) (by simp [results, Tryz.results47, go_sem, *]) rfl ⟨.slice none 0 0, .slice (some ⟨w.heap.size + 1 + 1, 0, none⟩) 1 1, .slice none 0 0, [w.heap.size + 1 + 1, w.heap.size + 1], by rw [e0, e4, hB], ?_, ⟨by simp, fun b hb => by simp at hb; simp; omega⟩, by (repeat' (with_reducible first | exact Below.refl _ _ | assumption | refine qS ?_ _ | refine qA ?_ _ | refine qD ?_ | refine qN ?_ _))⟩
  rw [eP]
  have op' := op.chg (w' := _) (T := [w.heap.size]) (by repeat' (with_reducible first | exact Chg.refl _ _ | refine qC ?_)) (fun b hb hc => by simp at hb hc; omega)
  exact ⟨[w.heap.size + 1 + 1, w.heap.size + 1], [], by simp, ⟨[], [w.heap.size + 1 + 1, w.heap.size + 1], rfl, ⟨World.ownsRow_nil _ _ _ _, rfl⟩, op.chg (T := [w.heap.size]) (by repeat' (with_reducible first | exact Chg.refl _ _ | refine qC ?_)) (fun b hb hc => by simp at hb hc; omega)⟩, ⟨World.ownsRow_nil _ _ _ _, rfl⟩⟩
 ·have hB : openB n m = false := hq.out
  have e0 : openV (openB n m) n = 0 := by rw [hB]; rfl
  have e4 : openV (openB n m) m = 0 := by rw [hB]; rfl
  have eP : openP (openB n m) = [] := by rw [hB]; rfl
  refine bodyPost_ret (v := .tuple #[.agg #[.int .i64 0, .slice none 0 0, .slice none 0 0, .slice none 0 0, .int .i64 0], .bool false]) (by simp [results, Tryz.results47, go_sem, *]) rfl ⟨.slice none 0 0, .slice none 0 0, .slice none 0 0, [], by rw [e0, e4, hB], ?_, fresh_nil _ _, by (repeat' (with_reducible first | exact Below.refl _ _ | assumption | refine qS ?_ _ | refine qA ?_ _ | refine qD ?_ | refine qN ?_ _))⟩
  rw [eP]
  exact ow_none _
set_option maxHeartbeats 2000000 in
set_option maxRecDepth 100000 in
theorem specOpenTheatre_any (n m : Int) (w : World) :
  Calls Tryz.prog 165 #[.int .i64 n, .int .i64 m] w (OpenPost n m w) := by
 go_enter Tryz.func165, Tryz.ntmps165
 go_wp2_with fail
 have o1 : (((w.alloc (.cells #[.int .i64 0, .slice none 0 0, .slice none 0 0, .slice none 0 0, .int .i64 0] 37)).alloc (.cells #[.int .i64 0] 3))).ownsRow 0 3 1 (.slice (some ⟨w.heap.size + 1, 0, none⟩) 1 1) 1 [.int .i64 0] := by
  have := own_full (w := w.alloc (.cells #[.int .i64 0, .slice none 0 0, .slice none 0 0, .slice none 0 0, .int .i64 0] 37)) (base := 0) (e := 3) (size := 1) (n := 1) #[.int .i64 0] (Nat.zero_le _) (by simp [maxLen]) rfl
  simpa using this
 have o2 : (((w.alloc (.cells #[.int .i64 0, .slice none 0 0, .slice none 0 0, .slice none 0 0, .int .i64 0] 37)).alloc (.cells #[.int .i64 0] 3)).alloc (.cells #[.slice (some ⟨w.heap.size + 1, 0, none⟩) 1 1, .int .i64 2] 105)).ownsRow 0 105 2 (.slice (some ⟨w.heap.size + 1 + 1, 0, none⟩) 1 1) 1 [.slice (some ⟨w.heap.size + 1, 0, none⟩) 1 1, .int .i64 2] := by
  have := own_full (w := (w.alloc (.cells #[.int .i64 0, .slice none 0 0, .slice none 0 0, .slice none 0 0, .int .i64 0] 37)).alloc (.cells #[.int .i64 0] 3)) (base := 0) (e := 105) (size := 2) (n := 1) #[.slice (some ⟨w.heap.size + 1, 0, none⟩) 1 1, .int .i64 2] (Nat.zero_le _) (by simp [maxLen]) rfl
  simpa using this
 have op := (ow_one _ (o1.alloc _) o2).below ((Below.refl _ _).alloc (Nat.le_refl _) (.cells #[.int .i64 n, .slice none 0 0, .slice (some ⟨w.heap.size + 1 + 1, 0, none⟩) 1 1, .slice none 0 0, .int .i64 m] 37))
 have hrd : RdTheatre _ (.slice none 0 0) (.slice (some ⟨w.heap.size + 1 + 1, 0, none⟩) 1 1) (.slice none 0 0) [] onePl [] := ⟨⟨RdS.of_own (World.ownsRow_nil _ 0 0 _), op.rd⟩, RdS.of_own (World.ownsRow_nil _ 0 0 _)⟩
 refine twoB (specTheatreOk_any n m _ _ _ [] onePl [] _ hrd) (fun w1 hq hb => ?_) (fun w1 hq hb => ?_)
 all_goals
  have hz := hb.size
  simp at hz
  have c0 := carry (b := w.heap.size + 1 + 1 + 1) (o := 0) (v := .int .i64 n) hb (by simp [go_sem])
  have c1 := carry (b := w.heap.size + 1 + 1 + 1) (o := 1) (v := .slice none 0 0) hb (by simp [go_sem])
  have c2 := carry (b := w.heap.size + 1 + 1 + 1) (o := 2) (v := .slice (some ⟨w.heap.size + 1 + 1, 0, none⟩) 1 1) hb (by simp [go_sem])
  have c3 := carry (b := w.heap.size + 1 + 1 + 1) (o := 3) (v := .slice none 0 0) hb (by simp [go_sem])
  have c4 := carry (b := w.heap.size + 1 + 1 + 1) (o := 4) (v := .int .i64 m) hb (by simp [go_sem])
  have p0 := carryF (b := w.heap.size) (o := 0) (v := .int .i64 0) hb (by simp [go_sem]) (by simp [go_sem])
  have p1 := carryF (b := w.heap.size) (o := 1) (v := .slice none 0 0) hb (by simp [go_sem]) (by simp [go_sem])
  have p2 := carryF (b := w.heap.size) (o := 2) (v := .slice none 0 0) hb (by simp [go_sem]) (by simp [go_sem])
  have p3 := carryF (b := w.heap.size) (o := 3) (v := .slice none 0 0) hb (by simp [go_sem]) (by simp [go_sem])
  have p4 := carryF (b := w.heap.size) (o := 4) (v := .int .i64 0) hb (by simp [go_sem]) (by simp [go_sem])
  have j0 := carry (b := w.heap.size) (o := 0) (v := .int .i64 0) hb (by simp [go_sem])
  have j1 := carry (b := w.heap.size) (o := 1) (v := .slice none 0 0) hb (by simp [go_sem])
  have j2 := carry (b := w.heap.size) (o := 2) (v := .slice none 0 0) hb (by simp [go_sem])
  have j3 := carry (b := w.heap.size) (o := 3) (v := .slice none 0 0) hb (by simp [go_sem])
  have j4 := carry (b := w.heap.size) (o := 4) (v := .int .i64 0) hb (by simp [go_sem])
  have hb' := bl_alloc (bl_alloc (bl_alloc (bl_alloc hb)))
  replace op := op.below hb
  clear o1 o2 hrd
  go_wp2_with fail
 ·have hB : openB n m = true := hq.out
  have e0 : openV (openB n m) n = n := by rw [hB]; rfl
  have e4 : openV (openB n m) m = m := by rw [hB]; rfl
  have eP : openP (openB n m) = onePl := by rw [hB]; rfl
  refine bodyPost_ret (v := .tuple #[.agg #[.int .i64 n, .slice none 0 0, .slice (some ⟨w.heap.size + 1 + 1, 0, none⟩) 1 1, .slice none 0 0, .int .i64 m], .bool true]) (by simp [results, Tryz.results165, go_sem, *]) rfl ⟨.slice none 0 0, .slice (some ⟨w.heap.size + 1 + 1, 0, none⟩) 1 1, .slice none 0 0, [w.heap.size + 1 + 1, w.heap.size + 1], by rw [e0, e4, hB], ?_, ⟨by simp, fun b hb => by simp at hb; simp; omega⟩, by (repeat' (with_reducible first | exact Below.refl _ _ | assumption | refine qS ?_ _ | refine qA ?_ _ | refine qD ?_ | refine qN ?_ _))⟩
  rw [eP]
  have op' := op.chg (w' := _) (T := [w.heap.size]) (by repeat' (with_reducible first | exact Chg.refl _ _ | refine qC ?_)) (fun b hb hc => by simp at hb hc; omega)
  exact ⟨[w.heap.size + 1 + 1, w.heap.size + 1], [], by simp, ⟨[], [w.heap.size + 1 + 1, w.heap.size + 1], rfl, ⟨World.ownsRow_nil _ _ _ _, rfl⟩, op.chg (T := [w.heap.size]) (by repeat' (with_reducible first | exact Chg.refl _ _ | refine qC ?_)) (fun b hb hc => by simp at hb hc; omega)⟩, ⟨World.ownsRow_nil _ _ _ _, rfl⟩⟩
 ·have hB : openB n m = false := hq.out
  have e0 : openV (openB n m) n = 0 := by rw [hB]; rfl
  have e4 : openV (openB n m) m = 0 := by rw [hB]; rfl
  have eP : openP (openB n m) = [] := by rw [hB]; rfl
  refine bodyPost_ret (v := .tuple #[.agg #[.int .i64 0, .slice none 0 0, .slice none 0 0, .slice none 0 0, .int .i64 0], .bool false]) (by simp [results, Tryz.results165, go_sem, *]) rfl ⟨.slice none 0 0, .slice none 0 0, .slice none 0 0, [], by rw [e0, e4, hB], ?_, fresh_nil _ _, by (repeat' (with_reducible first | exact Below.refl _ _ | assumption | refine qS ?_ _ | refine qA ?_ _ | refine qD ?_ | refine qN ?_ _))⟩
  rw [eP]
  exact ow_none _
theorem samp_t : openB 3 60 = true := by decide
def SampOpen (w : World) (e : Ending) (w' : World) : Prop :=
 ∃ x1 x2 x3 S, e = .returned (.tuple #[.agg #[.int .i64 3, x1, x2, x3, .int .i64 60], .bool true]) ∧ OwTheatre w' S x1 x2 x3 [] onePl [] ∧ Fresh w.heap.size w' S ∧ Below w.heap.size w w'
theorem sample_of {w w' : World} {e : Ending} (h : OpenPost 3 60 w e w') : SampOpen w e w' := by
 unfold OpenPost at h
 rw [samp_t] at h
 exact h
def SamplePost (w : World) (e : Ending) (w' : World) : Prop :=
 ∃ x1 x2 x3 S, e = .returned (.agg #[.int .i64 3, x1, x2, x3, .int .i64 60]) ∧ OwTheatre w' S x1 x2 x3 [] onePl [] ∧ Fresh w.heap.size w' S ∧ Below w.heap.size w w'
set_option maxHeartbeats 2000000 in
set_option maxRecDepth 100000 in
theorem implSampleTheatre_any (w : World) : Calls Tryz.prog 49 #[] w (SamplePost w) := by
 have hcon := fun W => (implOpenTheatre_any 3 60 W).mono (fun e w' h => sample_of h)
 have Hcon := Lib.hid hcon
 clear hcon
 go_enter Tryz.func49, Tryz.ntmps49
 go_wp2_with fail
 refine (Hcon.out _).mono ?_
 rintro e w1 ⟨x1, x2, x3, S, rfl, ho, hf, hb⟩
 obtain ⟨⟨A1, c1, e1⟩, ⟨A2, c2, e2⟩, ⟨A3, c3, e3⟩⟩ := ho.rd.forms
 change x1 = .slice A1 0 c1 at e1
 change x2 = .slice A2 1 c2 at e2
 change x3 = .slice A3 0 c3 at e3
 subst e1 e2 e3
 have hz := hb.size
 simp at hz
 have p0 := carryF (b := w.heap.size) (o := 0) (v := .int .i64 0) hb (by simp [go_sem]) (by simp [go_sem])
 have p1 := carryF (b := w.heap.size) (o := 1) (v := .slice none 0 0) hb (by simp [go_sem]) (by simp [go_sem])
 have p2 := carryF (b := w.heap.size) (o := 2) (v := .slice none 0 0) hb (by simp [go_sem]) (by simp [go_sem])
 have p3 := carryF (b := w.heap.size) (o := 3) (v := .slice none 0 0) hb (by simp [go_sem]) (by simp [go_sem])
 have p4 := carryF (b := w.heap.size) (o := 4) (v := .int .i64 0) hb (by simp [go_sem]) (by simp [go_sem])
 have j0 := carry (b := w.heap.size) (o := 0) (v := .int .i64 0) hb (by simp [go_sem])
 have j1 := carry (b := w.heap.size) (o := 1) (v := .slice none 0 0) hb (by simp [go_sem])
 have j2 := carry (b := w.heap.size) (o := 2) (v := .slice none 0 0) hb (by simp [go_sem])
 have j3 := carry (b := w.heap.size) (o := 3) (v := .slice none 0 0) hb (by simp [go_sem])
 have j4 := carry (b := w.heap.size) (o := 4) (v := .int .i64 0) hb (by simp [go_sem])
 have hb' := bl_alloc hb
 replace p0 := frozen_al (.cells #[.int .i64 3, .slice A1 0 c1, .slice A2 1 c2, .slice A3 0 c3, .int .i64 60] 37) j0 p0
 replace j0 := cell_alloc (.cells #[.int .i64 3, .slice A1 0 c1, .slice A2 1 c2, .slice A3 0 c3, .int .i64 60] 37) j0
 replace p1 := frozen_al (.cells #[.int .i64 3, .slice A1 0 c1, .slice A2 1 c2, .slice A3 0 c3, .int .i64 60] 37) j1 p1
 replace j1 := cell_alloc (.cells #[.int .i64 3, .slice A1 0 c1, .slice A2 1 c2, .slice A3 0 c3, .int .i64 60] 37) j1
 replace p2 := frozen_al (.cells #[.int .i64 3, .slice A1 0 c1, .slice A2 1 c2, .slice A3 0 c3, .int .i64 60] 37) j2 p2
 replace j2 := cell_alloc (.cells #[.int .i64 3, .slice A1 0 c1, .slice A2 1 c2, .slice A3 0 c3, .int .i64 60] 37) j2
 replace p3 := frozen_al (.cells #[.int .i64 3, .slice A1 0 c1, .slice A2 1 c2, .slice A3 0 c3, .int .i64 60] 37) j3 p3
 replace j3 := cell_alloc (.cells #[.int .i64 3, .slice A1 0 c1, .slice A2 1 c2, .slice A3 0 c3, .int .i64 60] 37) j3
 replace p4 := frozen_al (.cells #[.int .i64 3, .slice A1 0 c1, .slice A2 1 c2, .slice A3 0 c3, .int .i64 60] 37) j4 p4
 replace j4 := cell_alloc (.cells #[.int .i64 3, .slice A1 0 c1, .slice A2 1 c2, .slice A3 0 c3, .int .i64 60] 37) j4
 go_wp2_with fail
 clear Hcon
 refine bodyPost_ret (v := .agg #[.int .i64 3, .slice A1 0 c1, .slice A2 1 c2, .slice A3 0 c3, .int .i64 60]) (by simp [results, Tryz.results49, go_sem, *]) rfl ⟨_, _, _, S, rfl, ?_, ?_, by (repeat' (with_reducible first | exact Below.refl _ _ | assumption | refine qS ?_ _ | refine qA ?_ _ | refine qD ?_ | refine qN ?_ _))⟩
 ·exact ((ho.below ((Below.refl _ _).alloc (Nat.le_refl _) _)).chg (T := [w.heap.size]) (by repeat' (with_reducible first | exact Chg.refl _ _ | refine qC ?_)) (fun b hb hc => by have := hf.2 b hb; simp at hc this; omega))
 ·exact fresh_mono hf (by simp) (by simp)
set_option maxHeartbeats 2000000 in
set_option maxRecDepth 100000 in
theorem specSampleTheatre_any (w : World) : Calls Tryz.prog 141 #[] w (SamplePost w) := by
 have hcon := fun W => (specOpenTheatre_any 3 60 W).mono (fun e w' h => sample_of h)
 have Hcon := Lib.hid hcon
 clear hcon
 go_enter Tryz.func141, Tryz.ntmps141
 go_wp2_with fail
 refine (Hcon.out _).mono ?_
 rintro e w1 ⟨x1, x2, x3, S, rfl, ho, hf, hb⟩
 obtain ⟨⟨A1, c1, e1⟩, ⟨A2, c2, e2⟩, ⟨A3, c3, e3⟩⟩ := ho.rd.forms
 change x1 = .slice A1 0 c1 at e1
 change x2 = .slice A2 1 c2 at e2
 change x3 = .slice A3 0 c3 at e3
 subst e1 e2 e3
 have hz := hb.size
 simp at hz
 have p0 := carryF (b := w.heap.size) (o := 0) (v := .int .i64 0) hb (by simp [go_sem]) (by simp [go_sem])
 have p1 := carryF (b := w.heap.size) (o := 1) (v := .slice none 0 0) hb (by simp [go_sem]) (by simp [go_sem])
 have p2 := carryF (b := w.heap.size) (o := 2) (v := .slice none 0 0) hb (by simp [go_sem]) (by simp [go_sem])
 have p3 := carryF (b := w.heap.size) (o := 3) (v := .slice none 0 0) hb (by simp [go_sem]) (by simp [go_sem])
 have p4 := carryF (b := w.heap.size) (o := 4) (v := .int .i64 0) hb (by simp [go_sem]) (by simp [go_sem])
 have j0 := carry (b := w.heap.size) (o := 0) (v := .int .i64 0) hb (by simp [go_sem])
 have j1 := carry (b := w.heap.size) (o := 1) (v := .slice none 0 0) hb (by simp [go_sem])
 have j2 := carry (b := w.heap.size) (o := 2) (v := .slice none 0 0) hb (by simp [go_sem])
 have j3 := carry (b := w.heap.size) (o := 3) (v := .slice none 0 0) hb (by simp [go_sem])
 have j4 := carry (b := w.heap.size) (o := 4) (v := .int .i64 0) hb (by simp [go_sem])
 have hb' := bl_alloc hb
 replace p0 := frozen_al (.cells #[.int .i64 3, .slice A1 0 c1, .slice A2 1 c2, .slice A3 0 c3, .int .i64 60] 37) j0 p0
 replace j0 := cell_alloc (.cells #[.int .i64 3, .slice A1 0 c1, .slice A2 1 c2, .slice A3 0 c3, .int .i64 60] 37) j0
 replace p1 := frozen_al (.cells #[.int .i64 3, .slice A1 0 c1, .slice A2 1 c2, .slice A3 0 c3, .int .i64 60] 37) j1 p1
 replace j1 := cell_alloc (.cells #[.int .i64 3, .slice A1 0 c1, .slice A2 1 c2, .slice A3 0 c3, .int .i64 60] 37) j1
 replace p2 := frozen_al (.cells #[.int .i64 3, .slice A1 0 c1, .slice A2 1 c2, .slice A3 0 c3, .int .i64 60] 37) j2 p2
 replace j2 := cell_alloc (.cells #[.int .i64 3, .slice A1 0 c1, .slice A2 1 c2, .slice A3 0 c3, .int .i64 60] 37) j2
 replace p3 := frozen_al (.cells #[.int .i64 3, .slice A1 0 c1, .slice A2 1 c2, .slice A3 0 c3, .int .i64 60] 37) j3 p3
 replace j3 := cell_alloc (.cells #[.int .i64 3, .slice A1 0 c1, .slice A2 1 c2, .slice A3 0 c3, .int .i64 60] 37) j3
 replace p4 := frozen_al (.cells #[.int .i64 3, .slice A1 0 c1, .slice A2 1 c2, .slice A3 0 c3, .int .i64 60] 37) j4 p4
 replace j4 := cell_alloc (.cells #[.int .i64 3, .slice A1 0 c1, .slice A2 1 c2, .slice A3 0 c3, .int .i64 60] 37) j4
 go_wp2_with fail
 clear Hcon
 refine bodyPost_ret (v := .agg #[.int .i64 3, .slice A1 0 c1, .slice A2 1 c2, .slice A3 0 c3, .int .i64 60]) (by simp [results, Tryz.results141, go_sem, *]) rfl ⟨_, _, _, S, rfl, ?_, ?_, by (repeat' (with_reducible first | exact Below.refl _ _ | assumption | refine qS ?_ _ | refine qA ?_ _ | refine qD ?_ | refine qN ?_ _))⟩
 ·exact ((ho.below ((Below.refl _ _).alloc (Nat.le_refl _) _)).chg (T := [w.heap.size]) (by repeat' (with_reducible first | exact Chg.refl _ _ | refine qC ?_)) (fun b hb hc => by have := hf.2 b hb; simp at hc this; omega))
 ·exact fresh_mono hf (by simp) (by simp)
open Go.RowKit
theorem strict_lt {l : List Int} {a b : Int} (h : strictB l a b = true) : l.Pairwise (· < ·) ∧ ∀ x ∈ l, a ≤ x ∧ x ≤ b := by
 rw [strictB, Bool.and_eq_true] at h
 exact ⟨pairwise_of_asc _ h.1, fun x hx => inB_iff.1 (List.all_eq_true.1 h.2 x hx)⟩
theorem strict_len {l : List Int} {m : Nat} (h : strictB l 0 m = true) : l.length ≤ m + 1 := by
 obtain ⟨h1, h2⟩ := strict_lt h
 have hm : (l.map Int.toNat).Nodup := by
  rw [List.nodup_iff_pairwise_ne, List.pairwise_map]
  refine List.Pairwise.imp_of_mem ?_ h1
  intro a b ha hb hab e
  have := h2 a ha
  have := h2 b hb
  omega
 have hsub : l.map Int.toNat ⊆ List.range (m + 1) := by
  intro x hx
  obtain ⟨a, ha, rfl⟩ := List.mem_map.1 hx
  have := h2 a ha
  simp; omega
 have := List.Nodup.length_le_of_subset hm hsub
 simpa using this
theorem playersB_sz {pl : List RPl} (h : playersB pl = true) : pl.length ≤ 6 ∧ 1 ≤ pl.length ∧ plsTot pl ≤ 48 := by
 rw [playersB, Bool.and_eq_true] at h
 have h6 := inB_iff.1 h.2
 have hs : (pl.map (fun r : RPl => r.1.length)).sum ≤ pl.length * 7 := by
  have hall := List.all_eq_true.1 h.1
  clear h h6
  induction pl with
  | nil => simp
  | cons p pl ih =>
   have h1 := hall p List.mem_cons_self
   rw [playerB, Bool.and_eq_true] at h1
   have h2 := strict_len (m := 6) h1.1
   have h3 := ih (fun x hx => hall x (List.mem_cons_of_mem _ hx))
   rw [List.map_cons, List.sum_cons, List.length_cons, Nat.add_mul]
   omega
 unfold plsTot
 omega
theorem companyB_sz {n : Int} {cs : List RCross} {pl : List RPl} (h : companyB n cs pl = true) : szCompany cs pl ≤ 88 := by
 rw [companyB, Bool.and_eq_true] at h
 have h1 := (crosses_len h.1).2.1
 have h2 := (playersB_sz h.2).2.2
 unfold szCompany
 omega
open Go.RowKit
/- crossings that undo each other -/
def lastC (out : List RCross) : RCross := out.getD (out.length - 1) (0, false)
def undoB (out : List RCross) (c : RCross) : Bool := decide (0 < out.length) && (decide ((lastC out).1 = c.1) && ((lastC out).2 != c.2))
def redStep (out : List RCross) (c : RCross) : List RCross := if undoB out c = true then out.take (out.length - 1) else out ++ [c]
def redF (cs : List RCross) : List RCross := cs.foldl redStep []
def redL (n : Int) (cs : List RCross) : List RCross := if crossesB n cs = true then redF cs else []
theorem redF_succ (cs : List RCross) {k : Nat} (h : k < cs.length) : redF (cs.take (k + 1)) = redStep (redF (cs.take k)) cs[k] := foldl_take_succ _ _ cs h
theorem redStep_len (out : List RCross) (c : RCross) : (redStep out c).length ≤ out.length + 1 := by
 unfold redStep; split
 ·rw [List.length_take]; omega
 ·simp
theorem redF_len (cs : List RCross) (k : Nat) (hk : k ≤ cs.length) : (redF (cs.take k)).length ≤ k := by
 induction k with
 | zero => simp [redF]
 | succ k ih => rw [redF_succ cs (by omega)]; have := redStep_len (redF (cs.take k)) cs[k]; have := ih (by omega); omega
theorem redF_all (cs : List RCross) : (redF cs).length ≤ cs.length := by
 have := redF_len cs cs.length (Nat.le_refl _)
 rwa [List.take_length] at this
open Go.RowKit
theorem indexOf_any (v : Value) (l : List Int) (n : Int) (w : World) (h : RdL cInt 1 w v l) :
  Calls Tryz.prog 134 #[v, .int .i64 n] w fun e w' => e = .returned (.int .i64 (idxF l n)) ∧ w = w' := by
 obtain ⟨A, c, rfl, h1, h2⟩ := h.form
 go_enter Tryz.func134, Tryz.ntmps134
 go_wp2_with fail
 go_loop [9] (fun i => ∃ k : Nat, k ≤ l.length ∧ i = .int .i64 k ∧ Hid ((l.take k).all (neB n) = true)) (fun i => l.length - (intOf i).toNat)
 case atStart => exact ⟨0, Nat.zero_le _, rfl, by rfl⟩
 case round =>
  obtain ⟨k, hk, rfl, hall⟩ := hrel
  by_cases hlt : k < l.length
  ·obtain ⟨g, off, rfl, hg, hc⟩ := h.cell cInt_len (by omega) hlt
   have k0 := hc 0 _ rfl
   simp only [Nat.add_zero, Nat.mul_one] at k0
   clear hc
   by_cases he : l[k] = n
   ·have he' : (l[k] == n) = true := by rw [beq_iff_eq]; exact he
    have He := Lib.hid he
    clear he
    go_wp2_with fail
    go_ret
    exact ⟨ret_int (idxF_at hlt hall.out He.out).symm, rfl⟩
   ·have he' : (l[k] == n) = false := by rw [beq_eq_false_iff_ne]; exact he
    have He := Lib.hid he
    clear he
    go_wp2_with fail
    go_round
    case rel => exact ⟨k + 1, by omega, by go_num, all_take_succ hlt hall.out (neB_t He.out)⟩
    case measure => simp [intOf]; omega
  ·go_wp2_with fail
   go_ret
   exact ⟨ret_int (idxF_none (all_take_end hlt hall.out)).symm, rfl⟩
theorem DrewOf.trans {a b c : World} (h : DrewOf a b) (k : DrewOf b c) : DrewOf a c := by obtain ⟨d, rfl⟩ := h; obtain ⟨d', rfl⟩ := k; exact ⟨d + d', by simp⟩
open Go.RowKit
def swapL (l : List Int) (k : Nat) : List Int := (l.set k (l.getD (k + 1) 0)).set (k + 1) (l.getD k 0)
theorem swapL_len (l : List Int) (k : Nat) : (swapL l k).length = l.length := by simp [swapL]
theorem swapL_zero (a b : Int) (l : List Int) : swapL (a :: b :: l) 0 = b :: a :: l := by simp [swapL]
theorem swapL_succ (a : Int) (l : List Int) (k : Nat) : swapL (a :: l) (k + 1) = a :: swapL l k := by simp [swapL]
theorem swapL_perm : ∀ (l : List Int) (k : Nat), k + 1 < l.length → (swapL l k).Perm l := by
 intro l
 induction l with
 | nil => intro k h; simp at h
 | cons a l ih =>
  intro k h
  cases k with
  | zero =>
   match l, h with
   | b :: l, _ => rw [swapL_zero]; exact List.Perm.swap _ _ _
  | succ k => rw [swapL_succ]; exact List.Perm.cons a (ih k (by simpa using h))
theorem swapL_eq {l : List Int} {k : Nat} (h : k + 1 < l.length) : swapL l k = (l.set k l[k + 1]).set (k + 1) l[k] := by
 unfold swapL
 rw [getD_get2 l (k + 1) h, getD_get2 l k (by omega)]
 where getD_get2 (l : List Int) (k : Nat) (hk : k < l.length) : l.getD k 0 = l[k] := by rw [List.getD_eq_getElem?_getD, List.getElem?_eq_getElem hk]; rfl
def orderF (n : Nat) (cs : List RCross) : List Int := cs.foldl (fun o c => swapL o c.1.toNat) (upN n)
theorem orderF_snoc (n : Nat) {cs : List RCross} {k : Nat} (h : k < cs.length) : orderF n (cs.take (k + 1)) = swapL (orderF n (cs.take k)) cs[k].1.toNat := foldl_take_succ _ _ cs h
theorem orderF_len (n : Nat) (cs : List RCross) : (orderF n cs).length = n := by
 have : ∀ (cs : List RCross) (o : List Int), (cs.foldl (fun o c => swapL o c.1.toNat) o).length = o.length := by
  intro cs
  induction cs with
  | nil => intro o; rfl
  | cons c cs ih => intro o; rw [List.foldl_cons, ih, swapL_len]
 unfold orderF
 rw [this, upN_len]
theorem orderF_perm {n : Nat} {cs : List RCross} (h : ∀ c ∈ cs, 0 ≤ c.1 ∧ c.1 ≤ (n : Int) - 2) : (orderF n cs).Perm (upN n) := by
 have : ∀ (cs : List RCross) (o : List Int), o.length = n → (∀ c ∈ cs, 0 ≤ c.1 ∧ c.1 ≤ (n : Int) - 2) → (cs.foldl (fun o c => swapL o c.1.toNat) o).Perm o := by
  intro cs
  induction cs with
  | nil => intro o _ _; exact .refl _
  | cons c cs ih =>
   intro o ho hc
   have := hc c List.mem_cons_self
   rw [List.foldl_cons]
   exact (ih _ (by rw [swapL_len]; exact ho) (fun x hx => hc x (List.mem_cons_of_mem _ hx))).trans (swapL_perm o _ (by omega))
 exact this cs _ (upN_len n) h
theorem upN_nodup (n : Nat) : (upN n).Nodup := by
 unfold upN
 rw [List.nodup_iff_pairwise_ne, List.pairwise_map]
 exact List.Pairwise.imp (fun hab e => hab (by omega)) (List.nodup_iff_pairwise_ne.1 List.nodup_range)
theorem upN_mem {n : Nat} {x : Int} : x ∈ upN n ↔ 0 ≤ x ∧ x < n := by
 unfold upN
 rw [List.mem_map]
 constructor
 ·rintro ⟨j, hj, rfl⟩
  have := List.mem_range.1 hj
  omega
 ·intro h; exact ⟨x.toNat, List.mem_range.2 (by omega), by omega⟩
theorem upN_sorted (n : Nat) : (upN n).Pairwise (· < ·) := by
 unfold upN
 rw [List.pairwise_map]
 exact List.Pairwise.imp (fun h => by omega) List.pairwise_lt_range
structure IsOrd (n : Nat) (l : List Int) : Prop where
 perm : l.Perm (upN n)
theorem IsOrd.len {n : Nat} {l : List Int} (h : IsOrd n l) : l.length = n := by have := h.perm.length_eq; rwa [upN_len] at this
theorem IsOrd.nodup {n : Nat} {l : List Int} (h : IsOrd n l) : l.Nodup := (List.Perm.nodup_iff h.perm).2 (upN_nodup n)
theorem IsOrd.bd {n : Nat} {l : List Int} (h : IsOrd n l) : ∀ x ∈ l, 0 ≤ x ∧ x < n := fun _ hx => upN_mem.1 ((List.Perm.mem_iff h.perm).1 hx)
theorem IsOrd.swap {n : Nat} {l : List Int} (h : IsOrd n l) {k : Nat} (hk : k + 1 < n) : IsOrd n (swapL l k) := ⟨(swapL_perm l k (by rw [h.len]; exact hk)).trans h.perm⟩
theorem IsOrd.order {n : Nat} {cs : List RCross} (h : ∀ c ∈ cs, 0 ≤ c.1 ∧ c.1 ≤ (n : Int) - 2) : IsOrd n (orderF n cs) := ⟨orderF_perm h⟩
theorem IsOrd.okB {n : Nat} {l : List Int} (h : IsOrd n l) (hn : 1 ≤ n ∧ n ≤ 7) : orderB l = true :=
 (orderB_iff l).2 ⟨by rw [h.len]; omega, h.nodup, fun x hx => by have := h.bd x hx; rw [h.len]; omega⟩
theorem IsOrd.ne {n : Nat} {l : List Int} (h : IsOrd n l) {i j : Nat} (hi : i < l.length) (hj : j < l.length) (hij : i ≠ j) : l[i] ≠ l[j] := by
 have hp := List.pairwise_iff_getElem.1 (List.nodup_iff_pairwise_ne.1 h.nodup)
 rcases Nat.lt_or_ge i j with h1 | h1
 ·exact hp i j hi hj h1
 ·exact fun e => hp j i hj hi (by omega) e.symm
/- inversions -/
def inv : List Int → Nat
 | [] => 0
 | a :: l => l.countP (fun x => decide (x < a)) + inv l
theorem inv_snoc (l : List Int) (x : Int) : inv (l ++ [x]) = inv l + l.countP (fun y => decide (x < y)) := by
 induction l with
 | nil => rfl
 | cons a l ih =>
  rw [List.cons_append, inv, inv, ih, List.countP_append, List.countP_cons, List.countP_cons, List.countP_nil]
  simp only [decide_eq_true_eq]
  omega
theorem inv_take {l : List Int} {k : Nat} (h : k < l.length) : inv (l.take (k + 1)) = inv (l.take k) + (l.take k).countP (fun y => decide (l[k] < y)) := by rw [take_snoc_l l h, inv_snoc]
theorem inv_swap : ∀ (l : List Int) (k : Nat) (h : k + 1 < l.length), l[k + 1] < l[k] → inv l = inv (swapL l k) + 1 := by
 intro l
 induction l with
 | nil => intro k h; simp at h
 | cons a l ih =>
  intro k h hd
  cases k with
  | zero =>
   match l, h, hd with
   | b :: l, _, hd =>
    simp only [Nat.zero_add, List.getElem_cons_succ, List.getElem_cons_zero] at hd
    rw [swapL_zero, inv, inv, inv, inv, List.countP_cons, List.countP_cons]
    simp only [decide_eq_true_eq]
    rw [if_pos hd, if_neg (show ¬ a < b by omega)]
    omega
  | succ k =>
   have hl : k + 1 < l.length := by simpa using h
   have h1 := ih k hl (by simpa using hd)
   rw [swapL_succ, inv, inv, h1, List.Perm.countP_eq _ (swapL_perm l k hl)]
   omega
theorem inv_le (l : List Int) : inv l ≤ l.length * l.length := by
 induction l with
 | nil => simp [inv]
 | cons a l ih =>
  rw [inv, List.length_cons]
  have h1 : l.countP (fun x => decide (x < a)) ≤ l.length := List.countP_le_length
  have h2 : (l.length + 1) * (l.length + 1) = l.length * l.length + l.length + l.length + 1 := by rw [Nat.add_mul, Nat.mul_add]; omega
  omega
theorem inv_zero_sorted : ∀ l : List Int, inv l = 0 → l.Pairwise (· ≤ ·) := by
 intro l
 induction l with
 | nil => intro _; exact List.Pairwise.nil
 | cons a l ih =>
  intro h
  rw [inv] at h
  rw [List.pairwise_cons]
  refine ⟨fun x hx => ?_, ih (by omega)⟩
  have h0 : l.countP (fun x => decide (x < a)) = 0 := by omega
  rw [List.countP_eq_zero] at h0
  have := h0 x hx
  simp at this
  exact this
theorem sorted_inv_zero : ∀ l : List Int, l.Pairwise (· ≤ ·) → inv l = 0 := by
 intro l
 induction l with
 | nil => intro _; rfl
 | cons a l ih =>
  intro h
  rw [List.pairwise_cons] at h
  rw [inv, ih h.2, Nat.add_zero, List.countP_eq_zero]
  intro x hx
  have := h.1 x hx
  simp; omega
theorem IsOrd.inv_zero {n : Nat} {l : List Int} (h : IsOrd n l) : inv l = 0 ↔ l = upN n := by
 constructor
 ·intro h0
  exact List.Perm.eq_of_pairwise (le := (· ≤ ·)) (fun a b _ _ h1 h2 => Int.le_antisymm h1 h2) (inv_zero_sorted l h0) ((upN_sorted n).imp (fun h => Int.le_of_lt h)) h.perm
 ·intro e
  rw [e]
  exact sorted_inv_zero _ ((upN_sorted n).imp (fun h => Int.le_of_lt h))
structure FirstDesc (l : List Int) (k : Nat) : Prop where
 lt : k + 1 < l.length
 up : ∀ j (h : j < k), l[j] < l[j + 1]
 down : l[k + 1] < l[k]
def desc : List Int → Nat
 | [] => 0
 | a :: l => if a < l.headD 0 ∧ l ≠ [] then desc l + 1 else 0
theorem desc_of : ∀ (l : List Int) (k : Nat), FirstDesc l k → desc l = k := by
 intro l
 induction l with
 | nil => intro k h; have := h.lt; simp at this
 | cons a l ih =>
  intro k h
  have hlt := h.lt
  match l, hlt with
  | b :: l, hlt =>
   cases k with
   | zero =>
    have hd := h.down
    simp only [Nat.zero_add, List.getElem_cons_succ, List.getElem_cons_zero] at hd
    rw [desc, if_neg (fun e => by have h1 : a < b := e.1; omega)]
   | succ k =>
    have h0 := h.up 0 (by omega)
    simp only [Nat.zero_add, List.getElem_cons_succ, List.getElem_cons_zero] at h0
    rw [desc, if_pos ⟨h0, by simp⟩, ih k ⟨by simpa using hlt, fun j hj => by have := h.up (j + 1) (by omega); simpa using this, by have := h.down; simpa using this⟩]
theorem no_desc : ∀ (l : List Int), (∀ j (h : j + 1 < l.length), l[j] < l[j + 1]) → inv l = 0 := by
 intro l h
 refine sorted_inv_zero l ?_
 have : l.Pairwise (· < ·) := by
  rw [List.pairwise_iff_getElem]
  have key : ∀ d i (hi : i + d + 1 < l.length), l[i] < l[i + d + 1] := by
   intro d
   induction d with
   | zero => intro i hi; exact h i hi
   | succ d ih => intro i hi; exact Int.lt_trans (ih i (by omega)) (h (i + d + 1) hi)
  intro i j hi hj hij
  have := key (j - i - 1) i (by omega)
  have e : i + (j - i - 1) + 1 = j := by omega
  simp only [e] at this
  exact this
 exact this.imp (fun h => Int.le_of_lt h)
def sortSw : Nat → List Int → List Int
 | 0, _ => []
 | f + 1, l => (desc l : Int) :: sortSw f (swapL l (desc l))
def swapsF (l : List Int) : List Int := sortSw (inv l) l
theorem sortSw_len : ∀ (f : Nat) (l : List Int), (sortSw f l).length = f := by
 intro f
 induction f with
 | zero => intro l; rfl
 | succ f ih => intro l; rw [sortSw, List.length_cons, ih]
theorem swapsF_len (l : List Int) : (swapsF l).length = inv l := sortSw_len _ _
theorem swapsF_step {l : List Int} {k : Nat} (h : FirstDesc l k) : swapsF l = (k : Int) :: swapsF (swapL l k) := by
 have hi := inv_swap l k h.lt h.down
 unfold swapsF
 rw [hi, sortSw, desc_of l k h]
theorem swapsF_zero {l : List Int} (h : inv l = 0) : swapsF l = [] := by unfold swapsF; rw [h]; rfl
theorem swaps_home : ∀ (m n : Nat) (l : List Int), IsOrd n l → inv l = m → (∀ k ∈ swapsF l, 0 ≤ k ∧ k ≤ (n : Int) - 2) ∧ (swapsF l).foldl (fun o k => swapL o k.toNat) l = upN n := by
 intro m
 induction m with
 | zero =>
  intro n l h h0
  rw [swapsF_zero h0]
  exact ⟨by simp, h.inv_zero.1 h0⟩
 | succ m ih =>
  intro n l h h0
  obtain ⟨k, hk⟩ : ∃ k, FirstDesc l k := by
   apply Classical.byContradiction
   intro hno
   have hno : ∀ k, ¬ FirstDesc l k := fun k hk => hno ⟨k, hk⟩
   have : inv l = 0 := by
    refine no_desc l (fun j hj => ?_)
    induction j using Nat.strongRecOn with
    | ind j ihj =>
     have h1 := h.ne (show j < l.length by omega) hj (by omega)
     apply Classical.byContradiction
     intro hge
     exact hno j ⟨hj, fun i hi => ihj i hi (by omega), by omega⟩
   omega
  have hi := inv_swap l k hk.lt hk.down
  have hkn : k + 1 < n := by have := hk.lt; rwa [h.len] at this
  obtain ⟨h1, h2⟩ := ih n (swapL l k) (h.swap hkn) (by omega)
  rw [swapsF_step hk]
  refine ⟨fun x hx => ?_, ?_⟩
  ·rcases List.mem_cons.1 hx with rfl | hx
   ·omega
   ·exact h1 x hx
  ·rw [List.foldl_cons]; exact h2
def homeL (n : Int) (cs : List RCross) : List RCross := if crossesB n cs = true then (swapsF (orderF n.toNat cs)).map (fun k => (k, true)) else []
theorem homeL_t {n : Nat} {cs : List RCross} (h : crossesB n cs = true) : homeL n cs = (swapsF (orderF n cs)).map (fun k => (k, true)) := by unfold homeL; rw [if_pos h]; rfl
theorem homeL_f {n : Int} {cs : List RCross} (h : crossesB n cs = false) : homeL n cs = [] := by unfold homeL; rw [if_neg (by rw [h]; simp)]
theorem homeL_len (n : Int) (cs : List RCross) : (homeL n cs).length ≤ 49 := by
 unfold homeL
 split
 ·rename_i h
  have hn := (crosses_len h).1
  rw [List.length_map, swapsF_len]
  have h1 := inv_le (orderF n.toNat cs)
  rw [orderF_len] at h1
  have h2 : n.toNat * n.toNat ≤ 7 * 7 := Nat.mul_le_mul (by omega) (by omega)
  omega
 ·simp
open Go.RowKit
def cellT (ll : List (List Int)) (a b : Nat) : Int := (ll.getD a []).getD b 0
def addT (ll : List (List Int)) (a b : Nat) (s : Int) : List (List Int) := ll.set a ((ll.getD a []).set b (cellT ll a b + s))
structure Sq (n : Nat) (ll : List (List Int)) : Prop where
 len : ll.length = n
 row : ∀ r ∈ ll, r.length = n
theorem Sq.at_ {n : Nat} {ll : List (List Int)} (h : Sq n ll) {a : Nat} (ha : a < n) : ∃ h1 : a < ll.length, ll[a].length = n ∧ ll.getD a [] = ll[a] := by
 have h1 : a < ll.length := by rw [h.len]; exact ha
 exact ⟨h1, h.row _ (List.getElem_mem h1), by rw [List.getD_eq_getElem?_getD, List.getElem?_eq_getElem h1]; rfl⟩
theorem cellT_at {ll : List (List Int)} {a b : Nat} (h1 : a < ll.length) (h2 : b < ll[a].length) : cellT ll a b = ll[a][b] := by
 unfold cellT
 simp only [List.getD_eq_getElem?_getD]
 rw [List.getElem?_eq_getElem h1, Option.getD_some, List.getElem?_eq_getElem h2]; rfl
theorem addT_sq {n : Nat} {ll : List (List Int)} (h : Sq n ll) {a : Nat} (ha : a < n) (b : Nat) (s : Int) : Sq n (addT ll a b s) := by
 obtain ⟨h1, h2, h3⟩ := h.at_ ha
 refine ⟨by simp [addT, h.len], fun r hr => ?_⟩
 unfold addT at hr
 rcases List.mem_or_eq_of_mem_set hr with hr | rfl
 ·exact h.row r hr
 ·rw [List.length_set, h3]; exact h2
theorem addT_cell {n : Nat} {ll : List (List Int)} (h : Sq n ll) {a b : Nat} (ha : a < n) (hb : b < n) (s : Int) (i j : Nat) : cellT (addT ll a b s) i j = if i = a ∧ j = b then cellT ll a b + s else cellT ll i j := by
 obtain ⟨h1, h2, h3⟩ := h.at_ ha
 unfold addT
 rw [h3]
 generalize cellT ll a b + s = x
 unfold cellT
 by_cases hi : i = a
 ·subst hi
  have e1 : (ll.set i (ll[i].set b x)).getD i [] = ll[i].set b x := by rw [List.getD_eq_getElem?_getD, List.getElem?_set_self h1]; rfl
  rw [e1, h3]
  by_cases hj : j = b
  ·subst hj
   rw [if_pos ⟨rfl, rfl⟩, List.getD_eq_getElem?_getD, List.getElem?_set_self (by rw [h2]; exact hb)]; rfl
  ·rw [if_neg (fun e => hj e.2), List.getD_eq_getElem?_getD, List.getElem?_set_ne (fun e => hj e.symm), List.getD_eq_getElem?_getD]
 ·have e1 : (ll.set a (ll[a].set b x)).getD i [] = ll.getD i [] := by rw [List.getD_eq_getElem?_getD, List.getElem?_set_ne (fun e => hi e.symm), List.getD_eq_getElem?_getD]
  rw [if_neg (fun e => hi e.1), e1]
theorem sq_ext {n : Nat} {l1 l2 : List (List Int)} (h1 : Sq n l1) (h2 : Sq n l2) (h : ∀ i j, i < n → j < n → cellT l1 i j = cellT l2 i j) : l1 = l2 := by
 apply List.ext_getElem
 ·rw [h1.len, h2.len]
 ·intro i hi1 hi2
  have r1 := h1.row _ (List.getElem_mem hi1)
  have r2 := h2.row _ (List.getElem_mem hi2)
  apply List.ext_getElem
  ·rw [r1, r2]
  ·intro j hj1 hj2
   rw [← cellT_at hi1 hj1, ← cellT_at hi2 hj2]
   exact h i j (by rw [← h1.len]; exact hi1) (by rw [← r1]; exact hj1)
def zeroT (n : Nat) : List (List Int) := List.replicate n (List.replicate n 0)
theorem zeroT_sq (n : Nat) : Sq n (zeroT n) := ⟨by simp [zeroT], fun r hr => by simp [zeroT] at hr; rw [hr.2]; simp⟩
theorem zeroT_cell (n i j : Nat) : cellT (zeroT n) i j = 0 := by
 unfold cellT zeroT
 simp only [List.getD_eq_getElem?_getD, List.getElem?_replicate]
 split
 ·rw [Option.getD_some, List.getElem?_replicate]; split <;> rfl
 ·rfl
def stepB (f : Bool) : Int := if f = true then 1 else -1
def twStep (st : List Int × List (List Int)) (c : RCross) : List Int × List (List Int) :=
 (swapL st.1 c.1.toNat, addT (addT st.2 (st.1.getD c.1.toNat 0).toNat (st.1.getD (c.1.toNat + 1) 0).toNat (stepB c.2)) (st.1.getD (c.1.toNat + 1) 0).toNat (st.1.getD c.1.toNat 0).toNat (stepB c.2))
def twSt (n : Nat) (cs : List RCross) : List Int × List (List Int) := cs.foldl twStep (upN n, zeroT n)
def twL (n : Nat) (cs : List RCross) : List (List Int) := (twSt n cs).2
theorem twSt_fst (n : Nat) (cs : List RCross) : (twSt n cs).1 = orderF n cs := by
 have : ∀ (cs : List RCross) (o : List Int) (t : List (List Int)), (cs.foldl twStep (o, t)).1 = cs.foldl (fun o c => swapL o c.1.toNat) o := by
  intro cs
  induction cs with
  | nil => intro o t; rfl
  | cons c cs ih => intro o t; rw [List.foldl_cons, List.foldl_cons]; exact ih _ _
 exact this cs _ _
theorem twL_snoc (n : Nat) {cs : List RCross} {k : Nat} (h : k < cs.length) :
  twL n (cs.take (k + 1)) = addT (addT (twL n (cs.take k)) ((orderF n (cs.take k)).getD cs[k].1.toNat 0).toNat ((orderF n (cs.take k)).getD (cs[k].1.toNat + 1) 0).toNat (stepB cs[k].2)) ((orderF n (cs.take k)).getD (cs[k].1.toNat + 1) 0).toNat ((orderF n (cs.take k)).getD cs[k].1.toNat 0).toNat (stepB cs[k].2) := by
 unfold twL twSt
 rw [foldl_take_succ _ _ cs h]
 show (twStep (twSt n (cs.take k)) cs[k]).2 = _
 unfold twStep
 rw [twSt_fst]
 rfl
structure IsSt (n : Nat) (st : List Int × List (List Int)) : Prop where
 ord : IsOrd n st.1
 sq : Sq n st.2
 sym : ∀ i j, cellT st.2 i j = cellT st.2 j i
theorem IsSt.start (n : Nat) : IsSt n (upN n, zeroT n) := ⟨⟨.refl _⟩, zeroT_sq n, fun i j => by rw [zeroT_cell, zeroT_cell]⟩
theorem pair_of {n : Nat} {o : List Int} (h : IsOrd n o) {k : Nat} (hk : k + 1 < n) : ∃ x y : Nat, x < n ∧ y < n ∧ x ≠ y ∧ o.getD k 0 = (x : Int) ∧ o.getD (k + 1) 0 = (y : Int) ∧ (o.getD k 0).toNat = x ∧ (o.getD (k + 1) 0).toNat = y := by
 have hl := h.len
 have h1 : k < o.length := by omega
 have h2 : k + 1 < o.length := by omega
 have g1 : o.getD k 0 = o[k] := by rw [List.getD_eq_getElem?_getD, List.getElem?_eq_getElem h1]; rfl
 have g2 : o.getD (k + 1) 0 = o[k + 1] := by rw [List.getD_eq_getElem?_getD, List.getElem?_eq_getElem h2]; rfl
 have b1 := h.bd _ (List.getElem_mem h1)
 have b2 := h.bd _ (List.getElem_mem h2)
 have hne := h.ne h1 h2 (by omega)
 rw [g1, g2]
 exact ⟨o[k].toNat, o[k + 1].toNat, by omega, by omega, fun e => hne (by omega), by omega, by omega, rfl, rfl⟩
theorem twStep_of {_n : Nat} {o : List Int} {t : List (List Int)} {c : RCross} {x y : Nat} (hx : (o.getD c.1.toNat 0).toNat = x) (hy : (o.getD (c.1.toNat + 1) 0).toNat = y) : twStep (o, t) c = (swapL o c.1.toNat, addT (addT t x y (stepB c.2)) y x (stepB c.2)) := by
 unfold twStep; rw [hx, hy]
theorem add2_cell {n : Nat} {t : List (List Int)} (h : Sq n t) {x y : Nat} (hx : x < n) (hy : y < n) (hne : x ≠ y) (s : Int) (i j : Nat) : cellT (addT (addT t x y s) y x s) i j = if (i = x ∧ j = y) ∨ (i = y ∧ j = x) then cellT t i j + s else cellT t i j := by
 rw [addT_cell (addT_sq h hx y s) hy hx, addT_cell h hx hy, addT_cell h hx hy]
 by_cases h1 : i = y ∧ j = x
 ·obtain ⟨rfl, rfl⟩ := h1
  rw [if_pos ⟨rfl, rfl⟩, if_neg (fun e => hne e.2), if_pos (.inr ⟨rfl, rfl⟩)]
 ·rw [if_neg h1]
  by_cases h2 : i = x ∧ j = y
  ·obtain ⟨rfl, rfl⟩ := h2
   rw [if_pos ⟨rfl, rfl⟩, if_pos (.inl ⟨rfl, rfl⟩)]
  ·rw [if_neg h2, if_neg (fun e => e.elim h2 h1)]
theorem add2_sq {n : Nat} {t : List (List Int)} (h : Sq n t) {x y : Nat} (hx : x < n) (hy : y < n) (s : Int) : Sq n (addT (addT t x y s) y x s) := addT_sq (addT_sq h hx y s) hy x s
theorem add2_comm {n : Nat} {t : List (List Int)} (h : Sq n t) {x y : Nat} (hx : x < n) (hy : y < n) (hne : x ≠ y) (s : Int) : addT (addT t x y s) y x s = addT (addT t y x s) x y s := by
 refine sq_ext (add2_sq h hx hy s) (add2_sq h hy hx s) (fun i j _ _ => ?_)
 rw [add2_cell h hx hy hne, add2_cell h hy hx (fun e => hne e.symm)]
 by_cases h1 : (i = x ∧ j = y) ∨ (i = y ∧ j = x)
 ·rw [if_pos h1, if_pos h1.symm]
 ·rw [if_neg h1, if_neg (fun e => h1 e.symm)]
theorem IsSt.step {n : Nat} {st : List Int × List (List Int)} (h : IsSt n st) {c : RCross} (hc : 0 ≤ c.1 ∧ c.1 ≤ (n : Int) - 2) : IsSt n (twStep st c) := by
 obtain ⟨o, t⟩ := st
 have hk : c.1.toNat + 1 < n := by omega
 obtain ⟨x, y, hx, hy, hne, _, _, e1, e2⟩ := pair_of h.ord hk
 rw [twStep_of (_n := n) e1 e2]
 refine ⟨h.ord.swap hk, add2_sq h.sq hx hy _, fun i j => ?_⟩
 show cellT (addT (addT t x y _) y x _) i j = cellT (addT (addT t x y _) y x _) j i
 have hs : cellT t i j = cellT t j i := h.sym i j
 rw [add2_cell h.sq hx hy hne, add2_cell h.sq hx hy hne, hs]
 by_cases h1 : (i = x ∧ j = y) ∨ (i = y ∧ j = x)
 ·rw [if_pos h1, if_pos (h1.symm.imp (fun e => ⟨e.2, e.1⟩) (fun e => ⟨e.2, e.1⟩))]
 ·rw [if_neg h1, if_neg (fun e => h1 (e.symm.imp (fun e => ⟨e.2, e.1⟩) (fun e => ⟨e.2, e.1⟩)))]
theorem IsSt.fold {n : Nat} : ∀ (cs : List RCross) {st : List Int × List (List Int)}, IsSt n st → (∀ c ∈ cs, 0 ≤ c.1 ∧ c.1 ≤ (n : Int) - 2) → IsSt n (cs.foldl twStep st) := by
 intro cs
 induction cs with
 | nil => intro st h _; exact h
 | cons c cs ih => intro st h hc; rw [List.foldl_cons]; exact ih (h.step (hc c List.mem_cons_self)) (fun x hx => hc x (List.mem_cons_of_mem _ hx))
theorem IsSt.tw {n : Nat} {cs : List RCross} (h : ∀ c ∈ cs, 0 ≤ c.1 ∧ c.1 ≤ (n : Int) - 2) : IsSt n (twSt n cs) := IsSt.fold cs (IsSt.start n) h
theorem twL_sq {n : Nat} {cs : List RCross} (h : ∀ c ∈ cs, 0 ≤ c.1 ∧ c.1 ≤ (n : Int) - 2) : Sq n (twL n cs) := (IsSt.tw h).sq
theorem twL_bd {n : Nat} {cs : List RCross} (h : ∀ c ∈ cs, 0 ≤ c.1 ∧ c.1 ≤ (n : Int) - 2) (m : Nat) (hm : m ≤ cs.length) (i j : Nat) : -(m : Int) ≤ cellT (twL n (cs.take m)) i j ∧ cellT (twL n (cs.take m)) i j ≤ m := by
 induction m with
 | zero =>
  show -((0 : Nat) : Int) ≤ cellT (zeroT n) i j ∧ cellT (zeroT n) i j ≤ ((0 : Nat) : Int)
  rw [zeroT_cell]; omega
 | succ m ih =>
  have ih := ih (by omega)
  have hl : m < cs.length := by omega
  have ht : ∀ c ∈ cs.take m, 0 ≤ c.1 ∧ c.1 ≤ (n : Int) - 2 := fun c hc => h c (List.mem_of_mem_take hc)
  have hc := h _ (List.getElem_mem hl)
  obtain ⟨x, y, hx, hy, hne, _, _, e1, e2⟩ := pair_of (IsOrd.order ht) (k := cs[m].1.toNat) (by omega)
  rw [twL_snoc n hl, e1, e2, add2_cell (twL_sq ht) hx hy hne]
  have hs : stepB cs[m].2 = 1 ∨ stepB cs[m].2 = -1 := by unfold stepB; split; exact .inl rfl; exact .inr rfl
  split
  ·rcases hs with e | e <;> rw [e] <;> omega
  ·omega
/- the pairs that are wound -/
def woundB (ll : List (List Int)) (i k : Nat) : Bool := decide (i < k) && !decide (cellT ll i k = 0)
def woundR (ll : List (List Int)) (i m : Nat) : List (List Int) := ((List.range m).filter (fun k => woundB ll i k)).map (fun k : Nat => [(i : Int), (k : Int)])
def woundTo (ll : List (List Int)) (n : Nat) : Nat → List (List Int)
 | 0 => []
 | m + 1 => woundTo ll n m ++ woundR ll m n
def woundL (n : Nat) (cs : List RCross) : List (List Int) := woundTo (twL n cs) n n
theorem woundR_start (ll : List (List Int)) (i : Nat) : woundR ll i (i + 1) = [] := by
 unfold woundR
 rw [List.map_eq_nil_iff, List.filter_eq_nil_iff]
 intro k hk
 have := List.mem_range.1 hk
 simp [woundB]; omega
theorem woundR_t {ll : List (List Int)} {i k : Nat} (h : i < k) (hc : cellT ll i k ≠ 0) : woundR ll i (k + 1) = woundR ll i k ++ [[(i : Int), (k : Int)]] := by
 unfold woundR; rw [List.range_succ, List.filter_append, List.map_append]; simp [woundB, h, hc]
theorem woundR_f {ll : List (List Int)} {i k : Nat} (hc : cellT ll i k = 0) : woundR ll i (k + 1) = woundR ll i k := by
 unfold woundR; rw [List.range_succ, List.filter_append, List.map_append]; simp [woundB, hc]
theorem woundR_len (ll : List (List Int)) (i m : Nat) : (woundR ll i m).length ≤ m := by
 unfold woundR; rw [List.length_map]; exact Nat.le_trans (List.length_filter_le _ _) (by simp)
theorem woundTo_len (ll : List (List Int)) (n m : Nat) : (woundTo ll n m).length ≤ m * n := by
 induction m with
 | zero => simp [woundTo]
 | succ m ih => rw [woundTo, List.length_append, Nat.add_mul]; have := woundR_len ll m n; omega
theorem woundTo_mem {ll : List (List Int)} {n m : Nat} {r : List Int} (h : r ∈ woundTo ll n m) : ∃ i k : Nat, r = [(i : Int), (k : Int)] ∧ i < m ∧ i < k ∧ k < n ∧ cellT ll i k ≠ 0 := by
 induction m with
 | zero => simp [woundTo] at h
 | succ m ih =>
  rw [woundTo] at h
  rcases List.mem_append.1 h with h | h
  ·obtain ⟨i, k, e, h1, h2⟩ := ih h; exact ⟨i, k, e, by omega, h2⟩
  ·obtain ⟨k, hk, rfl⟩ := List.mem_map.1 h
   have := List.mem_filter.1 hk
   have h1 := List.mem_range.1 this.1
   have h2 := this.2
   simp [woundB] at h2
   exact ⟨m, k, rfl, by omega, h2.1, h1, h2.2⟩
/- a full turn -/
def downL (i : Nat) : Nat → List RCross
 | 0 => []
 | m + 1 => (((i + m + 1 : Nat) : Int), false) :: downL i m
def upL (i : Nat) : Nat → List RCross
 | 0 => []
 | m + 1 => upL i m ++ [(((i + m + 1 : Nat) : Int), true)]
def turnL (i k : Nat) (f : Bool) : List RCross := (downL i (k - 1 - i) ++ [((i : Int), f), ((i : Int), f)]) ++ upL i (k - 1 - i)
theorem downL_len (i m : Nat) : (downL i m).length = m := by
 induction m with
 | zero => rfl
 | succ m ih => rw [downL, List.length_cons, ih]
theorem upL_len (i m : Nat) : (upL i m).length = m := by
 induction m with
 | zero => rfl
 | succ m ih => rw [upL, List.length_append, ih]; rfl
theorem turnL_len (i k : Nat) (f : Bool) : (turnL i k f).length ≤ 2 * k + 2 := by
 unfold turnL
 rw [List.length_append, List.length_append, downL_len, upL_len]; simp; omega
def manyL (l : List RCross) : Nat → List RCross
 | 0 => []
 | m + 1 => manyL l m ++ l
theorem manyL_len (l : List RCross) (m : Nat) : (manyL l m).length = m * l.length := by
 induction m with
 | zero => simp [manyL]
 | succ m ih => rw [manyL, List.length_append, ih, Nat.add_mul]; omega
def pairI (r : List Int) : Nat := (r.getD 0 0).toNat
def pairK (r : List Int) : Nat := (r.getD 1 0).toNat
def timesT (t : Int) : Nat := t.natAbs / 2
def unwR (ll : List (List Int)) (r : List Int) : List RCross := manyL (turnL (pairI r) (pairK r) (decide (cellT ll (pairI r) (pairK r) < 0))) (timesT (cellT ll (pairI r) (pairK r)))
def unwTo (ll : List (List Int)) (ps : List (List Int)) : List RCross := ps.flatMap (unwR ll)
def unwindL (n : Nat) (cs : List RCross) : List RCross := unwTo (twL n cs) (woundL n cs)
theorem unwTo_snoc (ll ps : List (List Int)) {k : Nat} (h : k < ps.length) : unwTo ll (ps.take (k + 1)) = unwTo ll (ps.take k) ++ unwR ll ps[k] := by
 unfold unwTo; rw [take_snoc_l ps h, List.flatMap_append]; simp
def unwB (n : Int) (cs : List RCross) : Bool := crossesB n cs && decide (orderF n.toNat cs = upN n.toNat)
end Go.Proofs.YtlhdeojkpmpecaaGreat
