/- Several texts in one: Contracts: crossings, players and companies that are ones. Contracts: upTo, AllPuppets. Contracts: indexOf, PlaceOf, l35Before, Prefers, beats. Orders in plain words: neighbours exchanged, inversions, the exchanges that sort. No program in sight. -/
import Derived.Deep.QuietTactic
import Derived.BigQuiet
import Derived.IntWalk
import Derived.Test.YtomghkfkbpkbdaaBdC1x8
import Derived.Test.YtomghkfkbpkbdaaBdI7x11
import Derived.Test.YtomghkfkbpkbdaaBdA1x10
import Derived.Test.YtomghkfkbpkbdaaV1
namespace Go.Proofs.Ytomghkfkbpkbdaa
open Go.RowKit

theorem quiet_left {P : Program} {f : FuncId} {args : Array Value} {w : World} {n : Nat} {v : Value}
    (h : Calls P f args (w.drewN n) fun e w' => e = .returned v ∧ w.drewN n = w') : Calls P f args (w.drewN n) fun e w'' => e = .returned v ∧ ∃ m, w'' = w.drewN m :=
  h.mono fun _ _ ⟨he, hm⟩ => ⟨he, n, hm.symm⟩
def crossB (n : Int) (c : RCross) : Bool := inB c.1 0 (n - 2)
def crossesB (n : Int) (l : List RCross) : Bool := (inB n 1 7 && decide (l.length ≤ 40)) && l.all (crossB n)
theorem crosses_f1 {n : Int} {l : List RCross} (h : inB n 1 7 = false) : crossesB n l = false := by rw [crossesB, h]; rfl
theorem crosses_f2 {n : Int} {l : List RCross} (h : 40 < l.length) : crossesB n l = false := by rw [crossesB, show decide (l.length ≤ 40) = false by simp; omega, Bool.and_false]; rfl
theorem crosses_f3 {n : Int} {l : List RCross} (h : l.all (crossB n) = false) : crossesB n l = false := by rw [crossesB, h, Bool.and_false]
theorem crosses_t {n : Int} {l : List RCross} (h1 : inB n 1 7 = true) (h2 : ¬ 40 < l.length) (h3 : l.all (crossB n) = true) : crossesB n l = true := by
  rw [crossesB, h1, h3, show decide (l.length ≤ 40) = true by simp; omega]; rfl
theorem crosses_len {n : Int} {l : List RCross} (h : crossesB n l = true) : (1 ≤ n ∧ n ≤ 7) ∧ l.length ≤ 40 ∧ ∀ c ∈ l, 0 ≤ c.1 ∧ c.1 ≤ n - 2 := by
  rw [crossesB, Bool.and_eq_true, Bool.and_eq_true, inB_iff, decide_eq_true_iff] at h
  exact ⟨h.1.1, h.1.2, fun c hc => inB_iff.1 (List.all_eq_true.1 h.2 c hc)⟩
set_option maxHeartbeats 1000000 in
set_option maxRecDepth 100000 in
theorem implCrossesOk_any (n : Int) (v : Value) (l : List RCross) (w : World) (h : RdL cCross 2 w v l) :
    Calls Try.prog 41 #[.int .i64 n, v] w fun e w' => e = .returned (.bool (crossesB n l)) ∧ Below w.heap.size w w' := by
  obtain ⟨A, c, rfl, h1, h2⟩ := h.form
  by_cases hlen : 40 < l.length
  · go_enter Try.func41, Try.ntmps41
    go_wp2_with (go_at_call 33; refine two (within_any _ _ _ _) (fun hc => ?_) (fun hc => ?_))
    all_goals
      go_ret
      exact ⟨ret_bool (crosses_f2 hlen).symm, by (repeat' (first | exact Below.refl _ _ | (refine Below.setCell ?_ (by first | omega | (simp; omega) | (simp; done)) _) | (refine Below.alloc ?_ (by first | omega | (simp; omega) | (simp; done)) _) | (refine Below.drew ?_) | (refine below_drewN ?_ _) | (refine Below.trans ?_ (Below.mono (by assumption) (by first | omega | (simp; omega) | (simp; done))))))⟩
  · go_enter Try.func41, Try.ntmps41
    go_wp2_with (go_at_call 33; refine two (within_any _ _ _ _) (fun hc => ?_) (fun hc => ?_))
    · have hm := inB_iff.1 hc.out
      go_loopw [17] (fun i wr => ∃ k : Nat, k ≤ l.length ∧ i = .int .i64 k ∧ Hid ((l.take k).all (crossB n) = true) ∧ Below w.heap.size w wr) (fun i _ => l.length - (intOf i).toNat)
      case atStart => exact ⟨0, Nat.zero_le _, rfl, by rfl, Below.refl _ _⟩
      case round =>
        obtain ⟨k, hk, rfl, hall, hb⟩ := hrel
        have hz := hb.size
        by_cases hlt : k < l.length
        · obtain ⟨g, off, rfl, hg, hc'⟩ := (h.below hb).cell cCross_len (by omega) hlt
          have k0 := hc' 0 _ rfl
          have k1 := hc' 1 _ rfl
          simp only [Nat.add_zero] at k0 k1
          clear hc'
          go_wp2_with (go_at_call 33; refine two (within_any _ _ _ _) (fun hq => ?_) (fun hq => ?_))
          · go_roundw
            case rel => exact ⟨k + 1, by omega, by go_num, all_take_succ hlt hall.out hq.out, by (repeat' (first | exact Below.refl _ _ | (refine Below.setCell ?_ (by first | omega | (simp; omega) | (simp; done)) _) | (refine Below.alloc ?_ (by first | omega | (simp; omega) | (simp; done)) _) | (refine Below.drew ?_) | (refine below_drewN ?_ _) | (refine Below.trans ?_ (Below.mono (by assumption) (by first | omega | (simp; omega) | (simp; done))))))⟩
            case measure => simp [intOf]; omega
          · go_ret
            exact ⟨ret_bool (crosses_f3 (all_false_at hlt hq.out)).symm, by (repeat' (first | exact Below.refl _ _ | (refine Below.setCell ?_ (by first | omega | (simp; omega) | (simp; done)) _) | (refine Below.alloc ?_ (by first | omega | (simp; omega) | (simp; done)) _) | (refine Below.drew ?_) | (refine below_drewN ?_ _) | (refine Below.trans ?_ (Below.mono (by assumption) (by first | omega | (simp; omega) | (simp; done))))))⟩
        · go_wp2_with fail
          go_ret
          exact ⟨ret_bool (crosses_t hc.out hlen (all_take_end hlt hall.out)).symm, hb⟩
    · go_ret
      exact ⟨ret_bool (crosses_f1 hc.out).symm, by (repeat' (first | exact Below.refl _ _ | (refine Below.setCell ?_ (by first | omega | (simp; omega) | (simp; done)) _) | (refine Below.alloc ?_ (by first | omega | (simp; omega) | (simp; done)) _) | (refine Below.drew ?_) | (refine below_drewN ?_ _) | (refine Below.trans ?_ (Below.mono (by assumption) (by first | omega | (simp; omega) | (simp; done))))))⟩
set_option maxHeartbeats 1000000 in
set_option maxRecDepth 100000 in
theorem specCrossesOk_any (n : Int) (v : Value) (l : List RCross) (w : World) (h : RdL cCross 2 w v l) :
    Calls Try.prog 47 #[.int .i64 n, v] w fun e w' => e = .returned (.bool (crossesB n l)) ∧ Below w.heap.size w w' := by
  obtain ⟨A, c, rfl, h1, h2⟩ := h.form
  by_cases hlen : 40 < l.length
  · go_enter Try.func47, Try.ntmps47
    go_wp2_with (go_at_call 70; refine two (l01In_any _ _ _ _) (fun hc => ?_) (fun hc => ?_))
    all_goals
      go_ret
      exact ⟨ret_bool (crosses_f2 hlen).symm, by (repeat' (first | exact Below.refl _ _ | (refine Below.setCell ?_ (by first | omega | (simp; omega) | (simp; done)) _) | (refine Below.alloc ?_ (by first | omega | (simp; omega) | (simp; done)) _) | (refine Below.drew ?_) | (refine below_drewN ?_ _) | (refine Below.trans ?_ (Below.mono (by assumption) (by first | omega | (simp; omega) | (simp; done))))))⟩
  · go_enter Try.func47, Try.ntmps47
    go_wp2_with (go_at_call 70; refine two (l01In_any _ _ _ _) (fun hc => ?_) (fun hc => ?_))
    · have hm := inB_iff.1 hc.out
      go_loop [5] (fun i => ∃ k : Nat, k ≤ l.length ∧ i = .int .i64 k ∧ Hid ((l.take k).all (crossB n) = true)) (fun i => l.length - (intOf i).toNat)
      case atStart => exact ⟨0, Nat.zero_le _, rfl, by rfl⟩
      case round =>
        obtain ⟨k, hk, rfl, hall⟩ := hrel
        by_cases hlt : k < l.length
        · obtain ⟨g, off, rfl, hg, hc'⟩ := h.cell cCross_len (by omega) hlt
          have k0 := hc' 0 _ rfl
          simp only [Nat.add_zero] at k0
          clear hc'
          go_wp2_with (go_at_call 70; refine two (l01In_any _ _ _ _) (fun hq => ?_) (fun hq => ?_))
          · go_round
            case rel => exact ⟨k + 1, by omega, by go_num, all_take_succ hlt hall.out hq.out⟩
            case measure => simp [intOf]; omega
          · go_ret
            exact ⟨ret_bool (crosses_f3 (all_false_at hlt hq.out)).symm, by (repeat' (first | exact Below.refl _ _ | (refine Below.setCell ?_ (by first | omega | (simp; omega) | (simp; done)) _) | (refine Below.alloc ?_ (by first | omega | (simp; omega) | (simp; done)) _) | (refine Below.drew ?_) | (refine below_drewN ?_ _) | (refine Below.trans ?_ (Below.mono (by assumption) (by first | omega | (simp; omega) | (simp; done))))))⟩
        · go_wp2_with fail
          go_ret
          exact ⟨ret_bool (crosses_t hc.out hlen (all_take_end hlt hall.out)).symm, by (repeat' (first | exact Below.refl _ _ | (refine Below.setCell ?_ (by first | omega | (simp; omega) | (simp; done)) _) | (refine Below.alloc ?_ (by first | omega | (simp; omega) | (simp; done)) _) | (refine Below.drew ?_) | (refine below_drewN ?_ _) | (refine Below.trans ?_ (Below.mono (by assumption) (by first | omega | (simp; omega) | (simp; done))))))⟩
    · go_ret
      exact ⟨ret_bool (crosses_f1 hc.out).symm, by (repeat' (first | exact Below.refl _ _ | (refine Below.setCell ?_ (by first | omega | (simp; omega) | (simp; done)) _) | (refine Below.alloc ?_ (by first | omega | (simp; omega) | (simp; done)) _) | (refine Below.drew ?_) | (refine below_drewN ?_ _) | (refine Below.trans ?_ (Below.mono (by assumption) (by first | omega | (simp; omega) | (simp; done))))))⟩
/- players -/
def playerB (p : RPl) : Bool := strictB p.1 0 6 && inB p.2 0 2
def playersB (l : List RPl) : Bool := l.all playerB && inB l.length 1 6
theorem playerB_t {p : RPl} (h1 : strictB p.1 0 6 = true) (h2 : inB p.2 0 2 = true) : playerB p = true := by rw [playerB, h1, h2]; rfl
theorem playerB_f1 {p : RPl} (h : strictB p.1 0 6 = false) : playerB p = false := by rw [playerB, h]; rfl
theorem playerB_f2 {p : RPl} (h : inB p.2 0 2 = false) : playerB p = false := by rw [playerB, h, Bool.and_false]
theorem players_f {l : List RPl} (h : l.all playerB = false) : playersB l = false := by rw [playersB, h]; rfl
theorem players_t {l : List RPl} (h : l.all playerB = true) : playersB l = inB l.length 1 6 := by rw [playersB, h]; rfl
set_option maxHeartbeats 1000000 in
set_option maxRecDepth 100000 in
theorem implPlayersOk_any (v : Value) (l : List RPl) (w : World) (h : RdPls w v l) :
    Calls Try.prog 42 #[v] w fun e w' => e = .returned (.bool (playersB l)) ∧ Below w.heap.size w w' := by
  obtain ⟨A, c, rfl, h1, h2⟩ := h.form
  go_enter Try.func42, Try.ntmps42
  go_wp2_with fail
  go_loopw [7] (fun i wr => ∃ k : Nat, k ≤ l.length ∧ i = .int .i64 k ∧ Hid ((l.take k).all playerB = true) ∧ Below w.heap.size w wr) (fun i _ => l.length - (intOf i).toNat)
  case atStart => exact ⟨0, Nat.zero_le _, rfl, by rfl, Below.refl _ _⟩
  case round =>
    obtain ⟨k, hk, rfl, hall, hb⟩ := hrel
    have hz := hb.size
    by_cases hlt : k < l.length
    · obtain ⟨g, off, u, rfl, hg, k0, k1, hru⟩ := (h.below hb).cell hlt
      obtain ⟨A1, c1, rfl, _, _⟩ := hru.form
      go_wp2_with fail
      refine twoB (isStrict_any _ l[k].1 0 6 _ (hru.below (by (repeat' (first | exact Below.refl _ _ | (refine Below.setCell ?_ (by first | omega | (simp; omega) | (simp; done)) _) | (refine Below.alloc ?_ (by first | omega | (simp; omega) | (simp; done)) _) | (refine Below.drew ?_) | (refine below_drewN ?_ _) | (refine Below.trans ?_ (Below.mono (by assumption) (by first | omega | (simp; omega) | (simp; done))))))))) (fun w' hs hb' => ?_) (fun w' hs hb' => ?_)
      · have j1 := carry (b := wr.heap.size) (o := 1) (v := .int .i64 l[k].2) hb' (by simp [go_sem])
        have hz' := hb'.size
        simp at hz'
        go_wp2_with fail
        refine two (within_any _ _ _ _) (fun hq => ?_) (fun hq => ?_)
        · go_wp2_with fail
          go_roundw
          case rel => exact ⟨k + 1, by omega, by go_num, all_take_succ hlt hall.out (playerB_t hs.out hq.out), bl_trans hb (bl_alloc hb')⟩
          case measure => simp [intOf]; omega
        · go_wp2_with fail
          go_ret
          exact ⟨ret_bool (players_f (all_false_at hlt (playerB_f2 hq.out))).symm, bl_trans hb (bl_alloc hb')⟩
      · go_wp2_with fail
        go_ret
        exact ⟨ret_bool (players_f (all_false_at hlt (playerB_f1 hs.out))).symm, bl_trans hb (bl_alloc hb')⟩
    · have hall' := players_t (all_take_end hlt hall.out)
      have Hall := Lib.hid hall'
      clear hall'
      go_wp2_with (go_at_call 33; refine (within_any _ _ _ _).mono ?_; rintro e w' ⟨rfl, rfl⟩)
      go_ret
      exact ⟨ret_bool Hall.out.symm, hb⟩
theorem rise_get {l : List Int} {k : Nat} (h : k < l.length) : l.getD k 0 = l[k] := by rw [List.getD_eq_getElem?_getD, List.getElem?_eq_getElem h]; rfl
def riseAt (l : List Int) (m : Int) (k : Nat) : Bool := inB (l.getD k 0) 0 m && ascAt l k
theorem rise_t {l : List Int} {m : Int} (h : (List.range l.length).all (riseAt l m) = true) : strictB l 0 m = true := by
  rw [List.all_eq_true] at h
  rw [strictB, Bool.and_eq_true]
  refine ⟨List.all_eq_true.2 (fun i hi => ?_), List.all_eq_true.2 (fun x hx => ?_)⟩
  · have := h i hi
    rw [riseAt, Bool.and_eq_true] at this
    exact this.2
  · obtain ⟨i, hi, rfl⟩ := List.getElem_of_mem hx
    have := h i (by simpa using hi)
    rw [riseAt, Bool.and_eq_true, rise_get hi] at this
    exact this.1
theorem rise_f {l : List Int} {m : Int} {k : Nat} (hk : k < l.length) (h : riseAt l m k = false) : strictB l 0 m = false := by
  rw [riseAt, Bool.and_eq_false_iff] at h
  rw [strictB, Bool.and_eq_false_iff]
  rcases h with h | h
  · rw [rise_get hk] at h
    exact .inr (List.all_eq_false.2 ⟨l[k], List.getElem_mem hk, by simp [h]⟩)
  · exact .inl (asc_false hk h)
theorem rise_succ {l : List Int} {m : Int} {k : Nat} (hk : k < l.length) (h1 : (List.range k).all (riseAt l m) = true) (hi : inB l[k] 0 m = true) (ha : ascAt l k = true) : (List.range (k + 1)).all (riseAt l m) = true := by
  rw [List.range_succ, List.all_append, h1]
  simp only [List.all_cons, List.all_nil, Bool.and_true, Bool.true_and]
  rw [riseAt, rise_get hk, hi, ha]; rfl
set_option maxHeartbeats 2000000 in
set_option maxRecDepth 100000 in
theorem l11Rising_q (v : Value) (l : List Int) (m : Int) (w : World) (h : RdL cInt 1 w v l) :
    Calls Try.prog 44 #[v, .int .i64 m] w fun e w' => e = .returned (.bool (strictB l 0 m)) ∧ ∃ d, w' = w.drewN d := by
  have h' := h
  obtain ⟨A, c, rfl, h1, h2⟩ := h.form
  go_enter Try.func44, Try.ntmps44
  go_wp2_with fail
  go_loopw [5] (fun i wr => ∃ k : Nat, k ≤ l.length ∧ i = .int .i64 k ∧ Hid ((List.range k).all (riseAt l m) = true) ∧ Hid (∃ d, wr = w.drewN d)) (fun i _ => l.length - (intOf i).toNat)
  case atStart => exact ⟨0, Nat.zero_le _, rfl, by rfl, ⟨0, rfl⟩⟩
  case round =>
    obtain ⟨k, hk, rfl, hall, hd⟩ := hrel
    by_cases hlt : k < l.length
    · have hb : Below w.heap.size w wr := by obtain ⟨d, e⟩ := hd.out; rw [e]; exact below_drewN (Below.refl _ _) d
      have hdn : ∀ n, ∃ d, wr.drewN n = w.drewN d := fun n => by obtain ⟨d, e⟩ := hd.out; exact ⟨d + n, by rw [e]; simp⟩
      obtain ⟨g, off, rfl, hg, hc⟩ := (h'.below hb).cell cInt_len (by omega) hlt
      have k0 := hc 0 _ rfl
      simp only [Nat.add_zero, Nat.mul_one] at k0
      clear hc
      have hcon := fun W => l01In_any l[k] 0 m W
      have hgk := rise_get hlt
      cases hi : inB l[k] 0 m <;> rw [hi] at hcon <;> have Hi := Lib.hid hi <;> have Hcon := Lib.hid hcon <;> have Hgk := Lib.hid hgk <;> have Hdn := Lib.hid hdn <;> clear hi hcon hgk hdn
      · go_wp2_with fail
        go_quiet ((go_at_call 70; exact quiet_left (Hcon.out _)))
        rename_i nq
        go_wp2_with fail
        go_ret
        exact ⟨ret_bool (rise_f hlt (by rw [riseAt, Hgk.out, Hi.out]; rfl)).symm, Hdn.out _⟩
      · by_cases hk0 : 0 < k
        · obtain ⟨g', off', hA, hg', hc'⟩ := (h'.below hb).cell (k := k - 1) cInt_len (by omega) (by omega)
          injection hA with hA
          injection hA with e1 e2
          subst e1 e2
          have k1 := hc' 0 _ rfl
          simp only [Nat.add_zero, Nat.mul_one] at k1
          clear hc'
          have hat := ascAt_get hlt hk0
          have Hat := Lib.hid hat
          clear hat
          have hw1 : IntKind.i64.wrap ((k : Int) - 1) = (k : Int) - 1 := IntWalk.i64_in _ (by omega)
          have hw2 : (0 : Int) ≤ (k : Int) - 1 := by omega
          have hw2' : (1 : Int) ≤ (k : Int) := by omega
          have hw4 : (k : Int) - 1 < (l.length : Int) := by omega
          have hw3 : ((k : Int) - 1).toNat = k - 1 := by omega
          by_cases hle : l[k] ≤ l[k - 1]
          · go_wp2_with fail
            go_quiet ((go_at_call 70; exact quiet_left (Hcon.out _)))
            rename_i nq
            go_wp2_with fail
            go_ret
            exact ⟨ret_bool (rise_f hlt (by rw [riseAt, Hgk.out, Hi.out, Hat.out]; simp; omega)).symm, Hdn.out _⟩
          · go_wp2_with fail
            go_quiet ((go_at_call 70; exact quiet_left (Hcon.out _)))
            rename_i nq
            go_wp2_with fail
            go_roundw
            case rel => exact ⟨k + 1, by omega, by go_num, rise_succ hlt hall.out Hi.out (by rw [Hat.out]; exact decide_eq_true (by omega)), Hdn.out _⟩
            case measure => simp [intOf]; omega
        · obtain rfl : k = 0 := by omega
          simp only [Nat.add_zero] at k0
          go_wp2_with fail
          go_quiet ((go_at_call 70; exact quiet_left (Hcon.out _)))
          rename_i nq
          go_wp2_with fail
          go_roundw
          case rel => exact ⟨1, by omega, by rfl, rise_succ (k := 0) hlt hall.out Hi.out (by rfl), Hdn.out _⟩
          case measure => simp [intOf]; omega
    · obtain rfl : k = l.length := by omega
      go_wp2_with fail
      go_ret
      exact ⟨ret_bool (rise_t hall.out).symm, hd.out⟩
set_option maxHeartbeats 1000000 in
set_option maxRecDepth 100000 in
theorem specPlayersOk_any (v : Value) (l : List RPl) (w : World) (h : RdPls w v l) :
    Calls Try.prog 43 #[v] w fun e w' => e = .returned (.bool (playersB l)) ∧ Below w.heap.size w w' := by
  obtain ⟨A, c, rfl, h1, h2⟩ := h.form
  go_enter Try.func43, Try.ntmps43
  go_wp2_with fail
  go_loopw [3] (fun i wr => ∃ k : Nat, k ≤ l.length ∧ i = .int .i64 k ∧ Hid ((l.take k).all playerB = true) ∧ Below w.heap.size w wr) (fun i _ => l.length - (intOf i).toNat)
  case atStart => exact ⟨0, Nat.zero_le _, rfl, by rfl, Below.refl _ _⟩
  case round =>
    obtain ⟨k, hk, rfl, hall, hb⟩ := hrel
    have hz := hb.size
    by_cases hlt : k < l.length
    · obtain ⟨g, off, u, rfl, hg, k0, k1, hru⟩ := (h.below hb).cell hlt
      obtain ⟨A1, c1, rfl, _, _⟩ := hru.form
      have hcon := l11Rising_q _ l[k].1 6 _ hru
      cases hs : strictB l[k].1 0 6 <;> rw [hs] at hcon <;> have Hs := Lib.hid hs <;> have Hcon := Lib.hid hcon <;> clear hs hcon
      · go_wp2_with (go_at_call 44; refine Hcon.out.mono ?_; rintro e w' ⟨rfl, d, rfl⟩)
        go_ret
        exact ⟨ret_bool (players_f (all_false_at hlt (playerB_f1 Hs.out))).symm, below_drewN hb _⟩
      · go_wp2_with (go_at_call 44; refine Hcon.out.mono ?_; rintro e w' ⟨rfl, d, rfl⟩)
        refine two (l01In_any _ _ _ _) (fun hq => ?_) (fun hq => ?_)
        · go_wp2_with fail
          go_roundw
          case rel => exact ⟨k + 1, by omega, by go_num, all_take_succ hlt hall.out (playerB_t Hs.out hq.out), below_drewN hb _⟩
          case measure => simp [intOf]; omega
        · go_wp2_with fail
          go_ret
          exact ⟨ret_bool (players_f (all_false_at hlt (playerB_f2 hq.out))).symm, below_drewN hb _⟩
    · have hall' := players_t (all_take_end hlt hall.out)
      have Hall := Lib.hid hall'
      clear hall'
      go_wp2_with (go_at_call 70; refine (l01In_any _ _ _ _).mono ?_; rintro e w' ⟨rfl, rfl⟩)
      go_ret
      exact ⟨ret_bool Hall.out.symm, hb⟩
def companyB (n : Int) (cs : List RCross) (ps : List RPl) : Bool := crossesB n cs && playersB ps
theorem implCompanyOk_any (n : Int) (v1 v2 : Value) (cs : List RCross) (ps : List RPl) (w : World) (h : RdCompany w v1 v2 cs ps) :
    Calls Try.prog 18 #[.agg #[.int .i64 n, v1, v2]] w fun e w' => e = .returned (.bool (companyB n cs ps)) ∧ Below w.heap.size w w' := by
  obtain ⟨⟨A1, c1, rfl⟩, ⟨A2, c2, rfl⟩⟩ := h.forms
  obtain ⟨h1, h2⟩ := h
  go_enter Try.func18, Try.ntmps18
  go_wp2_with fail
  refine twoB (implCrossesOk_any n _ cs _ (h1.below (by (repeat' (first | exact Below.refl _ _ | (refine Below.setCell ?_ (by first | omega | (simp; omega) | (simp; done)) _) | (refine Below.alloc ?_ (by first | omega | (simp; omega) | (simp; done)) _) | (refine Below.drew ?_) | (refine below_drewN ?_ _) | (refine Below.trans ?_ (Below.mono (by assumption) (by first | omega | (simp; omega) | (simp; done))))))))) (fun w' hq hb => ?_) (fun w' hq hb => ?_)
  · have k2 := carry (b := w.heap.size) (o := 2) (v := .slice A2 ps.length c2) hb (by simp [go_sem])
    have hb' := bl_alloc hb
    go_wp2_with (go_at_call 42; refine (implPlayersOk_any _ ps _ (h2.below hb')).mono ?_; rintro e w2 ⟨rfl, hb2⟩)
    go_ret
    exact ⟨ret_bool (by rw [companyB, hq.out]; rfl), bl_trans hb' hb2⟩
  · go_wp2_with fail
    go_ret
    exact ⟨ret_bool (by rw [companyB, hq.out]; rfl), bl_alloc hb⟩
theorem specCompanyOk_any (n : Int) (v1 v2 : Value) (cs : List RCross) (ps : List RPl) (w : World) (h : RdCompany w v1 v2 cs ps) :
    Calls Try.prog 95 #[.agg #[.int .i64 n, v1, v2]] w fun e w' => e = .returned (.bool (companyB n cs ps)) ∧ Below w.heap.size w w' := by
  obtain ⟨⟨A1, c1, rfl⟩, ⟨A2, c2, rfl⟩⟩ := h.forms
  obtain ⟨h1, h2⟩ := h
  go_enter Try.func95, Try.ntmps95
  go_wp2_with fail
  refine twoB (specCrossesOk_any n _ cs _ (h1.below (by (repeat' (first | exact Below.refl _ _ | (refine Below.setCell ?_ (by first | omega | (simp; omega) | (simp; done)) _) | (refine Below.alloc ?_ (by first | omega | (simp; omega) | (simp; done)) _) | (refine Below.drew ?_) | (refine below_drewN ?_ _) | (refine Below.trans ?_ (Below.mono (by assumption) (by first | omega | (simp; omega) | (simp; done))))))))) (fun w' hq hb => ?_) (fun w' hq hb => ?_)
  · have k2 := carry (b := w.heap.size) (o := 2) (v := .slice A2 ps.length c2) hb (by simp [go_sem])
    have hb' := bl_alloc hb
    go_wp2_with (go_at_call 43; refine (specPlayersOk_any _ ps _ (h2.below hb')).mono ?_; rintro e w2 ⟨rfl, hb2⟩)
    go_ret
    exact ⟨ret_bool (by rw [companyB, hq.out]; rfl), bl_trans hb' hb2⟩
  · go_wp2_with fail
    go_ret
    exact ⟨ret_bool (by rw [companyB, hq.out]; rfl), bl_alloc hb⟩
end Go.Proofs.Ytomghkfkbpkbdaa

namespace Go.Proofs.Ytomghkfkbpkbdaa
open Go.RowKit

def upN (n : Nat) : List Int := (List.range n).map (fun i : Nat => (i : Int))
theorem upN_succ (n : Nat) : upN (n + 1) = upN n ++ [(n : Int)] := by unfold upN; rw [List.range_succ, List.map_append]; rfl
theorem upN_len (n : Nat) : (upN n).length = n := by simp [upN]
def upF (n : Int) : List Int := upN n.toNat
set_option maxHeartbeats 1000000 in
set_option maxRecDepth 100000 in
theorem upTo_any (n : Nat) (w : World) (hn : n ≤ 100000) :
    Calls Try.prog 40 #[.int .i64 n] w fun e w' => ∃ v', e = .returned v' ∧ w'.ownsRow w.heap.size 3 1 v' (upN n).length ((upN n).flatMap cInt) ∧ Below w.heap.size w w' := by
  obtain ⟨i0, hi0, hz0, hz1, hz2⟩ := info_parts infoInt
  go_enter Try.func40, Try.ntmps40
  go_wp2_with fail
  go_loopw [3, 7] (fun q i wr => ∃ k : Nat, k ≤ n ∧ i = .int .i64 k ∧ wr.ownsRow w.heap.size 3 1 q k ((upN k).flatMap cInt) ∧ Below w.heap.size w wr) (fun _ i _ => n - (intOf i).toNat)
  case atStart => exact ⟨0, Nat.zero_le _, rfl, World.ownsRow_made (size := 1) (e := 3) w #[] 0 (Nat.le_refl _) (by simp [maxLen]) rfl, by (repeat' (first | exact Below.refl _ _ | (refine Below.setCell ?_ (by first | omega | (simp; omega) | (simp; done)) _) | (refine Below.alloc ?_ (by first | omega | (simp; omega) | (simp; done)) _) | (refine Below.drew ?_) | (refine below_drewN ?_ _) | (refine Below.trans ?_ (Below.mono (by assumption) (by first | omega | (simp; omega) | (simp; done))))))⟩
  case round =>
    obtain ⟨k, hk, rfl, hown, hb⟩ := hrel
    have hz := hb.size
    have Hs := Lib.hid (upN_succ k)
    by_cases hlt : k < n
    · go_wp2_with (at_builtin; refine wpList_appendR _ rfl (.tmp 10) (.tmp 12) _ rfl w.heap.size 3 i0 _ 1 8 Try.underlying28 hi0 hz0 hz1 hz2 rfl (by omega) _ k ((upN k).flatMap cInt) rfl (hown.alloc _) _ 1 [.int .i64 k] rfl (rdS_new wr #[.int .i64 k] _ 1 1 rfl (by simp [maxLen])) (by simp [Value.oneCell']) (by simp [maxLen]; omega) (by omega) (by simp; omega) ?_; intro v2 w2 hown2 hgr2)
      have hb2 : Below w.heap.size (wr.alloc (Obj.cells #[.int .i64 k] 3)) w2 := below_own (hown.alloc _) hgr2 (by simp; omega)
      clear hgr2
      go_wp2_with fail
      go_roundw
      case rel => exact ⟨k + 1, by omega, by go_num, by rw [Hs.out, List.flatMap_append]; exact hown2, (hb.alloc (by omega) _).trans hb2⟩
      case measure => simp [intOf]; omega
    · obtain rfl : k = n := by omega
      go_wp2_with fail
      go_ret
      rw [upN_len]
      exact ⟨_, rfl, hown, hb⟩
set_option maxHeartbeats 1000000 in
set_option maxRecDepth 100000 in
theorem l08Start_any (n : Nat) (w : World) (hn : n ≤ 100000) :
    Calls Try.prog 48 #[.int .i64 n] w fun e w' => ∃ v', e = .returned v' ∧ w'.ownsRow w.heap.size 3 1 v' (upN n).length ((upN n).flatMap cInt) ∧ Below w.heap.size w w' := by
  obtain ⟨i0, hi0, hz0, hz1, hz2⟩ := info_parts infoInt
  go_enter Try.func48, Try.ntmps48
  go_wp2_with fail
  go_loopw [3, 4] (fun q i wr => ∃ k : Nat, k ≤ n ∧ i = .int .i64 k ∧ wr.ownsRow w.heap.size 3 1 q k ((upN k).flatMap cInt) ∧ Below w.heap.size w wr) (fun _ i _ => n - (intOf i).toNat)
  case atStart => exact ⟨0, Nat.zero_le _, rfl, World.ownsRow_made (size := 1) (e := 3) w #[] 0 (Nat.le_refl _) (by simp [maxLen]) rfl, by (repeat' (first | exact Below.refl _ _ | (refine Below.setCell ?_ (by first | omega | (simp; omega) | (simp; done)) _) | (refine Below.alloc ?_ (by first | omega | (simp; omega) | (simp; done)) _) | (refine Below.drew ?_) | (refine below_drewN ?_ _) | (refine Below.trans ?_ (Below.mono (by assumption) (by first | omega | (simp; omega) | (simp; done))))))⟩
  case round =>
    obtain ⟨k, hk, rfl, hown, hb⟩ := hrel
    have hz := hb.size
    have Hs := Lib.hid (upN_succ k)
    by_cases hlt : k < n
    · go_wp2_with (at_builtin; refine wpList_appendR _ rfl (.tmp 11) (.tmp 13) _ rfl w.heap.size 3 i0 _ 1 8 Try.underlying28 hi0 hz0 hz1 hz2 rfl (by omega) _ k ((upN k).flatMap cInt) rfl (hown.alloc _) _ 1 [.int .i64 k] rfl (rdS_new wr #[.int .i64 k] _ 1 1 rfl (by simp [maxLen])) (by simp [Value.oneCell']) (by simp [maxLen]; omega) (by omega) (by simp; omega) ?_; intro v2 w2 hown2 hgr2)
      have hb2 : Below w.heap.size (wr.alloc (Obj.cells #[.int .i64 k] 3)) w2 := below_own (hown.alloc _) hgr2 (by simp; omega)
      clear hgr2
      go_wp2_with fail
      go_roundw
      case rel => exact ⟨k + 1, by omega, by go_num, by rw [Hs.out, List.flatMap_append]; exact hown2, (hb.alloc (by omega) _).trans hb2⟩
      case measure => simp [intOf]; omega
    · obtain rfl : k = n := by omega
      go_wp2_with fail
      go_ret
      rw [upN_len]
      exact ⟨_, rfl, hown, hb⟩
def allPF (n : Int) (cs : List RCross) (ps : List RPl) : List Int := if companyB n cs ps = true then upF n else []
theorem company_n {n : Int} {cs : List RCross} {ps : List RPl} (h : companyB n cs ps = true) : crossesB n cs = true ∧ playersB ps = true := by rwa [companyB, Bool.and_eq_true] at h
theorem allPF_len (n : Int) (cs : List RCross) (ps : List RPl) : (allPF n cs ps).length ≤ 7 := by
  unfold allPF
  split
  · rename_i h
    have := (crosses_len (company_n h).1).1
    rw [upF, upN_len]; omega
  · simp
theorem allPF_t {n : Int} {cs : List RCross} {ps : List RPl} (h : companyB n cs ps = true) : allPF n cs ps = upF n := if_pos h
theorem allPF_f {n : Int} {cs : List RCross} {ps : List RPl} (h : companyB n cs ps = false) : allPF n cs ps = [] := if_neg (by rw [h]; simp)
set_option maxHeartbeats 1000000 in
theorem implAllPuppets_any (n : Int) (v1 v2 : Value) (cs : List RCross) (ps : List RPl) (w : World) (h : RdCompany w v1 v2 cs ps) :
    Calls Try.prog 17 #[.agg #[.int .i64 n, v1, v2]] w fun e w' => ∃ v', e = .returned v' ∧ w'.ownsRow w.heap.size 3 1 v' (allPF n cs ps).length ((allPF n cs ps).flatMap cInt) ∧ Below w.heap.size w w' := by
  obtain ⟨⟨A1, c1, rfl⟩, ⟨A2, c2, rfl⟩⟩ := h.forms
  go_enter Try.func17, Try.ntmps17
  go_wp2_with fail
  refine twoB (implCompanyOk_any n _ _ cs ps _ (h.below (by (repeat' (first | exact Below.refl _ _ | (refine Below.setCell ?_ (by first | omega | (simp; omega) | (simp; done)) _) | (refine Below.alloc ?_ (by first | omega | (simp; omega) | (simp; done)) _) | (refine Below.drew ?_) | (refine below_drewN ?_ _) | (refine Below.trans ?_ (Below.mono (by assumption) (by first | omega | (simp; omega) | (simp; done))))))))) (fun w' hq hb => ?_) (fun w' hq hb => ?_)
  · have k0 := carry (b := w.heap.size) (o := 0) (v := .int .i64 n) hb (by simp [go_sem])
    have hn := (crosses_len (company_n hq.out).1).1
    have hb' := bl_alloc hb
    obtain ⟨m, rfl⟩ := Int.eq_ofNat_of_zero_le (show 0 ≤ n by omega)
    go_wp2_with (go_at_call 40; refine (upTo_any m _ (by omega)).mono ?_; rintro e w2 ⟨v2, rfl, hown, hb2⟩)
    go_ret
    rw [allPF_t hq.out]
    exact ⟨_, rfl, own_mono hown hb'.size, bl_trans hb' hb2⟩
  · go_wp2_with fail
    go_ret
    rw [allPF_f hq.out]
    exact ⟨_, rfl, World.ownsRow_nil _ _ _ _, bl_alloc hb⟩
end Go.Proofs.Ytomghkfkbpkbdaa

namespace Go.Proofs.Ytomghkfkbpkbdaa
open Go.RowKit

theorem vote_of {l : List Int} {n : Nat} (h : orderB l = true) (hl : l.length = n) : Vote n l := by
  obtain ⟨h1, h2, h3⟩ := (orderB_iff l).1 h
  exact ⟨hl, h2, fun x hx => by have := h3 x hx; omega⟩
theorem votes_vote {vv : List (List Int)} (h : votesB vv = true) : (1 ≤ vv.length ∧ vv.length ≤ 15) ∧ (1 ≤ (vv.getD 0 []).length ∧ (vv.getD 0 []).length ≤ 7) ∧ ∀ v ∈ vv, orderB v = true ∧ Vote (vv.getD 0 []).length v := by
  rw [votesB, Bool.and_eq_true, inB_iff] at h
  have hall : ∀ v ∈ vv, orderB v = true ∧ v.length = (vv.getD 0 []).length := by
    intro v hv
    have := List.all_eq_true.1 h.1 v hv
    rw [voteB, Bool.and_eq_true] at this
    exact ⟨this.1, by simpa using this.2⟩
  have h0 : 0 < vv.length := by omega
  have hm : vv[0] ∈ vv := List.getElem_mem h0
  have hl := row0_len h0
  refine ⟨by omega, ?_, fun v hv => ⟨(hall v hv).1, vote_of (hall v hv).1 (hall v hv).2⟩⟩
  have := ((orderB_iff vv[0]).1 (hall _ hm).1).1
  omega

theorem indexOf_any (v : Value) (l : List Int) (n : Int) (w : World) (h : RdL cInt 1 w v l) :
    Calls Try.prog 60 #[v, .int .i64 n] w fun e w' => e = .returned (.int .i64 (idxF l n)) ∧ w = w' := by
  obtain ⟨A, c, rfl, h1, h2⟩ := h.form
  go_enter Try.func60, Try.ntmps60
  go_wp2_with fail
  go_loop [9] (fun i => ∃ k : Nat, k ≤ l.length ∧ i = .int .i64 k ∧ Hid ((l.take k).all (neB n) = true)) (fun i => l.length - (intOf i).toNat)
  case atStart => exact ⟨0, Nat.zero_le _, rfl, by rfl⟩
  case round =>
    obtain ⟨k, hk, rfl, hall⟩ := hrel
    by_cases hlt : k < l.length
    · obtain ⟨g, off, rfl, hg, hc⟩ := h.cell cInt_len (by omega) hlt
      have k0 := hc 0 _ rfl
      simp only [Nat.add_zero, Nat.mul_one] at k0
      clear hc
      by_cases he : l[k] = n
      · have he' : (l[k] == n) = true := by rw [beq_iff_eq]; exact he
        have He := Lib.hid he
        clear he
        go_wp2_with fail
        go_ret
        exact ⟨ret_int (idxF_at hlt hall.out He.out).symm, rfl⟩
      · have he' : (l[k] == n) = false := by rw [beq_eq_false_iff_ne]; exact he
        have He := Lib.hid he
        clear he
        go_wp2_with fail
        go_round
        case rel => exact ⟨k + 1, by omega, by go_num, all_take_succ hlt hall.out (neB_t He.out)⟩
        case measure => simp [intOf]; omega
    · go_wp2_with fail
      go_ret
      exact ⟨ret_int (idxF_none (all_take_end hlt hall.out)).symm, rfl⟩

theorem DrewOf.trans {a b c : World} (h : DrewOf a b) (k : DrewOf b c) : DrewOf a c := by obtain ⟨d, rfl⟩ := h; obtain ⟨d', rfl⟩ := k; exact ⟨d + d', by simp⟩

def prefF (vv : List (List Int)) (i k : Int) : Int := if votesB vv = true ∧ i ≠ k ∧ inB i 0 ((vv.getD 0 []).length - 1) = true ∧ inB k 0 ((vv.getD 0 []).length - 1) = true then befN vv i k else -1
theorem pref_t {vv : List (List Int)} {i k : Int} (h1 : votesB vv = true) (h2 : i ≠ k) (h3 : inB i 0 ((vv.getD 0 []).length - 1) = true) (h4 : inB k 0 ((vv.getD 0 []).length - 1) = true) : prefF vv i k = befN vv i k := if_pos ⟨h1, h2, h3, h4⟩
theorem pref_f {vv : List (List Int)} {i k : Int} (h : ¬ (votesB vv = true ∧ i ≠ k ∧ inB i 0 ((vv.getD 0 []).length - 1) = true ∧ inB k 0 ((vv.getD 0 []).length - 1) = true)) : prefF vv i k = -1 := if_neg h
theorem idx_dec {vv : List (List Int)} (_ : votesB vv = true) {i : Int} {n : Nat} (hn : (vv.getD 0 []).length = n) : inB i 0 (n - 1) = inB i 0 ((vv.getD 0 []).length - 1) := by rw [hn]
end Go.Proofs.Ytomghkfkbpkbdaa

namespace Go.Proofs.Ytomghkfkbpkbdaa
open Go.RowKit
def swapL (l : List Int) (k : Nat) : List Int := (l.set k (l.getD (k + 1) 0)).set (k + 1) (l.getD k 0)
theorem swapL_len (l : List Int) (k : Nat) : (swapL l k).length = l.length := by simp [swapL]
theorem swapL_zero (a b : Int) (l : List Int) : swapL (a :: b :: l) 0 = b :: a :: l := by simp [swapL]
theorem swapL_succ (a : Int) (l : List Int) (k : Nat) : swapL (a :: l) (k + 1) = a :: swapL l k := by simp [swapL]
theorem swapL_perm : ∀ (l : List Int) (k : Nat), k + 1 < l.length → (swapL l k).Perm l := by
  intro l
  induction l with
  | nil => intro k h; simp at h
  | cons a l ih =>
    intro k h
    cases k with
    | zero =>
      match l, h with
      | b :: l, _ => rw [swapL_zero]; exact List.Perm.swap _ _ _
    | succ k => rw [swapL_succ]; exact List.Perm.cons a (ih k (by simpa using h))
theorem swapL_eq {l : List Int} {k : Nat} (h : k + 1 < l.length) : swapL l k = (l.set k l[k + 1]).set (k + 1) l[k] := by
  unfold swapL
  rw [getD_get2 l (k + 1) h, getD_get2 l k (by omega)]
 where getD_get2 (l : List Int) (k : Nat) (hk : k < l.length) : l.getD k 0 = l[k] := by rw [List.getD_eq_getElem?_getD, List.getElem?_eq_getElem hk]; rfl
def orderF (n : Nat) (cs : List RCross) : List Int := cs.foldl (fun o c => swapL o c.1.toNat) (upN n)
theorem orderF_snoc (n : Nat) {cs : List RCross} {k : Nat} (h : k < cs.length) : orderF n (cs.take (k + 1)) = swapL (orderF n (cs.take k)) cs[k].1.toNat := foldl_take_succ _ _ cs h
theorem orderF_len (n : Nat) (cs : List RCross) : (orderF n cs).length = n := by
  have : ∀ (cs : List RCross) (o : List Int), (cs.foldl (fun o c => swapL o c.1.toNat) o).length = o.length := by
    intro cs
    induction cs with
    | nil => intro o; rfl
    | cons c cs ih => intro o; rw [List.foldl_cons, ih, swapL_len]
  unfold orderF
  rw [this, upN_len]
theorem orderF_perm {n : Nat} {cs : List RCross} (h : ∀ c ∈ cs, 0 ≤ c.1 ∧ c.1 ≤ (n : Int) - 2) : (orderF n cs).Perm (upN n) := by
  have : ∀ (cs : List RCross) (o : List Int), o.length = n → (∀ c ∈ cs, 0 ≤ c.1 ∧ c.1 ≤ (n : Int) - 2) → (cs.foldl (fun o c => swapL o c.1.toNat) o).Perm o := by
    intro cs
    induction cs with
    | nil => intro o _ _; exact .refl _
    | cons c cs ih =>
      intro o ho hc
      have := hc c List.mem_cons_self
      rw [List.foldl_cons]
      exact (ih _ (by rw [swapL_len]; exact ho) (fun x hx => hc x (List.mem_cons_of_mem _ hx))).trans (swapL_perm o _ (by omega))
  exact this cs _ (upN_len n) h
theorem upN_nodup (n : Nat) : (upN n).Nodup := by
  unfold upN
  rw [List.nodup_iff_pairwise_ne, List.pairwise_map]
  exact List.Pairwise.imp (fun hab e => hab (by omega)) (List.nodup_iff_pairwise_ne.1 List.nodup_range)
theorem upN_mem {n : Nat} {x : Int} : x ∈ upN n ↔ 0 ≤ x ∧ x < n := by
  unfold upN
  rw [List.mem_map]
  constructor
  · rintro ⟨j, hj, rfl⟩
    have := List.mem_range.1 hj
    omega
  · intro h; exact ⟨x.toNat, List.mem_range.2 (by omega), by omega⟩
theorem upN_sorted (n : Nat) : (upN n).Pairwise (· < ·) := by
  unfold upN
  rw [List.pairwise_map]
  exact List.Pairwise.imp (fun h => by omega) List.pairwise_lt_range
/-- An order of n. -/
structure IsOrd (n : Nat) (l : List Int) : Prop where
  perm : l.Perm (upN n)
theorem IsOrd.len {n : Nat} {l : List Int} (h : IsOrd n l) : l.length = n := by have := h.perm.length_eq; rwa [upN_len] at this
theorem IsOrd.nodup {n : Nat} {l : List Int} (h : IsOrd n l) : l.Nodup := (List.Perm.nodup_iff h.perm).2 (upN_nodup n)
theorem IsOrd.bd {n : Nat} {l : List Int} (h : IsOrd n l) : ∀ x ∈ l, 0 ≤ x ∧ x < n := fun _ hx => upN_mem.1 ((List.Perm.mem_iff h.perm).1 hx)
theorem IsOrd.swap {n : Nat} {l : List Int} (h : IsOrd n l) {k : Nat} (hk : k + 1 < n) : IsOrd n (swapL l k) := ⟨(swapL_perm l k (by rw [h.len]; exact hk)).trans h.perm⟩
theorem IsOrd.order {n : Nat} {cs : List RCross} (h : ∀ c ∈ cs, 0 ≤ c.1 ∧ c.1 ≤ (n : Int) - 2) : IsOrd n (orderF n cs) := ⟨orderF_perm h⟩
theorem IsOrd.okB {n : Nat} {l : List Int} (h : IsOrd n l) (hn : 1 ≤ n ∧ n ≤ 7) : orderB l = true :=
  (orderB_iff l).2 ⟨by rw [h.len]; omega, h.nodup, fun x hx => by have := h.bd x hx; rw [h.len]; omega⟩
theorem IsOrd.ne {n : Nat} {l : List Int} (h : IsOrd n l) {i j : Nat} (hi : i < l.length) (hj : j < l.length) (hij : i ≠ j) : l[i] ≠ l[j] := by
  have hp := List.pairwise_iff_getElem.1 (List.nodup_iff_pairwise_ne.1 h.nodup)
  rcases Nat.lt_or_ge i j with h1 | h1
  · exact hp i j hi hj h1
  · exact fun e => hp j i hj hi (by omega) e.symm
/- inversions -/
def inv : List Int → Nat
  | [] => 0
  | a :: l => l.countP (fun x => decide (x < a)) + inv l
theorem inv_snoc (l : List Int) (x : Int) : inv (l ++ [x]) = inv l + l.countP (fun y => decide (x < y)) := by
  induction l with
  | nil => rfl
  | cons a l ih =>
    rw [List.cons_append, inv, inv, ih, List.countP_append, List.countP_cons, List.countP_cons, List.countP_nil]
    simp only [decide_eq_true_eq]
    omega
theorem inv_take {l : List Int} {k : Nat} (h : k < l.length) : inv (l.take (k + 1)) = inv (l.take k) + (l.take k).countP (fun y => decide (l[k] < y)) := by rw [take_snoc_l l h, inv_snoc]
theorem inv_swap : ∀ (l : List Int) (k : Nat) (h : k + 1 < l.length), l[k + 1] < l[k] → inv l = inv (swapL l k) + 1 := by
  intro l
  induction l with
  | nil => intro k h; simp at h
  | cons a l ih =>
    intro k h hd
    cases k with
    | zero =>
      match l, h, hd with
      | b :: l, _, hd =>
        simp only [Nat.zero_add, List.getElem_cons_succ, List.getElem_cons_zero] at hd
        rw [swapL_zero, inv, inv, inv, inv, List.countP_cons, List.countP_cons]
        simp only [decide_eq_true_eq]
        rw [if_pos hd, if_neg (show ¬ a < b by omega)]
        omega
    | succ k =>
      have hl : k + 1 < l.length := by simpa using h
      have h1 := ih k hl (by simpa using hd)
      rw [swapL_succ, inv, inv, h1, List.Perm.countP_eq _ (swapL_perm l k hl)]
      omega
theorem inv_le (l : List Int) : inv l ≤ l.length * l.length := by
  induction l with
  | nil => simp [inv]
  | cons a l ih =>
    rw [inv, List.length_cons]
    have h1 : l.countP (fun x => decide (x < a)) ≤ l.length := List.countP_le_length
    have h2 : (l.length + 1) * (l.length + 1) = l.length * l.length + l.length + l.length + 1 := by rw [Nat.add_mul, Nat.mul_add]; omega
    omega
theorem inv_zero_sorted : ∀ l : List Int, inv l = 0 → l.Pairwise (· ≤ ·) := by
  intro l
  induction l with
  | nil => intro _; exact List.Pairwise.nil
  | cons a l ih =>
    intro h
    rw [inv] at h
    rw [List.pairwise_cons]
    refine ⟨fun x hx => ?_, ih (by omega)⟩
    have h0 : l.countP (fun x => decide (x < a)) = 0 := by omega
    rw [List.countP_eq_zero] at h0
    have := h0 x hx
    simp at this
    exact this
theorem sorted_inv_zero : ∀ l : List Int, l.Pairwise (· ≤ ·) → inv l = 0 := by
  intro l
  induction l with
  | nil => intro _; rfl
  | cons a l ih =>
    intro h
    rw [List.pairwise_cons] at h
    rw [inv, ih h.2, Nat.add_zero, List.countP_eq_zero]
    intro x hx
    have := h.1 x hx
    simp; omega
theorem IsOrd.inv_zero {n : Nat} {l : List Int} (h : IsOrd n l) : inv l = 0 ↔ l = upN n := by
  constructor
  · intro h0
    exact List.Perm.eq_of_pairwise (le := (· ≤ ·)) (fun a b _ _ h1 h2 => Int.le_antisymm h1 h2) (inv_zero_sorted l h0) ((upN_sorted n).imp (fun h => Int.le_of_lt h)) h.perm
  · intro e
    rw [e]
    exact sorted_inv_zero _ ((upN_sorted n).imp (fun h => Int.le_of_lt h))
/-- the first place where a smaller number comes behind -/
structure FirstDesc (l : List Int) (k : Nat) : Prop where
  lt : k + 1 < l.length
  up : ∀ j (h : j < k), l[j] < l[j + 1]
  down : l[k + 1] < l[k]
def desc : List Int → Nat
  | [] => 0
  | a :: l => if a < l.headD 0 ∧ l ≠ [] then desc l + 1 else 0
theorem desc_of : ∀ (l : List Int) (k : Nat), FirstDesc l k → desc l = k := by
  intro l
  induction l with
  | nil => intro k h; have := h.lt; simp at this
  | cons a l ih =>
    intro k h
    have hlt := h.lt
    match l, hlt with
    | b :: l, hlt =>
      cases k with
      | zero =>
        have hd := h.down
        simp only [Nat.zero_add, List.getElem_cons_succ, List.getElem_cons_zero] at hd
        rw [desc, if_neg (fun e => by have h1 : a < b := e.1; omega)]
      | succ k =>
        have h0 := h.up 0 (by omega)
        simp only [Nat.zero_add, List.getElem_cons_succ, List.getElem_cons_zero] at h0
        rw [desc, if_pos ⟨h0, by simp⟩, ih k ⟨by simpa using hlt, fun j hj => by have := h.up (j + 1) (by omega); simpa using this, by have := h.down; simpa using this⟩]
theorem no_desc : ∀ (l : List Int), (∀ j (h : j + 1 < l.length), l[j] < l[j + 1]) → inv l = 0 := by
  intro l h
  refine sorted_inv_zero l ?_
  have : l.Pairwise (· < ·) := by
    rw [List.pairwise_iff_getElem]
    have key : ∀ d i (hi : i + d + 1 < l.length), l[i] < l[i + d + 1] := by
      intro d
      induction d with
      | zero => intro i hi; exact h i hi
      | succ d ih => intro i hi; exact Int.lt_trans (ih i (by omega)) (h (i + d + 1) hi)
    intro i j hi hj hij
    have := key (j - i - 1) i (by omega)
    have e : i + (j - i - 1) + 1 = j := by omega
    simp only [e] at this
    exact this
  exact this.imp (fun h => Int.le_of_lt h)
def sortSw : Nat → List Int → List Int
  | 0, _ => []
  | f + 1, l => (desc l : Int) :: sortSw f (swapL l (desc l))
def swapsF (l : List Int) : List Int := sortSw (inv l) l
theorem sortSw_len : ∀ (f : Nat) (l : List Int), (sortSw f l).length = f := by
  intro f
  induction f with
  | zero => intro l; rfl
  | succ f ih => intro l; rw [sortSw, List.length_cons, ih]
theorem swapsF_len (l : List Int) : (swapsF l).length = inv l := sortSw_len _ _
theorem swapsF_step {l : List Int} {k : Nat} (h : FirstDesc l k) : swapsF l = (k : Int) :: swapsF (swapL l k) := by
  have hi := inv_swap l k h.lt h.down
  unfold swapsF
  rw [hi, sortSw, desc_of l k h]
theorem swapsF_zero {l : List Int} (h : inv l = 0) : swapsF l = [] := by unfold swapsF; rw [h]; rfl
/-- the exchanges lead to the first order -/
theorem swaps_home : ∀ (m n : Nat) (l : List Int), IsOrd n l → inv l = m → (∀ k ∈ swapsF l, 0 ≤ k ∧ k ≤ (n : Int) - 2) ∧ (swapsF l).foldl (fun o k => swapL o k.toNat) l = upN n := by
  intro m
  induction m with
  | zero =>
    intro n l h h0
    rw [swapsF_zero h0]
    exact ⟨by simp, h.inv_zero.1 h0⟩
  | succ m ih =>
    intro n l h h0
    obtain ⟨k, hk⟩ : ∃ k, FirstDesc l k := by
      apply Classical.byContradiction
      intro hno
      have hno : ∀ k, ¬ FirstDesc l k := fun k hk => hno ⟨k, hk⟩
      have : inv l = 0 := by
        refine no_desc l (fun j hj => ?_)
        induction j using Nat.strongRecOn with
        | ind j ihj =>
          have h1 := h.ne (show j < l.length by omega) hj (by omega)
          apply Classical.byContradiction
          intro hge
          exact hno j ⟨hj, fun i hi => ihj i hi (by omega), by omega⟩
      omega
    have hi := inv_swap l k hk.lt hk.down
    have hkn : k + 1 < n := by have := hk.lt; rwa [h.len] at this
    obtain ⟨h1, h2⟩ := ih n (swapL l k) (h.swap hkn) (by omega)
    rw [swapsF_step hk]
    refine ⟨fun x hx => ?_, ?_⟩
    · rcases List.mem_cons.1 hx with rfl | hx
      · omega
      · exact h1 x hx
    · rw [List.foldl_cons]; exact h2
def homeL (n : Int) (cs : List RCross) : List RCross := if crossesB n cs = true then (swapsF (orderF n.toNat cs)).map (fun k => (k, true)) else []
theorem homeL_t {n : Nat} {cs : List RCross} (h : crossesB n cs = true) : homeL n cs = (swapsF (orderF n cs)).map (fun k => (k, true)) := by unfold homeL; rw [if_pos h]; rfl
theorem homeL_f {n : Int} {cs : List RCross} (h : crossesB n cs = false) : homeL n cs = [] := by unfold homeL; rw [if_neg (by rw [h]; simp)]
theorem homeL_len (n : Int) (cs : List RCross) : (homeL n cs).length ≤ 49 := by
  unfold homeL
  split
  · rename_i h
    have hn := (crosses_len h).1
    rw [List.length_map, swapsF_len]
    have h1 := inv_le (orderF n.toNat cs)
    rw [orderF_len] at h1
    have h2 : n.toNat * n.toNat ≤ 7 * 7 := Nat.mul_le_mul (by omega) (by omega)
    omega
  · simp
end Go.Proofs.Ytomghkfkbpkbdaa
