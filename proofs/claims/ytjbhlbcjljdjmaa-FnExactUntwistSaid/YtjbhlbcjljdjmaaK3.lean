/- Contracts: crossings, players and companies that are ones. -/
import Derived.Test.YtjbhlbcjljdjmaaI3
import Derived.Test.YtjbhlbcjljdjmaaRCross
import Derived.Test.YtjbhlbcjljdjmaaSCompany
import Derived.Deep.QuietTactic
import Derived.BigQuiet
import Derived.IntWalk
namespace Go.Proofs.Ytjbhlbcjljdjmaa
open Go.RowKit

theorem quiet_left {P : Program} {f : FuncId} {args : Array Value} {w : World} {n : Nat} {v : Value}
    (h : Calls P f args (w.drewN n) fun e w' => e = .returned v ∧ w.drewN n = w') : Calls P f args (w.drewN n) fun e w'' => e = .returned v ∧ ∃ m, w'' = w.drewN m :=
  h.mono fun _ _ ⟨he, hm⟩ => ⟨he, n, hm.symm⟩
def crossB (n : Int) (c : RCross) : Bool := inB c.1 0 (n - 2)
def crossesB (n : Int) (l : List RCross) : Bool := (inB n 1 7 && decide (l.length ≤ 40)) && l.all (crossB n)
theorem crosses_f1 {n : Int} {l : List RCross} (h : inB n 1 7 = false) : crossesB n l = false := by rw [crossesB, h]; rfl
theorem crosses_f2 {n : Int} {l : List RCross} (h : 40 < l.length) : crossesB n l = false := by rw [crossesB, show decide (l.length ≤ 40) = false by simp; omega, Bool.and_false]; rfl
theorem crosses_f3 {n : Int} {l : List RCross} (h : l.all (crossB n) = false) : crossesB n l = false := by rw [crossesB, h, Bool.and_false]
theorem crosses_t {n : Int} {l : List RCross} (h1 : inB n 1 7 = true) (h2 : ¬ 40 < l.length) (h3 : l.all (crossB n) = true) : crossesB n l = true := by
  rw [crossesB, h1, h3, show decide (l.length ≤ 40) = true by simp; omega]; rfl
theorem crosses_len {n : Int} {l : List RCross} (h : crossesB n l = true) : (1 ≤ n ∧ n ≤ 7) ∧ l.length ≤ 40 ∧ ∀ c ∈ l, 0 ≤ c.1 ∧ c.1 ≤ n - 2 := by
  rw [crossesB, Bool.and_eq_true, Bool.and_eq_true, inB_iff, decide_eq_true_iff] at h
  exact ⟨h.1.1, h.1.2, fun c hc => inB_iff.1 (List.all_eq_true.1 h.2 c hc)⟩
set_option maxHeartbeats 1000000 in
set_option maxRecDepth 100000 in
theorem implCrossesOk_any (n : Int) (v : Value) (l : List RCross) (w : World) (h : RdL cCross 2 w v l) :
    Calls Try.prog 93 #[.int .i64 n, v] w fun e w' => e = .returned (.bool (crossesB n l)) ∧ Below w.heap.size w w' := by
  obtain ⟨A, c, rfl, h1, h2⟩ := h.form
  by_cases hlen : 40 < l.length
  · go_enter Try.func93, Try.ntmps93
    go_wp2_with (go_at_call 53; refine two (within_any _ _ _ _) (fun hc => ?_) (fun hc => ?_))
    all_goals
      go_ret
      exact ⟨ret_bool (crosses_f2 hlen).symm, by (repeat' (first | exact Below.refl _ _ | (refine Below.setCell ?_ (by first | omega | (simp; omega) | (simp; done)) _) | (refine Below.alloc ?_ (by first | omega | (simp; omega) | (simp; done)) _) | (refine Below.drew ?_) | (refine below_drewN ?_ _) | (refine Below.trans ?_ (Below.mono (by assumption) (by first | omega | (simp; omega) | (simp; done))))))⟩
  · go_enter Try.func93, Try.ntmps93
    go_wp2_with (go_at_call 53; refine two (within_any _ _ _ _) (fun hc => ?_) (fun hc => ?_))
    · have hm := inB_iff.1 hc.out
      go_loopw [17] (fun i wr => ∃ k : Nat, k ≤ l.length ∧ i = .int .i64 k ∧ Hid ((l.take k).all (crossB n) = true) ∧ Below w.heap.size w wr) (fun i _ => l.length - (intOf i).toNat)
      case atStart => exact ⟨0, Nat.zero_le _, rfl, by rfl, Below.refl _ _⟩
      case round =>
        obtain ⟨k, hk, rfl, hall, hb⟩ := hrel
        have hz := hb.size
        by_cases hlt : k < l.length
        · obtain ⟨g, off, rfl, hg, hc'⟩ := (h.below hb).cell cCross_len (by omega) hlt
          have k0 := hc' 0 _ rfl
          have k1 := hc' 1 _ rfl
          simp only [Nat.add_zero] at k0 k1
          clear hc'
          go_wp2_with (go_at_call 53; refine two (within_any _ _ _ _) (fun hq => ?_) (fun hq => ?_))
          · go_roundw
            case rel => exact ⟨k + 1, by omega, by go_num, all_take_succ hlt hall.out hq.out, by (repeat' (first | exact Below.refl _ _ | (refine Below.setCell ?_ (by first | omega | (simp; omega) | (simp; done)) _) | (refine Below.alloc ?_ (by first | omega | (simp; omega) | (simp; done)) _) | (refine Below.drew ?_) | (refine below_drewN ?_ _) | (refine Below.trans ?_ (Below.mono (by assumption) (by first | omega | (simp; omega) | (simp; done))))))⟩
            case measure => simp [intOf]; omega
          · go_ret
            exact ⟨ret_bool (crosses_f3 (all_false_at hlt hq.out)).symm, by (repeat' (first | exact Below.refl _ _ | (refine Below.setCell ?_ (by first | omega | (simp; omega) | (simp; done)) _) | (refine Below.alloc ?_ (by first | omega | (simp; omega) | (simp; done)) _) | (refine Below.drew ?_) | (refine below_drewN ?_ _) | (refine Below.trans ?_ (Below.mono (by assumption) (by first | omega | (simp; omega) | (simp; done))))))⟩
        · go_wp2_with fail
          go_ret
          exact ⟨ret_bool (crosses_t hc.out hlen (all_take_end hlt hall.out)).symm, hb⟩
    · go_ret
      exact ⟨ret_bool (crosses_f1 hc.out).symm, by (repeat' (first | exact Below.refl _ _ | (refine Below.setCell ?_ (by first | omega | (simp; omega) | (simp; done)) _) | (refine Below.alloc ?_ (by first | omega | (simp; omega) | (simp; done)) _) | (refine Below.drew ?_) | (refine below_drewN ?_ _) | (refine Below.trans ?_ (Below.mono (by assumption) (by first | omega | (simp; omega) | (simp; done))))))⟩
set_option maxHeartbeats 1000000 in
set_option maxRecDepth 100000 in
theorem specCrossesOk_any (n : Int) (v : Value) (l : List RCross) (w : World) (h : RdL cCross 2 w v l) :
    Calls Try.prog 99 #[.int .i64 n, v] w fun e w' => e = .returned (.bool (crossesB n l)) ∧ Below w.heap.size w w' := by
  obtain ⟨A, c, rfl, h1, h2⟩ := h.form
  by_cases hlen : 40 < l.length
  · go_enter Try.func99, Try.ntmps99
    go_wp2_with (go_at_call 126; refine two (l01In_any _ _ _ _) (fun hc => ?_) (fun hc => ?_))
    all_goals
      go_ret
      exact ⟨ret_bool (crosses_f2 hlen).symm, by (repeat' (first | exact Below.refl _ _ | (refine Below.setCell ?_ (by first | omega | (simp; omega) | (simp; done)) _) | (refine Below.alloc ?_ (by first | omega | (simp; omega) | (simp; done)) _) | (refine Below.drew ?_) | (refine below_drewN ?_ _) | (refine Below.trans ?_ (Below.mono (by assumption) (by first | omega | (simp; omega) | (simp; done))))))⟩
  · go_enter Try.func99, Try.ntmps99
    go_wp2_with (go_at_call 126; refine two (l01In_any _ _ _ _) (fun hc => ?_) (fun hc => ?_))
    · have hm := inB_iff.1 hc.out
      go_loop [5] (fun i => ∃ k : Nat, k ≤ l.length ∧ i = .int .i64 k ∧ Hid ((l.take k).all (crossB n) = true)) (fun i => l.length - (intOf i).toNat)
      case atStart => exact ⟨0, Nat.zero_le _, rfl, by rfl⟩
      case round =>
        obtain ⟨k, hk, rfl, hall⟩ := hrel
        by_cases hlt : k < l.length
        · obtain ⟨g, off, rfl, hg, hc'⟩ := h.cell cCross_len (by omega) hlt
          have k0 := hc' 0 _ rfl
          simp only [Nat.add_zero] at k0
          clear hc'
          go_wp2_with (go_at_call 126; refine two (l01In_any _ _ _ _) (fun hq => ?_) (fun hq => ?_))
          · go_round
            case rel => exact ⟨k + 1, by omega, by go_num, all_take_succ hlt hall.out hq.out⟩
            case measure => simp [intOf]; omega
          · go_ret
            exact ⟨ret_bool (crosses_f3 (all_false_at hlt hq.out)).symm, by (repeat' (first | exact Below.refl _ _ | (refine Below.setCell ?_ (by first | omega | (simp; omega) | (simp; done)) _) | (refine Below.alloc ?_ (by first | omega | (simp; omega) | (simp; done)) _) | (refine Below.drew ?_) | (refine below_drewN ?_ _) | (refine Below.trans ?_ (Below.mono (by assumption) (by first | omega | (simp; omega) | (simp; done))))))⟩
        · go_wp2_with fail
          go_ret
          exact ⟨ret_bool (crosses_t hc.out hlen (all_take_end hlt hall.out)).symm, by (repeat' (first | exact Below.refl _ _ | (refine Below.setCell ?_ (by first | omega | (simp; omega) | (simp; done)) _) | (refine Below.alloc ?_ (by first | omega | (simp; omega) | (simp; done)) _) | (refine Below.drew ?_) | (refine below_drewN ?_ _) | (refine Below.trans ?_ (Below.mono (by assumption) (by first | omega | (simp; omega) | (simp; done))))))⟩
    · go_ret
      exact ⟨ret_bool (crosses_f1 hc.out).symm, by (repeat' (first | exact Below.refl _ _ | (refine Below.setCell ?_ (by first | omega | (simp; omega) | (simp; done)) _) | (refine Below.alloc ?_ (by first | omega | (simp; omega) | (simp; done)) _) | (refine Below.drew ?_) | (refine below_drewN ?_ _) | (refine Below.trans ?_ (Below.mono (by assumption) (by first | omega | (simp; omega) | (simp; done))))))⟩
/- players -/
def playerB (p : RPl) : Bool := strictB p.1 0 6 && inB p.2 0 2
def playersB (l : List RPl) : Bool := l.all playerB && inB l.length 1 6
theorem playerB_t {p : RPl} (h1 : strictB p.1 0 6 = true) (h2 : inB p.2 0 2 = true) : playerB p = true := by rw [playerB, h1, h2]; rfl
theorem playerB_f1 {p : RPl} (h : strictB p.1 0 6 = false) : playerB p = false := by rw [playerB, h]; rfl
theorem playerB_f2 {p : RPl} (h : inB p.2 0 2 = false) : playerB p = false := by rw [playerB, h, Bool.and_false]
theorem players_f {l : List RPl} (h : l.all playerB = false) : playersB l = false := by rw [playersB, h]; rfl
theorem players_t {l : List RPl} (h : l.all playerB = true) : playersB l = inB l.length 1 6 := by rw [playersB, h]; rfl
set_option maxHeartbeats 1000000 in
set_option maxRecDepth 100000 in
theorem implPlayersOk_any (v : Value) (l : List RPl) (w : World) (h : RdPls w v l) :
    Calls Try.prog 94 #[v] w fun e w' => e = .returned (.bool (playersB l)) ∧ Below w.heap.size w w' := by
  obtain ⟨A, c, rfl, h1, h2⟩ := h.form
  go_enter Try.func94, Try.ntmps94
  go_wp2_with fail
  go_loopw [7] (fun i wr => ∃ k : Nat, k ≤ l.length ∧ i = .int .i64 k ∧ Hid ((l.take k).all playerB = true) ∧ Below w.heap.size w wr) (fun i _ => l.length - (intOf i).toNat)
  case atStart => exact ⟨0, Nat.zero_le _, rfl, by rfl, Below.refl _ _⟩
  case round =>
    obtain ⟨k, hk, rfl, hall, hb⟩ := hrel
    have hz := hb.size
    by_cases hlt : k < l.length
    · obtain ⟨g, off, u, rfl, hg, k0, k1, hru⟩ := (h.below hb).cell hlt
      obtain ⟨A1, c1, rfl, _, _⟩ := hru.form
      go_wp2_with fail
      refine twoB (isStrict_any _ l[k].1 0 6 _ (hru.below (by (repeat' (first | exact Below.refl _ _ | (refine Below.setCell ?_ (by first | omega | (simp; omega) | (simp; done)) _) | (refine Below.alloc ?_ (by first | omega | (simp; omega) | (simp; done)) _) | (refine Below.drew ?_) | (refine below_drewN ?_ _) | (refine Below.trans ?_ (Below.mono (by assumption) (by first | omega | (simp; omega) | (simp; done))))))))) (fun w' hs hb' => ?_) (fun w' hs hb' => ?_)
      · have j1 := carry (b := wr.heap.size) (o := 1) (v := .int .i64 l[k].2) hb' (by simp [go_sem])
        have hz' := hb'.size
        simp at hz'
        go_wp2_with fail
        refine two (within_any _ _ _ _) (fun hq => ?_) (fun hq => ?_)
        · go_wp2_with fail
          go_roundw
          case rel => exact ⟨k + 1, by omega, by go_num, all_take_succ hlt hall.out (playerB_t hs.out hq.out), bl_trans hb (bl_alloc hb')⟩
          case measure => simp [intOf]; omega
        · go_wp2_with fail
          go_ret
          exact ⟨ret_bool (players_f (all_false_at hlt (playerB_f2 hq.out))).symm, bl_trans hb (bl_alloc hb')⟩
      · go_wp2_with fail
        go_ret
        exact ⟨ret_bool (players_f (all_false_at hlt (playerB_f1 hs.out))).symm, bl_trans hb (bl_alloc hb')⟩
    · have hall' := players_t (all_take_end hlt hall.out)
      have Hall := Lib.hid hall'
      clear hall'
      go_wp2_with (go_at_call 53; refine (within_any _ _ _ _).mono ?_; rintro e w' ⟨rfl, rfl⟩)
      go_ret
      exact ⟨ret_bool Hall.out.symm, hb⟩
theorem rise_get {l : List Int} {k : Nat} (h : k < l.length) : l.getD k 0 = l[k] := by rw [List.getD_eq_getElem?_getD, List.getElem?_eq_getElem h]; rfl
def riseAt (l : List Int) (m : Int) (k : Nat) : Bool := inB (l.getD k 0) 0 m && ascAt l k
theorem rise_t {l : List Int} {m : Int} (h : (List.range l.length).all (riseAt l m) = true) : strictB l 0 m = true := by
  rw [List.all_eq_true] at h
  rw [strictB, Bool.and_eq_true]
  refine ⟨List.all_eq_true.2 (fun i hi => ?_), List.all_eq_true.2 (fun x hx => ?_)⟩
  · have := h i hi
    rw [riseAt, Bool.and_eq_true] at this
    exact this.2
  · obtain ⟨i, hi, rfl⟩ := List.getElem_of_mem hx
    have := h i (by simpa using hi)
    rw [riseAt, Bool.and_eq_true, rise_get hi] at this
    exact this.1
theorem rise_f {l : List Int} {m : Int} {k : Nat} (hk : k < l.length) (h : riseAt l m k = false) : strictB l 0 m = false := by
  rw [riseAt, Bool.and_eq_false_iff] at h
  rw [strictB, Bool.and_eq_false_iff]
  rcases h with h | h
  · rw [rise_get hk] at h
    exact .inr (List.all_eq_false.2 ⟨l[k], List.getElem_mem hk, by simp [h]⟩)
  · exact .inl (asc_false hk h)
theorem rise_succ {l : List Int} {m : Int} {k : Nat} (hk : k < l.length) (h1 : (List.range k).all (riseAt l m) = true) (hi : inB l[k] 0 m = true) (ha : ascAt l k = true) : (List.range (k + 1)).all (riseAt l m) = true := by
  rw [List.range_succ, List.all_append, h1]
  simp only [List.all_cons, List.all_nil, Bool.and_true, Bool.true_and]
  rw [riseAt, rise_get hk, hi, ha]; rfl
set_option maxHeartbeats 2000000 in
set_option maxRecDepth 100000 in
theorem l11Rising_q (v : Value) (l : List Int) (m : Int) (w : World) (h : RdL cInt 1 w v l) :
    Calls Try.prog 96 #[v, .int .i64 m] w fun e w' => e = .returned (.bool (strictB l 0 m)) ∧ ∃ d, w' = w.drewN d := by
  have h' := h
  obtain ⟨A, c, rfl, h1, h2⟩ := h.form
  go_enter Try.func96, Try.ntmps96
  go_wp2_with fail
  go_loopw [5] (fun i wr => ∃ k : Nat, k ≤ l.length ∧ i = .int .i64 k ∧ Hid ((List.range k).all (riseAt l m) = true) ∧ Hid (∃ d, wr = w.drewN d)) (fun i _ => l.length - (intOf i).toNat)
  case atStart => exact ⟨0, Nat.zero_le _, rfl, by rfl, ⟨0, rfl⟩⟩
  case round =>
    obtain ⟨k, hk, rfl, hall, hd⟩ := hrel
    by_cases hlt : k < l.length
    · have hb : Below w.heap.size w wr := by obtain ⟨d, e⟩ := hd.out; rw [e]; exact below_drewN (Below.refl _ _) d
      have hdn : ∀ n, ∃ d, wr.drewN n = w.drewN d := fun n => by obtain ⟨d, e⟩ := hd.out; exact ⟨d + n, by rw [e]; simp⟩
      obtain ⟨g, off, rfl, hg, hc⟩ := (h'.below hb).cell cInt_len (by omega) hlt
      have k0 := hc 0 _ rfl
      simp only [Nat.add_zero, Nat.mul_one] at k0
      clear hc
      have hcon := fun W => l01In_any l[k] 0 m W
      have hgk := rise_get hlt
      cases hi : inB l[k] 0 m <;> rw [hi] at hcon <;> have Hi := Lib.hid hi <;> have Hcon := Lib.hid hcon <;> have Hgk := Lib.hid hgk <;> have Hdn := Lib.hid hdn <;> clear hi hcon hgk hdn
      · go_wp2_with fail
        go_quiet ((go_at_call 126; exact quiet_left (Hcon.out _)))
        rename_i nq
        go_wp2_with fail
        go_ret
        exact ⟨ret_bool (rise_f hlt (by rw [riseAt, Hgk.out, Hi.out]; rfl)).symm, Hdn.out _⟩
      · by_cases hk0 : 0 < k
        · obtain ⟨g', off', hA, hg', hc'⟩ := (h'.below hb).cell (k := k - 1) cInt_len (by omega) (by omega)
          injection hA with hA
          injection hA with e1 e2
          subst e1 e2
          have k1 := hc' 0 _ rfl
          simp only [Nat.add_zero, Nat.mul_one] at k1
          clear hc'
          have hat := ascAt_get hlt hk0
          have Hat := Lib.hid hat
          clear hat
          have hw1 : IntKind.i64.wrap ((k : Int) - 1) = (k : Int) - 1 := IntWalk.i64_in _ (by omega)
          have hw2 : (0 : Int) ≤ (k : Int) - 1 := by omega
          have hw2' : (1 : Int) ≤ (k : Int) := by omega
          have hw4 : (k : Int) - 1 < (l.length : Int) := by omega
          have hw3 : ((k : Int) - 1).toNat = k - 1 := by omega
          by_cases hle : l[k] ≤ l[k - 1]
          · go_wp2_with fail
            go_quiet ((go_at_call 126; exact quiet_left (Hcon.out _)))
            rename_i nq
            go_wp2_with fail
            go_ret
            exact ⟨ret_bool (rise_f hlt (by rw [riseAt, Hgk.out, Hi.out, Hat.out]; simp; omega)).symm, Hdn.out _⟩
          · go_wp2_with fail
            go_quiet ((go_at_call 126; exact quiet_left (Hcon.out _)))
            rename_i nq
            go_wp2_with fail
            go_roundw
            case rel => exact ⟨k + 1, by omega, by go_num, rise_succ hlt hall.out Hi.out (by rw [Hat.out]; exact decide_eq_true (by omega)), Hdn.out _⟩
            case measure => simp [intOf]; omega
        · obtain rfl : k = 0 := by omega
          simp only [Nat.add_zero] at k0
          go_wp2_with fail
          go_quiet ((go_at_call 126; exact quiet_left (Hcon.out _)))
          rename_i nq
          go_wp2_with fail
          go_roundw
          case rel => exact ⟨1, by omega, by rfl, rise_succ (k := 0) hlt hall.out Hi.out (by rfl), Hdn.out _⟩
          case measure => simp [intOf]; omega
    · obtain rfl : k = l.length := by omega
      go_wp2_with fail
      go_ret
      exact ⟨ret_bool (rise_t hall.out).symm, hd.out⟩
set_option maxHeartbeats 1000000 in
set_option maxRecDepth 100000 in
theorem specPlayersOk_any (v : Value) (l : List RPl) (w : World) (h : RdPls w v l) :
    Calls Try.prog 95 #[v] w fun e w' => e = .returned (.bool (playersB l)) ∧ Below w.heap.size w w' := by
  obtain ⟨A, c, rfl, h1, h2⟩ := h.form
  go_enter Try.func95, Try.ntmps95
  go_wp2_with fail
  go_loopw [3] (fun i wr => ∃ k : Nat, k ≤ l.length ∧ i = .int .i64 k ∧ Hid ((l.take k).all playerB = true) ∧ Below w.heap.size w wr) (fun i _ => l.length - (intOf i).toNat)
  case atStart => exact ⟨0, Nat.zero_le _, rfl, by rfl, Below.refl _ _⟩
  case round =>
    obtain ⟨k, hk, rfl, hall, hb⟩ := hrel
    have hz := hb.size
    by_cases hlt : k < l.length
    · obtain ⟨g, off, u, rfl, hg, k0, k1, hru⟩ := (h.below hb).cell hlt
      obtain ⟨A1, c1, rfl, _, _⟩ := hru.form
      have hcon := l11Rising_q _ l[k].1 6 _ hru
      cases hs : strictB l[k].1 0 6 <;> rw [hs] at hcon <;> have Hs := Lib.hid hs <;> have Hcon := Lib.hid hcon <;> clear hs hcon
      · go_wp2_with (go_at_call 96; refine Hcon.out.mono ?_; rintro e w' ⟨rfl, d, rfl⟩)
        go_ret
        exact ⟨ret_bool (players_f (all_false_at hlt (playerB_f1 Hs.out))).symm, below_drewN hb _⟩
      · go_wp2_with (go_at_call 96; refine Hcon.out.mono ?_; rintro e w' ⟨rfl, d, rfl⟩)
        refine two (l01In_any _ _ _ _) (fun hq => ?_) (fun hq => ?_)
        · go_wp2_with fail
          go_roundw
          case rel => exact ⟨k + 1, by omega, by go_num, all_take_succ hlt hall.out (playerB_t Hs.out hq.out), below_drewN hb _⟩
          case measure => simp [intOf]; omega
        · go_wp2_with fail
          go_ret
          exact ⟨ret_bool (players_f (all_false_at hlt (playerB_f2 hq.out))).symm, below_drewN hb _⟩
    · have hall' := players_t (all_take_end hlt hall.out)
      have Hall := Lib.hid hall'
      clear hall'
      go_wp2_with (go_at_call 126; refine (l01In_any _ _ _ _).mono ?_; rintro e w' ⟨rfl, rfl⟩)
      go_ret
      exact ⟨ret_bool Hall.out.symm, hb⟩
def companyB (n : Int) (cs : List RCross) (ps : List RPl) : Bool := crossesB n cs && playersB ps
theorem implCompanyOk_any (n : Int) (v1 v2 : Value) (cs : List RCross) (ps : List RPl) (w : World) (h : RdCompany w v1 v2 cs ps) :
    Calls Try.prog 39 #[.agg #[.int .i64 n, v1, v2]] w fun e w' => e = .returned (.bool (companyB n cs ps)) ∧ Below w.heap.size w w' := by
  obtain ⟨⟨A1, c1, rfl⟩, ⟨A2, c2, rfl⟩⟩ := h.forms
  obtain ⟨h1, h2⟩ := h
  go_enter Try.func39, Try.ntmps39
  go_wp2_with fail
  refine twoB (implCrossesOk_any n _ cs _ (h1.below (by (repeat' (first | exact Below.refl _ _ | (refine Below.setCell ?_ (by first | omega | (simp; omega) | (simp; done)) _) | (refine Below.alloc ?_ (by first | omega | (simp; omega) | (simp; done)) _) | (refine Below.drew ?_) | (refine below_drewN ?_ _) | (refine Below.trans ?_ (Below.mono (by assumption) (by first | omega | (simp; omega) | (simp; done))))))))) (fun w' hq hb => ?_) (fun w' hq hb => ?_)
  · have k2 := carry (b := w.heap.size) (o := 2) (v := .slice A2 ps.length c2) hb (by simp [go_sem])
    have hb' := bl_alloc hb
    go_wp2_with (go_at_call 94; refine (implPlayersOk_any _ ps _ (h2.below hb')).mono ?_; rintro e w2 ⟨rfl, hb2⟩)
    go_ret
    exact ⟨ret_bool (by rw [companyB, hq.out]; rfl), bl_trans hb' hb2⟩
  · go_wp2_with fail
    go_ret
    exact ⟨ret_bool (by rw [companyB, hq.out]; rfl), bl_alloc hb⟩
theorem specCompanyOk_any (n : Int) (v1 v2 : Value) (cs : List RCross) (ps : List RPl) (w : World) (h : RdCompany w v1 v2 cs ps) :
    Calls Try.prog 58 #[.agg #[.int .i64 n, v1, v2]] w fun e w' => e = .returned (.bool (companyB n cs ps)) ∧ Below w.heap.size w w' := by
  obtain ⟨⟨A1, c1, rfl⟩, ⟨A2, c2, rfl⟩⟩ := h.forms
  obtain ⟨h1, h2⟩ := h
  go_enter Try.func58, Try.ntmps58
  go_wp2_with fail
  refine twoB (specCrossesOk_any n _ cs _ (h1.below (by (repeat' (first | exact Below.refl _ _ | (refine Below.setCell ?_ (by first | omega | (simp; omega) | (simp; done)) _) | (refine Below.alloc ?_ (by first | omega | (simp; omega) | (simp; done)) _) | (refine Below.drew ?_) | (refine below_drewN ?_ _) | (refine Below.trans ?_ (Below.mono (by assumption) (by first | omega | (simp; omega) | (simp; done))))))))) (fun w' hq hb => ?_) (fun w' hq hb => ?_)
  · have k2 := carry (b := w.heap.size) (o := 2) (v := .slice A2 ps.length c2) hb (by simp [go_sem])
    have hb' := bl_alloc hb
    go_wp2_with (go_at_call 95; refine (specPlayersOk_any _ ps _ (h2.below hb')).mono ?_; rintro e w2 ⟨rfl, hb2⟩)
    go_ret
    exact ⟨ret_bool (by rw [companyB, hq.out]; rfl), bl_trans hb' hb2⟩
  · go_wp2_with fail
    go_ret
    exact ⟨ret_bool (by rw [companyB, hq.out]; rfl), bl_alloc hb⟩
end Go.Proofs.Ytjbhlbcjljdjmaa
