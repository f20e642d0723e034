/- Several texts in one: Contracts: slices of strings; LongestLine. Contracts: words: areBytes, areWords, l36Ok. Contracts: slices of ints, the helpers of the laws. Contracts: allWithin, isStrict, put, sorted, OrderOk of the program. Contracts: put, sorted, OrderOk of the program. Contracts: sorted, OrderOk of the program and of the reference. Contracts: OrderOk of the reference. Rows of numbers: read, written, made. The struct Player: to read it, to own it, its marks; contracts of the laws' helpers. Written by a program (gen_struct.py). -/
import Derived.BigQuiet
import Derived.Test.YteidpejjjphecaaGreatDoorBdA1x10
namespace Go.Proofs.YteidpejjjphecaaGreatDoor
open Go.RowKit
theorem infoString : (Tryz.prog.info? 9).map (fun i => (i.zero, i.size, i.bytes)) = some (some (.string ByteArray.empty), 1, 16) := by kernel_rfl
open Go.RowKit
open Go.RowKit
theorem infoInt : (Tryz.prog.info? 3).map (fun i => (i.zero, i.size, i.bytes)) = some (some (.int .i64 0), 1, 8) := by kernel_rfl
def mkInt (k : Int) : List Value := [.int .i64 k]
theorem cInt_one (a : Int) : ∀ y ∈ cInt a, y.oneCell' = true := by intro y hy; simp [cInt] at hy; subst hy; rfl
open Go.RowKit
set_option maxHeartbeats 1000000 in
theorem allWithin_any (v : Value) (l : List Int) (a b : Int) (w : World) (h : RdL cInt 1 w v l) :
  Calls Tryz.prog 99 #[v, .int .i64 a, .int .i64 b] w fun e w' => e = .returned (.bool (allB a b l)) ∧ w = w' := by
 obtain ⟨A, c, rfl, h1, h2⟩ := h.form
 go_enter Tryz.func99, Tryz.ntmps99
 go_wp2_with fail
 go_loop [11] (fun i => ∃ k : Nat, k ≤ l.length ∧ i = .int .i64 k ∧ Hid ((l.take k).all (fun n => inB n a b) = true)) (fun i => l.length - (intOf i).toNat)
 case atStart => exact ⟨0, Nat.zero_le _, rfl, by rfl⟩
 case round =>
  obtain ⟨k, hk, rfl, hall⟩ := hrel
  by_cases hlt : k < l.length
  ·obtain ⟨g, off, rfl, hg, hc⟩ := h.cell cInt_len (by omega) hlt
   have k0 := hc 0 _ rfl
   simp only [Nat.add_zero, Nat.mul_one] at k0
   clear hc
   go_wp2_with (go_at_call 32; refine two (within_any _ _ _ _) (fun hc => ?_) (fun hc => ?_))
   ·go_round
    case rel => exact ⟨k + 1, by omega, by go_num, all_take_succ hlt hall.out hc.out⟩
    case measure => simp [intOf]; omega
   ·go_ret
    exact ⟨ret_bool (all_false_at hlt hc.out).symm, rfl⟩
  ·go_wp2_with fail
   go_ret
   exact ⟨ret_bool (all_take_end hlt hall.out).symm, rfl⟩
theorem asc_succ {l : List Int} {k : Nat} (h1 : (List.range k).all (ascAt l) = true) (h2 : ascAt l k = true) : (List.range (k + 1)).all (ascAt l) = true := by
 rw [List.range_succ, List.all_append, h1]; simp [h2]
theorem asc_false {l : List Int} {k : Nat} (h : k < l.length) (h2 : ascAt l k = false) : ascB l = false := by
 unfold ascB; rw [List.all_eq_false]; exact ⟨k, by simpa using h, by simp [h2]⟩
theorem ascAt_get {l : List Int} {k : Nat} (h : k < l.length) (h0 : 0 < k) : ascAt l k = decide (l[k - 1] < l[k]) := by
 unfold ascAt
 rw [show (k == 0) = false by simp; omega, Bool.false_or, List.getD_eq_getElem?_getD, List.getD_eq_getElem?_getD, List.getElem?_eq_getElem (show k - 1 < l.length by omega), List.getElem?_eq_getElem h]
 rfl
theorem strict_f {l : List Int} {a b : Int} (h : ascB l = false) : strictB l a b = false := by rw [strictB, h]; rfl
theorem strict_t {l : List Int} {a b : Int} (h : ascB l = true) : strictB l a b = allB a b l := by rw [strictB, h]; rfl
set_option maxHeartbeats 1000000 in
theorem isStrict_any (v : Value) (l : List Int) (a b : Int) (w : World) (h : RdL cInt 1 w v l) :
  Calls Tryz.prog 78 #[v, .int .i64 a, .int .i64 b] w fun e w' => e = .returned (.bool (strictB l a b)) ∧ Below w.heap.size w w' := by
 obtain ⟨A, c, rfl, h1, h2⟩ := h.form
 go_enter Tryz.func78, Tryz.ntmps78
 go_wp2_with fail
 go_loopw [10] (fun i wr => ∃ k : Nat, k ≤ l.length ∧ i = .int .i64 k ∧ Hid ((List.range k).all (ascAt l) = true) ∧ Below w.heap.size w wr) (fun i _ => l.length - (intOf i).toNat)
 case atStart => exact ⟨0, Nat.zero_le _, rfl, by rfl, by (repeat' (first | exact Below.refl _ _ | refine qS ?_ _ | refine qA ?_ _ | refine qD ?_ | refine qN ?_ _ | refine qT ?_ (by assumption)))⟩
 case round =>
  obtain ⟨k, hk, rfl, hall, hb⟩ := hrel
  have hz := hb.size
  by_cases hlt : k < l.length
  ·have hr := h.below hb
   obtain ⟨g, off, rfl, hg, hc⟩ := hr.cell cInt_len (by omega) hlt
   have k0 := hc 0 _ rfl
   by_cases h0 : 0 < k
   ·obtain ⟨g', off', hAA, hg', hc'⟩ := hr.cell (k := k - 1) cInt_len (by omega) (by omega)
    injection hAA with hAA
    injection hAA with e1 e2
    subst e1 e2
    have k1 := hc' 0 _ rfl
    simp only [Nat.add_zero, Nat.mul_one] at k0 k1
    clear hc hc'
    have hat := ascAt_get hlt h0
    have Hat := Lib.hid hat
    clear hat
    by_cases hle : l[k] ≤ l[k - 1]
    ·go_wp2_with fail
     go_quiet (fail)
     go_wp2_with fail
     go_ret
     exact ⟨ret_bool (strict_f (asc_false hlt (by rw [Hat.out]; simp; omega))).symm, by (repeat' (first | exact Below.refl _ _ | refine qS ?_ _ | refine qA ?_ _ | refine qD ?_ | refine qN ?_ _ | refine qT ?_ (by assumption)))⟩
    ·go_wp2_with fail
     go_quiet (fail)
     go_wp2_with fail
     go_roundw
     case rel => exact ⟨k + 1, by omega, by go_num, asc_succ hall.out (by rw [Hat.out]; simp; omega), by (repeat' (first | exact Below.refl _ _ | refine qS ?_ _ | refine qA ?_ _ | refine qD ?_ | refine qN ?_ _ | refine qT ?_ (by assumption)))⟩
     case measure => simp [intOf]; omega
   ·obtain rfl : k = 0 := by omega
    simp only [Nat.add_zero, Nat.mul_one] at k0
    clear hc
    go_wp2_with fail
    go_quiet (fail)
    go_wp2_with fail
    go_roundw
    case rel => exact ⟨1, by omega, by rfl, by rfl, by (repeat' (first | exact Below.refl _ _ | refine qS ?_ _ | refine qA ?_ _ | refine qD ?_ | refine qN ?_ _ | refine qT ?_ (by assumption)))⟩
    case measure => simp [intOf]; omega
  ·go_wp2_with (go_at_call 99; refine (allWithin_any _ l a b _ (h.below hb)).mono ?_; rintro e w' ⟨rfl, rfl⟩)
   go_ret
   obtain rfl : k = l.length := by omega
   exact ⟨ret_bool (strict_t hall.out).symm, by (repeat' (first | exact Below.refl _ _ | refine qS ?_ _ | refine qA ?_ _ | refine qD ?_ | refine qN ?_ _ | refine qT ?_ (by assumption)))⟩
open Go.RowKit
def putStep (n : Int) (s : Bool × List Int) (x : Int) : Bool × List Int := if s.1 = false ∧ n ≤ x then (true, s.2 ++ [n] ++ [x]) else (s.1, s.2 ++ [x])
def putSt (n : Int) (l : List Int) : Bool × List Int := l.foldl (putStep n) (false, [])
def putFin (n : Int) (s : Bool × List Int) : List Int := if s.1 = true then s.2 else s.2 ++ [n]
theorem putFold_t (n : Int) (l : List Int) : ∀ acc, l.foldl (putStep n) (true, acc) = (true, acc ++ l) := by
 induction l with
 | nil => intro acc; simp
 | cons x xs ih => intro acc; rw [List.foldl_cons]; simp [putStep, ih]
theorem putFold_f (n : Int) (l : List Int) : ∀ acc, putFin n (l.foldl (putStep n) (false, acc)) = acc ++ putF n l := by
 induction l with
 | nil => intro acc; simp [putFin, putF]
 | cons x xs ih =>
  intro acc
  rw [List.foldl_cons]
  by_cases h : n ≤ x
  ·rw [show putStep n (false, acc) x = (true, acc ++ [n] ++ [x]) by simp [putStep, h], putFold_t]
   simp [putFin, putF, h]
  ·rw [show putStep n (false, acc) x = (false, acc ++ [x]) by simp [putStep, h], ih]
   simp [putF, h]
theorem putSt_fin (n : Int) (l : List Int) : putFin n (putSt n l) = putF n l := by have := putFold_f n l []; simpa [putSt] using this
theorem putSt_succ (n : Int) (l : List Int) {k : Nat} (h : k < l.length) : putSt n (l.take (k + 1)) = putStep n (putSt n (l.take k)) l[k] := foldl_take_succ _ _ l h
theorem putSt_len (n : Int) (l : List Int) (k : Nat) (hk : k ≤ l.length) : (putSt n (l.take k)).2.length ≤ k + (if (putSt n (l.take k)).1 = true then 1 else 0) := by
 induction k with
 | zero => simp [putSt]
 | succ k ih =>
  rw [putSt_succ n l (by omega)]
  have := ih (by omega)
  generalize putSt n (l.take k) = s at *
  obtain ⟨b, acc⟩ := s
  unfold putStep
  split
  ·rename_i h; simp at h this ⊢; simp [h.1] at this; omega
  ·simp at this ⊢; omega
set_option maxHeartbeats 2000000 in
set_option maxRecDepth 100000 in
theorem put_any (v : Value) (l : List Int) (n : Int) (w : World) (h : RdL cInt 1 w v l) (hl : l.length ≤ 16777216) :
  Calls Tryz.prog 80 #[v, .int .i64 n] w fun e w' => ∃ v', e = .returned v' ∧ w'.ownsRow w.heap.size 3 1 v' (putF n l).length ((putF n l).flatMap cInt) ∧ Below w.heap.size w w' := by
 obtain ⟨A, c, rfl, h1, h2⟩ := h.form
 obtain ⟨i0, hi0, hz0, hz1, hz2⟩ := info_parts infoInt
 go_enter Tryz.func80, Tryz.ntmps80
 go_wp2_with fail
 go_loopw [5, 6, 12] (fun q d i wr => ∃ (k : Nat) (b : Bool) (acc : List Int), k ≤ l.length ∧ i = .int .i64 k ∧ d = .bool b ∧ Hid (putSt n (l.take k) = (b, acc)) ∧ wr.ownsRow w.heap.size 3 1 q acc.length (acc.flatMap cInt) ∧ Below w.heap.size w wr) (fun _ _ i _ => l.length - (intOf i).toNat)
 case atStart => exact ⟨0, false, [], Nat.zero_le _, rfl, rfl, by rfl, World.ownsRow_made (size := 1) (e := 3) w #[] 0 (Nat.le_refl _) (by simp [maxLen]) rfl, by (repeat' (first | exact Below.refl _ _ | refine qS ?_ _ | refine qA ?_ _ | refine qD ?_ | refine qN ?_ _ | refine qT ?_ (by assumption)))⟩
 case round =>
  obtain ⟨k, b, acc, hk, rfl, rfl, hst, hown, hb⟩ := hrel
  have hz := hb.size
  have hal : acc.length ≤ k + 1 := by have := putSt_len n l k hk; rw [hst.out] at this; simp at this; split at this <;> omega
  by_cases hlt : k < l.length
  ·have hr := h.below hb
   obtain ⟨g, off, rfl, hg, hc⟩ := hr.cell cInt_len (by omega) hlt
   have k0 := hc 0 _ rfl
   simp only [Nat.add_zero, Nat.mul_one] at k0
   clear hc
   have hsu := putSt_succ n l hlt
   rw [hst.out] at hsu
   have Hsu := Lib.hid hsu
   clear hsu
   by_cases hin : b = false ∧ n ≤ l[k]
   ·obtain ⟨rfl, hin⟩ := hin
    go_wp2_with (first
     | (at_builtin; refine wpList_appendR _ rfl (.tmp 23) (.tmp 25) _ rfl w.heap.size 3 i0 _ 1 8 Tryz.underlying28 hi0 hz0 hz1 hz2 rfl (by omega) _ acc.length (acc.flatMap cInt) rfl (hown.alloc _) _ 1 [.int .i64 n] rfl (rdS_new wr #[.int .i64 n] _ 1 1 rfl (by simp [maxLen])) (by simp [Value.oneCell']) (by simp [maxLen]; omega) (by omega) (by simp; omega) ?_; intro v2 w2 hown2 hgr2; have hb2 : Below w.heap.size (wr.alloc (Obj.cells #[.int .i64 n] 3)) w2 := below_own (hown.alloc _) hgr2 (by simp; omega); clear hgr2; have hz2' := hb2.size; simp at hz2')
     | (at_builtin; refine wpList_appendR _ rfl (.tmp 27) (.tmp 29) _ rfl w.heap.size 3 i0 _ 1 8 Tryz.underlying28 hi0 hz0 hz1 hz2 rfl (by omega) _ (acc.length + 1) (acc.flatMap cInt ++ [.int .i64 n]) rfl (hown2.alloc _) _ 1 [.int .i64 l[k]] rfl (rdS_new w2 #[.int .i64 l[k]] _ 1 1 rfl (by simp [maxLen])) (by simp [Value.oneCell']) (by simp [maxLen]; omega) (by omega) (by simp; omega) ?_; intro v3 w3 hown3 hgr3))
    have hb3 : Below w.heap.size (w2.alloc (Obj.cells #[.int .i64 l[k]] 3)) w3 := below_own (hown2.alloc _) hgr3 (by simp; omega)
    clear hgr3
    go_wp2_with fail
    go_roundw
    case rel =>
     refine ⟨k + 1, true, acc ++ [n] ++ [l[k]], by omega, by go_num, rfl, ?_, ?_, ((hb.alloc (by omega) _).trans hb2 |>.alloc (by omega) _).trans hb3⟩
     ·show _ = _
      rw [Hsu.out]; simp [putStep, hin]
     ·rw [List.length_append, List.length_append, List.flatMap_append, List.flatMap_append]
      exact hown3
    case measure => simp [intOf]; omega
   ·have hps : putStep n (b, acc) l[k] = (b, acc ++ [l[k]]) := by unfold putStep; rw [if_neg hin]
    have Hps := Lib.hid hps
    clear hps
    have hgd : b = true ∨ (b = false ∧ ¬ n ≤ l[k]) := by cases b <;> simp_all
    clear hin
    rcases hgd with rfl | ⟨rfl, hni⟩
    all_goals
     go_wp2_with (at_builtin; refine wpList_appendR _ rfl (.tmp 27) (.tmp 29) _ rfl w.heap.size 3 i0 _ 1 8 Tryz.underlying28 hi0 hz0 hz1 hz2 rfl (by omega) _ acc.length (acc.flatMap cInt) rfl (hown.alloc _) _ 1 [.int .i64 l[k]] rfl (rdS_new wr #[.int .i64 l[k]] _ 1 1 rfl (by simp [maxLen])) (by simp [Value.oneCell']) (by simp [maxLen]; omega) (by omega) (by simp; omega) ?_; intro v3 w3 hown3 hgr3)
     have hb3 : Below w.heap.size (wr.alloc (Obj.cells #[.int .i64 l[k]] 3)) w3 := below_own (hown.alloc _) hgr3 (by simp; omega)
     clear hgr3
     go_wp2_with fail
     go_roundw
     case rel =>
      refine ⟨k + 1, _, acc ++ [l[k]], by omega, by go_num, rfl, ?_, ?_, (hb.alloc (by omega) _).trans hb3⟩
      ·show _ = _
       rw [Hsu.out, Hps.out]
      ·rw [List.length_append, List.flatMap_append]
       exact hown3
     case measure => simp [intOf]; omega
  ·obtain rfl : k = l.length := by omega
   have hfin := putSt_fin n l
   have hst' := hst.out
   rw [List.take_length] at hst'
   rw [hst'] at hfin
   have Hfin := Lib.hid hfin
   clear hfin hst'
   cases b
   ·go_wp2_with (at_builtin; refine wpList_appendR _ rfl (.tmp 34) (.tmp 36) _ rfl w.heap.size 3 i0 _ 1 8 Tryz.underlying28 hi0 hz0 hz1 hz2 rfl (by omega) _ acc.length (acc.flatMap cInt) rfl (hown.alloc _) _ 1 [.int .i64 n] rfl (rdS_new wr #[.int .i64 n] _ 1 1 rfl (by simp [maxLen])) (by simp [Value.oneCell']) (by simp [maxLen]; omega) (by omega) (by simp; omega) ?_; intro v3 w3 hown3 hgr3)
    have hb3 : Below w.heap.size (wr.alloc (Obj.cells #[.int .i64 n] 3)) w3 := below_own (hown.alloc _) hgr3 (by simp; omega)
    clear hgr3
    go_wp2_with fail
    go_ret
    refine ⟨_, rfl, ?_, (hb.alloc (by omega) _).trans hb3⟩
    rw [← Hfin.out]
    show _root_.Go.World.ownsRow _ _ _ _ _ (acc ++ [n]).length ((acc ++ [n]).flatMap cInt)
    rw [List.length_append, List.flatMap_append]
    exact hown3
   ·go_wp2_with fail
    go_ret
    refine ⟨_, rfl, ?_, hb⟩
    rw [← Hfin.out]
    exact hown
open Go.RowKit
theorem sortF_succ (l : List Int) {k : Nat} (h : k < l.length) : sortF (l.take (k + 1)) = putF l[k] (sortF (l.take k)) := foldl_take_succ _ _ l h
set_option maxHeartbeats 1000000 in
set_option maxRecDepth 100000 in
theorem sorted_any (v : Value) (l : List Int) (w : World) (h : RdL cInt 1 w v l) (hl : l.length ≤ 16777216) :
  Calls Tryz.prog 130 #[v] w fun e w' => ∃ v', e = .returned v' ∧ w'.ownsRow w.heap.size 3 1 v' (sortF l).length ((sortF l).flatMap cInt) ∧ Below w.heap.size w w' := by
 obtain ⟨A, c, rfl, h1, h2⟩ := h.form
 go_enter Tryz.func130, Tryz.ntmps130
 go_wp2_with fail
 go_loopw [3, 9] (fun q i wr => ∃ k : Nat, k ≤ l.length ∧ i = .int .i64 k ∧ wr.ownsRow w.heap.size 3 1 q (sortF (l.take k)).length ((sortF (l.take k)).flatMap cInt) ∧ Below w.heap.size w wr) (fun _ i _ => l.length - (intOf i).toNat)
 case atStart => exact ⟨0, Nat.zero_le _, rfl, World.ownsRow_made (size := 1) (e := 3) w #[] 0 (Nat.le_refl _) (by simp [maxLen]) rfl, by (repeat' (first | exact Below.refl _ _ | refine qS ?_ _ | refine qA ?_ _ | refine qD ?_ | refine qN ?_ _ | refine qT ?_ (by assumption)))⟩
 case round =>
  obtain ⟨k, hk, rfl, hown, hb⟩ := hrel
  have hz := hb.size
  by_cases hlt : k < l.length
  ·have hr := h.below hb
   obtain ⟨g, off, rfl, hg, hc⟩ := hr.cell cInt_len (by omega) hlt
   have k0 := hc 0 _ rfl
   simp only [Nat.add_zero, Nat.mul_one] at k0
   clear hc
   have hsu := sortF_succ l hlt
   have Hsu := Lib.hid hsu
   clear hsu
   have hsl : (sortF (l.take k)).length ≤ 16777216 := by rw [sortF_len]; simp; omega
   go_wp2_with fail
   refine (put_any _ (sortF (l.take k)) l[k] _ (RdS.of_own hown) hsl).mono ?_
   rintro e w' ⟨v', rfl, hown', hb'⟩
   go_wp2_with fail
   go_roundw
   case rel => exact ⟨k + 1, by omega, by go_num, by rw [Hsu.out]; exact own_mono hown' hz, by (repeat' (first | exact Below.refl _ _ | refine qS ?_ _ | refine qA ?_ _ | refine qD ?_ | refine qN ?_ _ | refine qT ?_ (by assumption)))⟩
   case measure => simp [intOf]; omega
  ·go_wp2_with fail
   go_ret
   rw [List.take_of_length_le (by omega)] at hown
   exact ⟨_, rfl, hown, by (repeat' (first | exact Below.refl _ _ | refine qS ?_ _ | refine qA ?_ _ | refine qD ?_ | refine qN ?_ _ | refine qT ?_ (by assumption)))⟩
theorem order_f1 {l : List Int} (h : inB l.length 1 7 = false) : orderB l = false := by rw [orderB, h]; rfl
theorem order_t1 {l : List Int} (h : inB l.length 1 7 = true) : orderB l = strictB (sortF l) 0 (l.length - 1) := by rw [orderB, h]; rfl
set_option maxHeartbeats 1000000 in
theorem implOrderOk_any (v : Value) (l : List Int) (w : World) (h : RdL cInt 1 w v l) :
  Calls Tryz.prog 120 #[v] w fun e w' => e = .returned (.bool (orderB l)) ∧ Below w.heap.size w w' := by
 have h0 := h
 obtain ⟨A, c, rfl, h1, h2⟩ := h.form
 go_enter Tryz.func120, Tryz.ntmps120
 go_wp2_with (go_at_call 32; refine two (within_any _ _ _ _) (fun hc => ?_) (fun hc => ?_))
 ·have hq := inB_iff.1 hc.out
  refine (sorted_any _ l _ h0 (by omega)).mono ?_
  rintro e w' ⟨v', rfl, hown, hb⟩
  go_wp2_with fail
  refine (isStrict_any _ (sortF l) _ _ _ (RdS.of_own hown)).mono ?_
  rintro e w'' ⟨rfl, hb'⟩
  go_wp2_with fail
  go_ret
  exact ⟨ret_bool (order_t1 hc.out).symm, bl_trans hb hb'⟩
 ·go_ret
  exact ⟨ret_bool (order_f1 hc.out).symm, by (repeat' (first | exact Below.refl _ _ | refine qS ?_ _ | refine qA ?_ _ | refine qD ?_ | refine qN ?_ _ | refine qT ?_ (by assumption)))⟩
def ordAt (l : List Int) (k : Nat) : Bool := inB (l.getD k 0) 0 (l.length - 1) && (List.range k).all (fun i => !(l.getD i 0 == l.getD k 0))
theorem ord_all (l : List Int) (h : (List.range l.length).all (ordAt l) = true) (hl : inB l.length 1 7 = true) : orderB l = true := by
 rw [orderB_iff]
 rw [List.all_eq_true] at h
 have hg : ∀ k (hk : k < l.length), l.getD k 0 = l[k] := fun k hk => by rw [List.getD_eq_getElem?_getD, List.getElem?_eq_getElem hk]; rfl
 have h' : ∀ k (hk : k < l.length), (0 ≤ l[k] ∧ l[k] ≤ (l.length : Int) - 1) ∧ ∀ i (hi : i < k), l[i]'(by omega) ≠ l[k] := by
  intro k hk
  have := h k (by simpa using hk)
  unfold ordAt at this
  rw [Bool.and_eq_true, hg k hk, inB_iff, List.all_eq_true] at this
  refine ⟨this.1, fun i hi => ?_⟩
  have := this.2 i (by simpa using hi)
  rw [hg i (by omega)] at this
  simpa using this
 refine ⟨by have := inB_iff.1 hl; omega, ?_, fun n hn => ?_⟩
 ·rw [List.nodup_iff_pairwise_ne, List.pairwise_iff_getElem]
  intro i j hi hj hij
  exact (h' j hj).2 i hij
 ·obtain ⟨k, hk, rfl⟩ := List.getElem_of_mem hn
  exact (h' k hk).1
theorem ord_f (l : List Int) {k : Nat} (hk : k < l.length) (h : ordAt l k = false) : orderB l = false := by
 rw [← Bool.not_eq_true, orderB_iff]
 rintro ⟨_, hn, hb⟩
 have hg : ∀ k (hk : k < l.length), l.getD k 0 = l[k] := fun k hk => by rw [List.getD_eq_getElem?_getD, List.getElem?_eq_getElem hk]; rfl
 have : ordAt l k = true := by
  unfold ordAt
  rw [Bool.and_eq_true, hg k hk]
  refine ⟨inB_iff.2 (hb _ (List.getElem_mem hk)), ?_⟩
  rw [List.all_eq_true]
  intro i hi
  have hik : i < k := by simpa using hi
  rw [hg i (by omega)]
  have := List.pairwise_iff_getElem.1 (List.nodup_iff_pairwise_ne.1 hn) i k (by omega) hk hik
  simpa using this
 rw [this] at h
 cases h
theorem ord_f2 {l : List Int} (h : inB l.length 1 7 = false) : orderB l = false := by rw [orderB, h]; rfl
open Go.RowKit
theorem getD_get (l : List Int) (k : Nat) (hk : k < l.length) : l.getD k 0 = l[k] := by rw [List.getD_eq_getElem?_getD, List.getElem?_eq_getElem hk]; rfl
theorem ordAt_t {l : List Int} {k : Nat} (h1 : inB (l.getD k 0) 0 (l.length - 1) = true) (h2 : (List.range k).all (fun i => !(l.getD i 0 == l.getD k 0)) = true) : ordAt l k = true := by unfold ordAt; rw [h1, h2]; rfl
theorem ordAt_f1 {l : List Int} {k : Nat} (h1 : inB (l.getD k 0) 0 (l.length - 1) = false) : ordAt l k = false := by unfold ordAt; rw [h1]; rfl
theorem ordAt_f2 {l : List Int} {k i : Nat} (hi : i < k) (h1 : l.getD i 0 = l.getD k 0) : ordAt l k = false := by
 unfold ordAt
 rw [show (List.range k).all (fun i => !(l.getD i 0 == l.getD k 0)) = false from by
  rw [List.all_eq_false]; exact ⟨i, by simpa using hi, by rw [h1, beq_self_eq_true]; decide⟩, Bool.and_false]
theorem range_all_succ {p : Nat → Bool} {k : Nat} (h1 : (List.range k).all p = true) (h2 : p k = true) : (List.range (k + 1)).all p = true := by
 rw [List.range_succ, List.all_append, h1]; simp [h2]
def DrewOf (w w' : World) : Prop := ∃ d, w' = w.drewN d
theorem DrewOf.refl (w : World) : DrewOf w w := ⟨0, rfl⟩
theorem DrewOf.drewN {w w' : World} (h : DrewOf w w') (n : Nat) : DrewOf w (w'.drewN n) := by obtain ⟨d, rfl⟩ := h; exact ⟨d + n, by simp⟩
theorem DrewOf.below {w w' : World} (h : DrewOf w w') : Below w.heap.size w w' := by obtain ⟨d, rfl⟩ := h; exact below_drewN (Below.refl _ _) d
set_option maxHeartbeats 2000000 in
theorem specOrderOk_q (v : Value) (l : List Int) (w : World) (h : RdL cInt 1 w v l) :
  Calls Tryz.prog 128 #[v] w fun e w' => e = .returned (.bool (orderB l)) ∧ DrewOf w w' := by
 obtain ⟨A, c, rfl, h1, h2⟩ := h.form
 go_enter Tryz.func128, Tryz.ntmps128
 go_wp2_with fail
 go_loopw [3, 4] (fun i _ wr => ∃ k : Nat, k ≤ l.length ∧ i = .int .i64 k ∧ Hid ((List.range k).all (ordAt l) = true) ∧ DrewOf w wr) (fun i _ _ => l.length - (intOf i).toNat)
 case atStart => exact ⟨0, Nat.zero_le _, rfl, by rfl, DrewOf.refl w⟩
 case round =>
  obtain ⟨k, hk, rfl, hall, hd⟩ := hrel
  have hb := hd.below
  by_cases hlt : k < l.length
  ·have hr := h.below hb
   obtain ⟨g, off, rfl, hg, hc⟩ := hr.cell cInt_len (by omega) hlt
   have k0 := hc 0 _ rfl
   simp only [Nat.add_zero, Nat.mul_one] at k0
   clear hc
   have Hgk := Lib.hid (getD_get l k hlt)
   go_wp2_with (go_at_call 77; refine two (l01In_any _ _ _ _) (fun hc => ?_) (fun hc => ?_))
   ·obtain ⟨wo, rfl⟩ : ∃ wo : World, wo = wr := ⟨_, rfl⟩
    go_loopw [4] (fun i wi => ∃ j : Nat, j ≤ k ∧ i = .int .i64 j ∧ Hid ((List.range j).all (fun i => !(l.getD i 0 == l.getD k 0)) = true) ∧ DrewOf w wi) (fun i _ => k - (intOf i).toNat)
    case atStart => exact ⟨0, Nat.zero_le _, rfl, by rfl, hd⟩
    case round =>
     obtain ⟨j, hj, rfl, hin, hdi⟩ := hrel
     have hbi := hdi.below
     by_cases hltj : j < k
     ·have hri := h.below hbi
      obtain ⟨g1, off1, hA1, hg1, hc1⟩ := hri.cell (k := j) cInt_len (by omega) (by omega)
      injection hA1 with hA1
      injection hA1 with e1 e2
      subst e1 e2
      obtain ⟨g2, off2, hA2, hg2, hc2⟩ := hri.cell (k := k) cInt_len (by omega) hlt
      injection hA2 with hA2
      injection hA2 with e1 e2
      subst e1 e2
      have k1 := hc1 0 _ rfl
      have k2 := hc2 0 _ rfl
      simp only [Nat.add_zero, Nat.mul_one] at k1 k2
      clear hc1 hc2 k0
      have Hgj := Lib.hid (getD_get l j (by omega))
      by_cases he : l[j] = l[k]
      ·have he' : (l[j] == l[k]) = true := by rw [beq_iff_eq]; exact he
       clear he
       go_wp2_with fail
       go_quiet (fail)
       go_wp2_with fail
       go_ret
       exact ⟨ret_bool (ord_f l hlt (ordAt_f2 hltj (by rw [Hgj.out, Hgk.out]; exact beq_iff_eq.1 he'))).symm, by first | exact hdi.drewN _ | exact hdi | exact hd⟩
      ·have he' : (l[j] == l[k]) = false := by rw [beq_eq_false_iff_ne]; exact he
       clear he
       go_wp2_with fail
       go_quiet (fail)
       go_wp2_with fail
       go_roundw
       case rel => exact ⟨j + 1, by omega, by go_num, range_all_succ hin.out (by rw [Hgj.out, Hgk.out, he']; rfl), by first | exact hdi.drewN _ | exact hdi | exact hd⟩
       case measure => simp [intOf]; omega
     ·obtain rfl : j = k := by omega
      go_wp2_with fail
      go_roundw
      case rel => exact ⟨j + 1, by omega, by go_num, range_all_succ hall.out (ordAt_t (by rw [Hgk.out]; exact hc.out) hin.out), by first | exact hdi.drewN _ | exact hdi | exact hd⟩
      case measure => simp [intOf]; omega
   ·go_ret
    exact ⟨ret_bool (ord_f l hlt (ordAt_f1 (by rw [Hgk.out]; exact hc.out))).symm, by first | exact hdi.drewN _ | exact hdi | exact hd⟩
  ·obtain rfl : k = l.length := by omega
   go_wp2_with (go_at_call 77; refine two (l01In_any _ _ _ _) (fun hc => ?_) (fun hc => ?_))
   ·go_ret
    exact ⟨ret_bool (ord_all l hall.out hc.out).symm, by first | exact hdi.drewN _ | exact hdi | exact hd⟩
   ·go_ret
    exact ⟨ret_bool (ord_f2 hc.out).symm, by first | exact hdi.drewN _ | exact hdi | exact hd⟩
theorem specOrderOk_any (v : Value) (l : List Int) (w : World) (h : RdL cInt 1 w v l) :
  Calls Tryz.prog 128 #[v] w fun e w' => e = .returned (.bool (orderB l)) ∧ Below w.heap.size w w' :=
 (specOrderOk_q v l w h).mono fun _ _ ⟨he, hd⟩ => ⟨he, hd.below⟩
open Go.RowKit
theorem row_flat (l : List Int) : l.flatMap cInt = l.map (fun n => Value.int .i64 n) := by
 induction l with
 | nil => rfl
 | cons a l ih => rw [List.flatMap_cons, ih]; rfl
theorem row_get (l : List Int) (k : Nat) (h : k < l.length) : (l.flatMap cInt)[k]? = some (.int .i64 l[k]) := by
 rw [row_flat, List.getElem?_map, List.getElem?_eq_getElem h]; rfl
theorem row_set (l : List Int) (k : Nat) (x : Int) : (l.flatMap cInt).set k (.int .i64 x) = (l.set k x).flatMap cInt := by
 rw [row_flat, row_flat, List.map_set]
theorem row_made (n : Nat) : (madeCells (Value.int .i64 0).cells n).toList = (List.replicate n (0 : Int)).flatMap cInt := by
 rw [row_flat]
 apply List.ext_getElem
 ·simp [madeCells]
 ·intro i h1 h2
  simp [madeCells, Value.cells, Nat.mod_one]
theorem row_stored {w : World} {B g c n : Nat} {l : List Int} (h : w.ownsRow B 3 1 (.slice (some ⟨g, 0, none⟩) n c) n (l.flatMap cInt)) (k : Nat) (x : Int) :
  (w.setCell ⟨g, k, none⟩ (.int .i64 x)).ownsRow B 3 1 (.slice (some ⟨g, 0, none⟩) n c) n ((l.set k x).flatMap cInt) := by
 have := (h.stored k (.int .i64 x)).1
 rwa [row_set] at this
theorem row_len {w : World} {B n : Nat} {e : TypeId} {v : Value} {l : List Int} (h : w.ownsRow B e 1 v n (l.flatMap cInt)) : l.length = n := by
 have := h.1
 rw [row_flat, List.length_map] at this
 omega
theorem row_cell {w : World} {B g c n : Nat} {l : List Int} (h : w.ownsRow B 3 1 (.slice (some ⟨g, 0, none⟩) n c) n (l.flatMap cInt)) {k : Nat} (hk : k < l.length) : w.cell? ⟨g, k, none⟩ = some (.int .i64 l[k]) :=
 (h.cellAt k (by have := h.1; have := row_len h; omega)).trans (row_get l k hk)
open Go.RowKit
def RdPlayer (w : World) (x0 : Value) (d0 : List Int) : Prop := RdL cInt 1 w x0 d0
def OwPlayer (w : World) (S : List Nat) (x0 : Value) (d0 : List Int) : Prop := ∃ S0, S = S0 ∧ OwL 3 cInt 1 w (S0) x0 d0
def MkPlayer (w : World) (S : List Nat) (x0 : Value) (d0 : List Int) (m : Int) : Prop := ∃ S0, S = S0 ∧ MkL 3 mkInt 1 w (S0) x0 d0.length m
section
variable {w w' : World} {S T : List Nat} {x0 : Value} {d0 : List Int} {m : Int}
theorem RdPlayer.below (h : RdPlayer w x0 d0) (hb : Below w.heap.size w w') : RdPlayer w' x0 d0 := by
 have h0 : RdL cInt 1 w x0 d0 := h
 exact h0.below hb
theorem RdPlayer.forms (h : RdPlayer w x0 d0) : (∃ A c, x0 = .slice A d0.length c) := by
 have h0 : RdL cInt 1 w x0 d0 := h
 have f0 : (∃ A c, x0 = .slice A d0.length c) := by obtain ⟨A, c, e, _⟩ := h0.form; exact ⟨A, c, e⟩
 exact f0
theorem OwPlayer.rd (h : OwPlayer w S x0 d0) : RdPlayer w x0 d0 := by
 obtain ⟨S0, _, h0⟩ := h
 exact h0.rd
theorem OwPlayer.below (h : OwPlayer w S x0 d0) (hb : Below w.heap.size w w') : OwPlayer w' S x0 d0 := by
 obtain ⟨S0, e, h0⟩ := h
 exact ⟨S0, e, h0.below hb⟩
theorem OwPlayer.chg (h : OwPlayer w S x0 d0) (hc : Chg T w w') (hn : ∀ b ∈ S, b ∉ T) : OwPlayer w' S x0 d0 := by
 obtain ⟨S0, e, h0⟩ := h
 exact ⟨S0, e, h0.chg hc (fun b hb => hn b (by rw [e]; first | exact hb | exact List.mem_append_left _ hb | exact List.mem_append_right _ hb | exact List.mem_append_left _ (List.mem_append_left _ hb) | exact List.mem_append_left _ (List.mem_append_right _ hb) | exact List.mem_append_right _ (List.mem_append_left _ hb) | exact List.mem_append_right _ (List.mem_append_right _ hb)))⟩
theorem MkPlayer.below (h : MkPlayer w S x0 d0 m) (hb : Below w.heap.size w w') : MkPlayer w' S x0 d0 m := by
 obtain ⟨S0, e, h0⟩ := h
 exact ⟨S0, e, h0.below hb⟩
theorem MkPlayer.chg (h : MkPlayer w S x0 d0 m) (hc : Chg T w w') (hn : ∀ b ∈ S, b ∉ T) : MkPlayer w' S x0 d0 m := by
 obtain ⟨S0, e, h0⟩ := h
 exact ⟨S0, e, h0.chg hc (fun b hb => hn b (by rw [e]; first | exact hb | exact List.mem_append_left _ hb | exact List.mem_append_right _ hb | exact List.mem_append_left _ (List.mem_append_left _ hb) | exact List.mem_append_left _ (List.mem_append_right _ hb) | exact List.mem_append_right _ (List.mem_append_left _ hb) | exact List.mem_append_right _ (List.mem_append_right _ hb)))⟩
end
end Go.Proofs.YteidpejjjphecaaGreatDoor
