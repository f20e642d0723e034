/- Contracts: TiltArm. Written by a program (gen_k12.py). -/
import Derived.Test.YtkejgogheonakaaK1
import Derived.Test.YtkejgogheonakaaI3
import Derived.Deep.DeepCutAuto
namespace Go.Proofs.Ytkejgogheonakaa
open Go.RowKit
def tiltOk (d : List Int) (a b : Int) : Bool := ((inB a 0 (d.length - 1) && inB b (-50) 50) && decide (d.length ≤ 8)) && allB (-50) 50 d
def tiltN (d : List Int) (i : Nat) (b : Int) : List Int := (d.set i (d.getD i 0 + b)).set (d.length - 1 - i) (d.getD (d.length - 1 - i) 0 - b)
def tiltF (d : List Int) (a b : Int) : List Int × Bool :=
  if tiltOk d a b = true then (if d.length - 1 - a.toNat = a.toNat then (d, true) else if allB (-50) 50 (tiltN d a.toNat b) = true then (tiltN d a.toNat b, true) else (d, false)) else (d, false)
def RetTilt (ht : Int) (r : List Int × Bool) (d2 : List RCord) : World → Ending → World → Prop := RetControl ht r.2 r.1 d2
theorem tilt_no {ht : Int} {d : List Int} {a b : Int} {d2 : List RCord} {w w' : World} {e : Ending} (h : tiltOk d a b = false) (hr : RetControl ht false d d2 w e w') : RetTilt ht (tiltF d a b) d2 w e w' := by rw [tiltF, if_neg (by rw [h]; simp)]; exact hr
theorem tilt_eq {ht : Int} {d : List Int} {i : Nat} {b : Int} {d2 : List RCord} {w w' : World} {e : Ending} (h : tiltOk d i b = true) (hi : d.length - 1 - i = i) (hr : RetControl ht true d d2 w e w') : RetTilt ht (tiltF d i b) d2 w e w' := by
  rw [tiltF, if_pos h, show ((i : Int)).toNat = i from rfl, if_pos hi]; exact hr
theorem tilt_t {ht : Int} {d : List Int} {i : Nat} {b : Int} {d2 : List RCord} {w w' : World} {e : Ending} (h : tiltOk d i b = true) (hi : d.length - 1 - i ≠ i) (ha : allB (-50) 50 (tiltN d i b) = true) (hr : RetControl ht true (tiltN d i b) d2 w e w') : RetTilt ht (tiltF d i b) d2 w e w' := by
  rw [tiltF, if_pos h, show ((i : Int)).toNat = i from rfl, if_neg hi, if_pos ha]; exact hr
theorem tilt_f {ht : Int} {d : List Int} {i : Nat} {b : Int} {d2 : List RCord} {w w' : World} {e : Ending} (h : tiltOk d i b = true) (hi : d.length - 1 - i ≠ i) (ha : allB (-50) 50 (tiltN d i b) = false) (hr : RetControl ht false d d2 w e w') : RetTilt ht (tiltF d i b) d2 w e w' := by
  rw [tiltF, if_pos h, show ((i : Int)).toNat = i from rfl, if_neg hi, if_neg (by rw [ha]; simp)]; exact hr
theorem tilt_ok {d : List Int} {a b : Int} (h : tiltOk d a b = true) : inB a 0 (d.length - 1) = true ∧ inB b (-50) 50 = true ∧ d.length ≤ 8 ∧ allB (-50) 50 d = true := by
  rw [tiltOk, Bool.and_eq_true, Bool.and_eq_true, Bool.and_eq_true, decide_eq_true_iff] at h
  exact ⟨h.1.1.1, h.1.1.2, h.1.2, h.2⟩
theorem tilt_f1 {d : List Int} {a b : Int} (h : inB a 0 (d.length - 1) = false) : tiltOk d a b = false := by rw [tiltOk, h]; rfl
theorem tilt_f2 {d : List Int} {a b : Int} (h : inB b (-50) 50 = false) : tiltOk d a b = false := by rw [tiltOk, h, Bool.and_false]; rfl
theorem tilt_f3 {d : List Int} {a b : Int} (h : ¬ d.length ≤ 8) : tiltOk d a b = false := by rw [tiltOk, decide_eq_false h, Bool.and_false]; rfl
theorem tilt_f4 {d : List Int} {a b : Int} (h : allB (-50) 50 d = false) : tiltOk d a b = false := by rw [tiltOk, h, Bool.and_false]
theorem tilt_all {d : List Int} {a b : Int} (h1 : inB a 0 (d.length - 1) = true) (h2 : inB b (-50) 50 = true) (h3 : d.length ≤ 8) (h4 : allB (-50) 50 d = true) : tiltOk d a b = true := by rw [tiltOk, h1, h2, h4, decide_eq_true h3]; rfl
theorem tiltN_len (d : List Int) (i : Nat) (b : Int) : (tiltN d i b).length = d.length := by simp [tiltN]
theorem allB_at {a b : Int} {l : List Int} (h : allB a b l = true) {k : Nat} (hk : k < l.length) : a ≤ l[k] ∧ l[k] ≤ b := inB_iff.1 (List.all_eq_true.1 h _ (List.getElem_mem hk))
theorem flat_setI (l : List Int) (k : Nat) (x : Int) : (l.flatMap cInt).set k (.int .i64 x) = (l.set k x).flatMap cInt := by
  induction l generalizing k with
  | nil => rfl
  | cons a l ih =>
    cases k with
    | zero => rfl
    | succ k =>
      rw [List.flatMap_cons, List.set_cons_succ, List.flatMap_cons]
      show (Value.int .i64 a :: (l.flatMap cInt)).set (k + 1) _ = Value.int .i64 a :: ((l.set k x).flatMap cInt)
      rw [List.set_cons_succ, ih]
/-- a row of numbers after a store -/
theorem own_setI {w : World} {B g c : Nat} {l : List Int} (h : w.ownsRow B 3 1 (.slice (some ⟨g, 0, none⟩) l.length c) l.length (l.flatMap cInt)) (k : Nat) (x : Int) :
    (w.setCell ⟨g, k, none⟩ (.int .i64 x)).ownsRow B 3 1 (.slice (some ⟨g, 0, none⟩) (l.set k x).length c) (l.set k x).length ((l.set k x).flatMap cInt) := by
  have := (h.stored k (.int .i64 x)).1
  rw [flat_setI] at this
  rw [List.length_set]
  exact this
set_option maxHeartbeats 8000000 in
set_option maxRecDepth 100000 in
theorem implTilt_no (ht a b : Int) (v1 v2 : Value) (d1 : List Int) (d2 : List RCord) (w : World) (h : RdControl w v1 v2 d1 d2) (hsz : szControl d1 d2 ≤ 1048576) (hno : tiltOk d1 a b = false) :
    Calls Try.prog 29 #[.agg #[.int .i64 ht, v1, v2], .int .i64 a, .int .i64 b] w (RetTilt ht (tiltF d1 a b) d2 w) := by
  obtain ⟨⟨A1, n1, rfl⟩, ⟨A2, n2, rfl⟩⟩ := h.forms
  have hdl : d1.length ≤ 1048576 := by unfold szControl at hsz; omega
  have Hno := Lib.hid hno
  clear hno
  go_enter Try.func29, Try.ntmps29
  go_wp2_with fail
  refine (controlCopied_any ht _ _ d1 d2 _ (h.below (by (repeat' (first | (with_reducible exact Below.refl _ _) | (with_reducible assumption) | (with_reducible refine Below.setCell ?_ (by first | omega | (simp; omega) | (simp; done)) _) | (with_reducible refine Below.alloc ?_ (by first | omega | (simp; omega) | (simp; done)) _) | (with_reducible refine Below.drew ?_) | (with_reducible refine below_drewN ?_ _))))) hsz).mono ?_
  rintro e W1 ⟨x1, x2, S, rfl, ow, f1, q⟩
  obtain ⟨⟨B1, k1, rfl⟩, ⟨B2, k2, rfl⟩⟩ := ow.rd.forms
  have Lc : Loc W1 (w.heap.size) [.int .i64 ht, .slice A1 d1.length n1, .slice A2 d2.length n2] := by have := ((Loc.new w #[.int .i64 ht, .slice A1 d1.length n1, .slice A2 d2.length n2] 34).alloc _).below q; simpa using this
  have Lr : Loc W1 (w.heap.size + 1) [.int .i64 0, .slice none 0 0, .slice none 0 0] := by have := (Loc.new (w.alloc (.cells #[.int .i64 ht, .slice A1 d1.length n1, .slice A2 d2.length n2] 34)) #[.int .i64 0, .slice none 0 0, .slice none 0 0] 34).below q; simpa using this
  have hb : Below w.heap.size w W1 := Below.trans (by (repeat' (first | (with_reducible exact Below.refl _ _) | (with_reducible assumption) | (with_reducible refine Below.setCell ?_ (by first | omega | (simp; omega) | (simp; done)) _) | (with_reducible refine Below.alloc ?_ (by first | omega | (simp; omega) | (simp; done)) _) | (with_reducible refine Below.drew ?_) | (with_reducible refine below_drewN ?_ _)))) (q.mono (by simp <;> omega))
  have hz0 : w.heap.size + 1 + 1 ≤ W1.heap.size := by have := q.size; simp at this; omega
  have hlow : w.heap.size + 1 + 1 ≤ (((w.alloc (.cells #[.int .i64 ht, .slice A1 d1.length n1, .slice A2 d2.length n2] 34)).alloc (.cells #[.int .i64 0, .slice none 0 0, .slice none 0 0] 34))).heap.size := by first | exact Nat.le_refl _ | (simp; done) | (simp; omega) | omega
  have FK := Lib.hid (fresh_mono f1 hlow (Nat.le_refl _))
  have DK : Hid (∀ x ∈ S, x ∉ [w.heap.size, w.heap.size + 1]) := (fun x hx => by have := (FK.out.2 x hx).1; simp; omega)
  have OK := Lib.hid ow
  clear ow f1 hlow
  clear q
  go_upto_region 2 with (fail)
  replace Lc : Loc (W1.alloc (.cells #[.int .i64 ht, .slice B1 d1.length k1, .slice B2 d2.length k2] 34)) (w.heap.size) [.int .i64 ht, .slice A1 d1.length n1, .slice A2 d2.length n2] := Lc.alloc _
  replace Lr : Loc (W1.alloc (.cells #[.int .i64 ht, .slice B1 d1.length k1, .slice B2 d2.length k2] 34)) (w.heap.size + 1) [.int .i64 0, .slice none 0 0, .slice none 0 0] := Lr.alloc _
  obtain ⟨go, hgo⟩ : ∃ g, W1.heap.size = g := ⟨_, rfl⟩
  have Lo : Loc (W1.alloc (.cells #[.int .i64 ht, .slice B1 d1.length k1, .slice B2 d2.length k2] 34)) W1.heap.size [.int .i64 ht, .slice B1 d1.length k1, .slice B2 d2.length k2] := Loc.new W1 #[.int .i64 ht, .slice B1 d1.length k1, .slice B2 d2.length k2] 34
  rw [hgo] at Lo
  have OK' := Lib.hid (OK.out.below (w' := (W1.alloc (.cells #[.int .i64 ht, .slice B1 d1.length k1, .slice B2 d2.length k2] 34))) ((Below.refl _ _).alloc (Nat.le_refl _) _))
  clear OK; have OK := OK'; clear OK'
  have DK' : Hid (∀ x ∈ S, x ∉ [w.heap.size, w.heap.size + 1, go]) := (fun x hx => by have := DK.out x hx; have := (FK.out.2 x hx).2; simp at *; omega)
  clear DK; have DK := DK'; clear DK'
  have FK' := Lib.hid (fresh_mono (w' := (W1.alloc (.cells #[.int .i64 ht, .slice B1 d1.length k1, .slice B2 d2.length k2] 34))) FK.out (Nat.le_refl _) (by simp))
  clear FK; have FK := FK'; clear FK'
  replace hb : Below w.heap.size w (W1.alloc (.cells #[.int .i64 ht, .slice B1 d1.length k1, .slice B2 d2.length k2] 34)) := hb.alloc hb.size _
  have hlto : go < (W1.alloc (.cells #[.int .i64 ht, .slice B1 d1.length k1, .slice B2 d2.length k2] 34)).heap.size := by simp; omega
  have hne_c_o : w.heap.size < go := by omega
  have hne_r_o : w.heap.size + 1 < go := by omega
  generalize W1.alloc (.cells #[.int .i64 ht, .slice B1 d1.length k1, .slice B2 d2.length k2] 34) = W2 at *
  rw [hgo]
  clear hgo
  have c1 := (Lc 1 _ rfl).1
  have o0 := (Lo 0 _ rfl).1
  have o1 := (Lo 1 _ rfl).1
  have o2 := (Lo 2 _ rfl).1
  have r0 := (Lr 0 _ rfl).1
  have rf0 := (Lr 0 _ rfl).2
  have r1 := (Lr 1 _ rfl).1
  have rf1 := (Lr 1 _ rfl).2
  have r2 := (Lr 2 _ rfl).1
  have rf2 := (Lr 2 _ rfl).2
  by_cases h8 : d1.length ≤ 8
  · skip
    go_wp2_with (first | (go_at_call 73; refine twoI (within_any _ _ _ _) (fun hc hm hm' => ?_) (fun hc => ?_)) | (go_at_call 78; refine two (allWithin_any _ d1 _ _ _ ((h.below hb).1)) (fun hd => absurd (tilt_all (Hid.out (by assumption)) (Hid.out (by assumption)) h8 hd.out) (by rw [Hno.out]; simp)) (fun hd => ?_)))
    all_goals
      refine bodyPost_ret (v := .tuple #[.agg #[.int .i64 ht, .slice B1 d1.length k1, .slice B2 d2.length k2], .bool false]) (by simp [results, Try.results29, go_sem, *]) rfl (tilt_no Hno.out ⟨_, _, S, rfl, ?_, ?_, ?_⟩)
      · exact OK.out.chg (T := [w.heap.size + 1]) (by repeat' (first | (with_reducible exact Chg.refl _ _) | (with_reducible refine chg_set ?_ (by simp)))) (fun x hx hx' => DK.out x hx (by simp at hx'; subst hx'; simp))
      · exact fresh_mono FK.out (by omega) (by simp)
      · exact Below.chg hb (S := [w.heap.size + 1]) (by repeat' (first | (with_reducible exact Chg.refl _ _) | (with_reducible refine chg_set ?_ (by simp)))) hb.size (fun x hx => by simp at hx; omega)
  · skip
    go_wp2_with (first | (go_at_call 73; refine twoI (within_any _ _ _ _) (fun hc hm hm' => ?_) (fun hc => ?_)) | (go_at_call 78; refine two (allWithin_any _ d1 _ _ _ ((h.below hb).1)) (fun hd => absurd (tilt_all (Hid.out (by assumption)) (Hid.out (by assumption)) h8 hd.out) (by rw [Hno.out]; simp)) (fun hd => ?_)))
    all_goals
      refine bodyPost_ret (v := .tuple #[.agg #[.int .i64 ht, .slice B1 d1.length k1, .slice B2 d2.length k2], .bool false]) (by simp [results, Try.results29, go_sem, *]) rfl (tilt_no Hno.out ⟨_, _, S, rfl, ?_, ?_, ?_⟩)
      · exact OK.out.chg (T := [w.heap.size + 1]) (by repeat' (first | (with_reducible exact Chg.refl _ _) | (with_reducible refine chg_set ?_ (by simp)))) (fun x hx hx' => DK.out x hx (by simp at hx'; subst hx'; simp))
      · exact fresh_mono FK.out (by omega) (by simp)
      · exact Below.chg hb (S := [w.heap.size + 1]) (by repeat' (first | (with_reducible exact Chg.refl _ _) | (with_reducible refine chg_set ?_ (by simp)))) hb.size (fun x hx => by simp at hx; omega)
theorem getD_at {l : List Int} {k : Nat} (h : k < l.length) : l.getD k 0 = l[k] := by rw [List.getD_eq_getElem?_getD, List.getElem?_eq_getElem h]; rfl
theorem flat_getI (l : List Int) (k : Nat) (h : k < l.length) : (l.flatMap cInt)[k]? = some (.int .i64 l[k]) := by
  have := get_flat cInt_len l k h 0 (by omega)
  rw [Nat.mul_one, Nat.add_zero] at this
  exact this
theorem within_t {n a b : Int} {w : World} (h : inB n a b = true) : Calls Try.prog 73 #[.int .i64 n, .int .i64 a, .int .i64 b] w fun e w' => e = .returned (.bool true) ∧ w = w' := h ▸ within_any n a b w
theorem allWithin_t {v : Value} {l : List Int} {a b : Int} {w : World} (hr : RdL cInt 1 w v l) (h : allB a b l = true) : Calls Try.prog 78 #[v, .int .i64 a, .int .i64 b] w fun e w' => e = .returned (.bool true) ∧ w = w' := h ▸ allWithin_any v l a b w hr
set_option maxHeartbeats 8000000 in
set_option maxRecDepth 100000 in
theorem implTilt_yes (ht b : Int) (i : Nat) (v1 v2 : Value) (d1 : List Int) (d2 : List RCord) (w : World) (h : RdControl w v1 v2 d1 d2) (hsz : szControl d1 d2 ≤ 1048576) (hok : tiltOk d1 i b = true) :
    Calls Try.prog 29 #[.agg #[.int .i64 ht, v1, v2], .int .i64 i, .int .i64 b] w (RetTilt ht (tiltF d1 i b) d2 w) := by
  obtain ⟨⟨A1, n1, rfl⟩, ⟨A2, n2, rfl⟩⟩ := h.forms
  have hdl : d1.length ≤ 1048576 := by unfold szControl at hsz; omega
  obtain ⟨hw1, hw2, h8, hw4⟩ := tilt_ok hok
  have hil := inB_iff.1 hw1
  have hi : i < d1.length := by omega
  have hi2 : d1.length - 1 - i < d1.length := by omega
  have hbb := inB_iff.1 hw2
  obtain ⟨hb1, hb2⟩ := hbb
  have Hok := Lib.hid hok
  replace hw1 := Lib.hid hw1
  replace hw2 := Lib.hid hw2
  have hvi := allB_at hw4 hi
  have hvj := allB_at hw4 hi2
  replace hw4 := Lib.hid hw4
  clear hok hil
  go_enter Try.func29, Try.ntmps29
  go_wp2_with fail
  refine (controlCopied_any ht _ _ d1 d2 _ (h.below (by (repeat' (first | (with_reducible exact Below.refl _ _) | (with_reducible assumption) | (with_reducible refine Below.setCell ?_ (by first | omega | (simp; omega) | (simp; done)) _) | (with_reducible refine Below.alloc ?_ (by first | omega | (simp; omega) | (simp; done)) _) | (with_reducible refine Below.drew ?_) | (with_reducible refine below_drewN ?_ _))))) hsz).mono ?_
  rintro e W1 ⟨x1, x2, S, rfl, ow, f1, q⟩
  obtain ⟨⟨B1, k1, rfl⟩, ⟨B2, k2, rfl⟩⟩ := ow.rd.forms
  have Lc : Loc W1 (w.heap.size) [.int .i64 ht, .slice A1 d1.length n1, .slice A2 d2.length n2] := by have := ((Loc.new w #[.int .i64 ht, .slice A1 d1.length n1, .slice A2 d2.length n2] 34).alloc _).below q; simpa using this
  have Lr : Loc W1 (w.heap.size + 1) [.int .i64 0, .slice none 0 0, .slice none 0 0] := by have := (Loc.new (w.alloc (.cells #[.int .i64 ht, .slice A1 d1.length n1, .slice A2 d2.length n2] 34)) #[.int .i64 0, .slice none 0 0, .slice none 0 0] 34).below q; simpa using this
  have hb : Below w.heap.size w W1 := Below.trans (by (repeat' (first | (with_reducible exact Below.refl _ _) | (with_reducible assumption) | (with_reducible refine Below.setCell ?_ (by first | omega | (simp; omega) | (simp; done)) _) | (with_reducible refine Below.alloc ?_ (by first | omega | (simp; omega) | (simp; done)) _) | (with_reducible refine Below.drew ?_) | (with_reducible refine below_drewN ?_ _)))) (q.mono (by simp <;> omega))
  have hz0 : w.heap.size + 1 + 1 ≤ W1.heap.size := by have := q.size; simp at this; omega
  have hlow : w.heap.size + 1 + 1 ≤ (((w.alloc (.cells #[.int .i64 ht, .slice A1 d1.length n1, .slice A2 d2.length n2] 34)).alloc (.cells #[.int .i64 0, .slice none 0 0, .slice none 0 0] 34))).heap.size := by first | exact Nat.le_refl _ | (simp; done) | (simp; omega) | omega
  have FK := Lib.hid (fresh_mono f1 hlow (Nat.le_refl _))
  have DK : Hid (∀ x ∈ S, x ∉ [w.heap.size, w.heap.size + 1]) := (fun x hx => by have := (FK.out.2 x hx).1; simp; omega)
  have OK := Lib.hid ow
  clear ow f1 hlow
  clear q
  go_upto_region 2 with (fail)
  replace Lc : Loc (W1.alloc (.cells #[.int .i64 ht, .slice B1 d1.length k1, .slice B2 d2.length k2] 34)) (w.heap.size) [.int .i64 ht, .slice A1 d1.length n1, .slice A2 d2.length n2] := Lc.alloc _
  replace Lr : Loc (W1.alloc (.cells #[.int .i64 ht, .slice B1 d1.length k1, .slice B2 d2.length k2] 34)) (w.heap.size + 1) [.int .i64 0, .slice none 0 0, .slice none 0 0] := Lr.alloc _
  obtain ⟨go, hgo⟩ : ∃ g, W1.heap.size = g := ⟨_, rfl⟩
  have Lo : Loc (W1.alloc (.cells #[.int .i64 ht, .slice B1 d1.length k1, .slice B2 d2.length k2] 34)) W1.heap.size [.int .i64 ht, .slice B1 d1.length k1, .slice B2 d2.length k2] := Loc.new W1 #[.int .i64 ht, .slice B1 d1.length k1, .slice B2 d2.length k2] 34
  rw [hgo] at Lo
  have OK' := Lib.hid (OK.out.below (w' := (W1.alloc (.cells #[.int .i64 ht, .slice B1 d1.length k1, .slice B2 d2.length k2] 34))) ((Below.refl _ _).alloc (Nat.le_refl _) _))
  clear OK; have OK := OK'; clear OK'
  have DK' : Hid (∀ x ∈ S, x ∉ [w.heap.size, w.heap.size + 1, go]) := (fun x hx => by have := DK.out x hx; have := (FK.out.2 x hx).2; simp at *; omega)
  clear DK; have DK := DK'; clear DK'
  have FK' := Lib.hid (fresh_mono (w' := (W1.alloc (.cells #[.int .i64 ht, .slice B1 d1.length k1, .slice B2 d2.length k2] 34))) FK.out (Nat.le_refl _) (by simp))
  clear FK; have FK := FK'; clear FK'
  replace hb : Below w.heap.size w (W1.alloc (.cells #[.int .i64 ht, .slice B1 d1.length k1, .slice B2 d2.length k2] 34)) := hb.alloc hb.size _
  have hlto : go < (W1.alloc (.cells #[.int .i64 ht, .slice B1 d1.length k1, .slice B2 d2.length k2] 34)).heap.size := by simp; omega
  have hne_c_o : w.heap.size < go := by omega
  have hne_r_o : w.heap.size + 1 < go := by omega
  generalize W1.alloc (.cells #[.int .i64 ht, .slice B1 d1.length k1, .slice B2 d2.length k2] 34) = W2 at *
  rw [hgo]
  clear hgo
  have c1 := (Lc 1 _ rfl).1
  have o0 := (Lo 0 _ rfl).1
  have o1 := (Lo 1 _ rfl).1
  have o2 := (Lo 2 _ rfl).1
  have r0 := (Lr 0 _ rfl).1
  have rf0 := (Lr 0 _ rfl).2
  have r1 := (Lr 1 _ rfl).1
  have rf1 := (Lr 1 _ rfl).2
  have r2 := (Lr 2 _ rfl).1
  have rf2 := (Lr 2 _ rfl).2
  go_upto_region 5 with (first | (go_at_call 73; refine (within_t (by first | exact hw1.out | exact hw2.out)).mono ?_; rintro e w' ⟨rfl, rfl⟩) | (go_at_call 78; refine (allWithin_t ((h.below hb).1) hw4.out).mono ?_; rintro e w' ⟨rfl, rfl⟩))
  clear c1 o0 o1 o2 r0 rf0 r1 rf1 r2 rf2
  by_cases hij : d1.length - 1 - i = i
  · have hne : ((d1.length : Int) - 1 - i != i) = false := by rw [bne_eq_false_iff_eq]; omega
    have Hij := Lib.hid hij
    clear hij
    have o0 := (Lo 0 _ rfl).1
    have o1 := (Lo 1 _ rfl).1
    have o2 := (Lo 2 _ rfl).1
    have r0 := (Lr 0 _ rfl).1
    have rf0 := (Lr 0 _ rfl).2
    have r1 := (Lr 1 _ rfl).1
    have rf1 := (Lr 1 _ rfl).2
    have r2 := (Lr 2 _ rfl).1
    have rf2 := (Lr 2 _ rfl).2
    go_wp2_with (go_at_call 78; refine (allWithin_t (OK.out.rd.1) hw4.out).mono ?_; rintro e w' ⟨rfl, rfl⟩)
    refine bodyPost_ret (v := .tuple #[.agg #[.int .i64 ht, .slice B1 d1.length k1, .slice B2 d2.length k2], .bool true]) (by simp [results, Try.results29, go_sem, *]) rfl (tilt_eq Hok.out Hij.out ⟨_, _, S, rfl, ?_, ?_, ?_⟩)
    · exact OK.out.chg (T := [w.heap.size + 1]) (by repeat' (first | (with_reducible exact Chg.refl _ _) | (with_reducible refine chg_set ?_ (by simp)))) (fun x hx hx' => DK.out x hx (by simp at hx'; subst hx'; simp))
    · exact fresh_mono FK.out (by omega) (by simp)
    · exact Below.chg hb (S := [w.heap.size + 1]) (by repeat' (first | (with_reducible exact Chg.refl _ _) | (with_reducible refine chg_set ?_ (by simp)))) hb.size (fun x hx => by simp at hx; omega)
  · have hne : ((d1.length : Int) - 1 - i != i) = true := by rw [bne_iff_ne]; omega
    obtain ⟨SK1, SK2, eK, oK, pK⟩ := OK.out
    have FKx := FK.out
    have DKx := DK.out
    rw [eK] at FKx DKx
    have OK1 := Lib.hid oK
    have OK2 := Lib.hid pK
    have FK1 := Lib.hid (fresh_left FKx)
    have FK2 := Lib.hid (fresh_right FKx)
    have DK1 : Hid (∀ x ∈ SK1, x ∉ [w.heap.size, w.heap.size + 1, go]) := (fun x hx => DKx x (List.mem_append_left _ hx))
    have DK2 : Hid (∀ x ∈ SK2, x ∉ [w.heap.size, w.heap.size + 1, go]) := (fun x hx => DKx x (List.mem_append_right _ hx))
    have JK : Hid (∀ x ∈ SK1, x ∉ SK2) := (nodup2 FKx.1).2.2.1
    clear OK FK DK FKx DKx oK pK
    obtain ⟨gB, capB, hv⟩ := own_form OK1.out.1 (by omega)
    injection hv with hv1 hv2 hv3
    subst hv1 hv3
    have hS1 : SK1 = [gB] := OK1.out.2
    have hown := OK1.out.1
    have ci := (hown.cellAt i (by have := hown.1; omega)).trans (flat_getI d1 i hi)
    have cj := (hown.cellAt (d1.length - 1 - i) (by have := hown.1; omega)).trans (flat_getI d1 (d1.length - 1 - i) hi2)
    have fi := hown.frozenAt i
    have fj := hown.frozenAt (d1.length - 1 - i)
    have hgi : i ≠ d1.length - 1 - i := fun e => hij e.symm
    generalize hdi : d1[i] = di at *
    generalize hdj : d1[d1.length - 1 - i] = dj at *
    have Hdi := Lib.hid hdi
    have Hdj := Lib.hid hdj
    have Hown := Lib.hid hown
    have Hij := Lib.hid hij
    have HS1 := Lib.hid hS1
    clear hdi hdj hown hij hS1 hv2
    have hg1 : ¬ gB = go := fun e => DK1.out gB (by rw [HS1.out]; simp) (by simp [e])
    have hg2 : ¬ go = gB := fun e => hg1 e.symm
    have o1 := (Lo 1 _ rfl).1
    go_upto_region 8 with (fail)
    clear o1
    have hch : Chg [gB] W2 ((W2.setCell ⟨gB, i, none⟩ (.int .i64 (di + b))).setCell ⟨gB, d1.length - 1 - i, none⟩ (.int .i64 (dj - b))) := by repeat' (first | (with_reducible exact Chg.refl _ _) | (with_reducible refine chg_set ?_ (by simp)))
    replace Lc := Lc.chg hch (fun hm => DK1.out gB (by rw [HS1.out]; simp) (by simp at hm; subst hm; simp))
    replace Lr := Lr.chg hch (fun hm => DK1.out gB (by rw [HS1.out]; simp) (by simp at hm; subst hm; simp))
    replace Lo := Lo.chg hch (fun hm => DK1.out gB (by rw [HS1.out]; simp) (by simp at hm; subst hm; simp))
    have OK2' := Lib.hid (OK2.out.chg hch (fun x hx hx' => by simp at hx'; subst hx'; exact JK.out _ (by rw [HS1.out]; simp) hx))
    have FK1' := Lib.hid (fresh_mono (w' := ((W2.setCell ⟨gB, i, none⟩ (.int .i64 (di + b))).setCell ⟨gB, d1.length - 1 - i, none⟩ (.int .i64 (dj - b)))) FK1.out (Nat.le_refl _) hch.size)
    have FK2' := Lib.hid (fresh_mono (w' := ((W2.setCell ⟨gB, i, none⟩ (.int .i64 (di + b))).setCell ⟨gB, d1.length - 1 - i, none⟩ (.int .i64 (dj - b)))) FK2.out (Nat.le_refl _) hch.size)
    have on : (((W2.setCell ⟨gB, i, none⟩ (.int .i64 (di + b))).setCell ⟨gB, d1.length - 1 - i, none⟩ (.int .i64 (dj - b)))).ownsRow 0 3 1 (.slice (some ⟨gB, 0, none⟩) d1.length k1) (tiltN d1 i b).length ((tiltN d1 i b).flatMap cInt) := by
      have h2 := own_setI (own_setI Hown.out i (di + b)) (d1.length - 1 - i) (dj - b)
      rw [List.length_set, List.length_set] at h2
      rw [tiltN_len]; unfold tiltN; rw [getD_at hi, getD_at (by omega : d1.length - 1 - i < d1.length), Hdi.out, Hdj.out]; exact h2
    have OK1' : Hid (OwL 3 cInt 1 ((W2.setCell ⟨gB, i, none⟩ (.int .i64 (di + b))).setCell ⟨gB, d1.length - 1 - i, none⟩ (.int .i64 (dj - b))) SK1 (.slice (some ⟨gB, 0, none⟩) d1.length k1) (tiltN d1 i b)) := ⟨on, HS1.out⟩
    replace hb : Below w.heap.size w ((W2.setCell ⟨gB, i, none⟩ (.int .i64 (di + b))).setCell ⟨gB, d1.length - 1 - i, none⟩ (.int .i64 (dj - b))) := Below.chg hb hch hb.size (by have := (FK1.out.2 gB (by rw [HS1.out]; simp)).1; simp; omega)
    have hzt := hch.size
    clear OK1 OK2 FK1 FK2 on hch ci cj fi fj Hown
    generalize (W2.setCell ⟨gB, i, none⟩ (.int .i64 (di + b))).setCell ⟨gB, d1.length - 1 - i, none⟩ (.int .i64 (dj - b)) = WT at *
    have OK1 := OK1'; have OK2 := OK2'; have FK1 := FK1'; have FK2 := FK2'; clear OK1' OK2' FK1' FK2'
    have OP : OwControl WT (SK1 ++ SK2) (.slice (some ⟨gB, 0, none⟩) d1.length k1) (.slice B2 d2.length k2) (tiltN d1 i b) d2 := ⟨_, _, rfl, OK1.out, OK2.out⟩
    have FQ := Lib.hid (fresh_join FK1.out FK2.out (JK.out))
    have DQ : Hid (∀ x ∈ SK1 ++ SK2, x ∉ [w.heap.size, w.heap.size + 1, go]) := (fun x hx => (List.mem_append.1 hx).elim (DK1.out x) (DK2.out x))
    have OQ := Lib.hid (OP)
    clear OK1 FK1 DK1 OK2 FK2 DK2
    obtain ⟨SQ, hSQ⟩ : ∃ T, SK1 ++ SK2 = T := ⟨_, rfl⟩
    rw [hSQ] at OQ FQ DQ
    clear hSQ
    clear OP
    cases hal : allB (-50) 50 (tiltN d1 i b)
    · have hcon := fun (W : World) (hr : RdL cInt 1 W (.slice (some ⟨gB, 0, none⟩) d1.length k1) (tiltN d1 i b)) => allWithin_any _ _ (-50) 50 W hr
      rw [hal] at hcon
      have Hcon := Lib.hid hcon
      have Hal := Lib.hid hal
      clear hcon hal
      have o1 := (Lo 1 _ rfl).1
      have c0 := (Lc 0 _ rfl).1
      have c1 := (Lc 1 _ rfl).1
      have c2 := (Lc 2 _ rfl).1
      go_wp2_with (go_at_call 78; refine (Hcon.out _ OQ.out.rd.1).mono ?_; rintro e w' ⟨rfl, rfl⟩)
      refine (controlCopied_any ht _ _ d1 d2 _ (h.below hb) hsz).mono ?_
      rintro e W3 ⟨y1, y2, T, rfl, ow6, f6, q⟩
      clear o1 c0 c1 c2
      obtain ⟨⟨D1, e1, rfl⟩, ⟨D2, e2, rfl⟩⟩ := ow6.rd.forms
      have hzq : WT.heap.size ≤ W3.heap.size := by have := q.size; (try simp at this); omega
      replace Lc := Lc.below q
      replace Lr := Lr.below q
      replace Lo := Lo.below q
      have OQ' := Lib.hid (OQ.out.below q)
      clear OQ; have OQ := OQ'; clear OQ'
      have FQ' := Lib.hid (fresh_mono (w' := W3) FQ.out (Nat.le_refl _) hzq)
      clear FQ; have FQ := FQ'; clear FQ'
      replace hb : Below w.heap.size w W3 := hb.trans (q.mono hb.size)
      have hlow : WT.heap.size ≤ WT.heap.size := by first | exact Nat.le_refl _ | (simp; done) | (simp; omega) | omega
      have FZ := Lib.hid (fresh_mono f6 hlow (Nat.le_refl _))
      have DZ : Hid (∀ x ∈ T, x ∉ [w.heap.size, w.heap.size + 1, go]) := (fun x hx => by have := (FZ.out.2 x hx).1; simp; omega)
      have OZ := Lib.hid ow6
      clear ow6 f6 hlow
      clear q
      have r0 := (Lr 0 _ rfl).1
      have rf0 := (Lr 0 _ rfl).2
      have r1 := (Lr 1 _ rfl).1
      have rf1 := (Lr 1 _ rfl).2
      have r2 := (Lr 2 _ rfl).1
      have rf2 := (Lr 2 _ rfl).2
      go_wp2_with fail
      refine bodyPost_ret (v := .tuple #[.agg #[.int .i64 ht, .slice D1 d1.length e1, .slice D2 d2.length e2], .bool false]) (by simp [results, Try.results29, go_sem, *]) rfl (tilt_f Hok.out Hij.out Hal.out ⟨_, _, T, rfl, ?_, ?_, ?_⟩)
      · exact OZ.out.chg (T := [w.heap.size + 1]) (by repeat' (first | (with_reducible exact Chg.refl _ _) | (with_reducible refine chg_set ?_ (by simp)))) (fun x hx hx' => DZ.out x hx (by simp at hx'; subst hx'; simp))
      · exact fresh_mono FZ.out (by omega) (by simp)
      · exact Below.chg hb (S := [w.heap.size + 1]) (by repeat' (first | (with_reducible exact Chg.refl _ _) | (with_reducible refine chg_set ?_ (by simp)))) hb.size (fun x hx => by simp at hx; omega)
    · have hcon := fun (W : World) (hr : RdL cInt 1 W (.slice (some ⟨gB, 0, none⟩) d1.length k1) (tiltN d1 i b)) => allWithin_any _ _ (-50) 50 W hr
      rw [hal] at hcon
      have Hcon := Lib.hid hcon
      have Hal := Lib.hid hal
      clear hcon hal
      have o0 := (Lo 0 _ rfl).1
      have o1 := (Lo 1 _ rfl).1
      have o2 := (Lo 2 _ rfl).1
      have r0 := (Lr 0 _ rfl).1
      have rf0 := (Lr 0 _ rfl).2
      have r1 := (Lr 1 _ rfl).1
      have rf1 := (Lr 1 _ rfl).2
      have r2 := (Lr 2 _ rfl).1
      have rf2 := (Lr 2 _ rfl).2
      go_wp2_with (go_at_call 78; refine (Hcon.out _ OQ.out.rd.1).mono ?_; rintro e w' ⟨rfl, rfl⟩)
      refine bodyPost_ret (v := .tuple #[.agg #[.int .i64 ht, .slice (some ⟨gB, 0, none⟩) d1.length k1, .slice B2 d2.length k2], .bool true]) (by simp [results, Try.results29, go_sem, *]) rfl (tilt_t Hok.out Hij.out Hal.out ⟨_, _, SQ, rfl, ?_, ?_, ?_⟩)
      · exact OQ.out.chg (T := [w.heap.size + 1]) (by repeat' (first | (with_reducible exact Chg.refl _ _) | (with_reducible refine chg_set ?_ (by simp)))) (fun x hx hx' => DQ.out x hx (by simp at hx'; subst hx'; simp))
      · exact fresh_mono FQ.out (by omega) (by simp)
      · exact Below.chg hb (S := [w.heap.size + 1]) (by repeat' (first | (with_reducible exact Chg.refl _ _) | (with_reducible refine chg_set ?_ (by simp)))) hb.size (fun x hx => by simp at hx; omega)
end Go.Proofs.Ytkejgogheonakaa
