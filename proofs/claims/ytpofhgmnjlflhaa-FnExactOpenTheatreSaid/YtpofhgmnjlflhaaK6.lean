/- Contracts: OpenTheatre, SampleTheatre. -/
import Derived.Test.YtpofhgmnjlflhaaK5
namespace Go.Proofs.Ytpofhgmnjlflhaa
open Go.RowKit

theorem own_full {w : World} {base : Nat} {e : TypeId} {size n : Nat} (cur : Array Value) (hb : base ≤ w.heap.size) (hm : n ≤ maxLen) (hs : cur.size = n * size) :
    (w.alloc (.cells cur e)).ownsRow base e size (.slice (some ⟨w.heap.size, 0, none⟩) n n) n cur.toList :=
  ⟨by simpa using hs, .inr ⟨w.heap.size, n, cur, rfl, hb, heap_alloc_new w _, Nat.le_refl _, hm, hs, by rw [← hs, ← Array.length_toList, List.take_length]⟩⟩
theorem frozen_al {w : World} {p : Addr} {v : Value} (o : Obj) (h : w.cell? p = some v) (hf : w.frozen? p = false) : (w.alloc o).frozen? p = false :=
  (((Below.refl w.heap.size w).alloc (Nat.le_refl _) o).frozen (World.block_lt_of_cell? w _ h)).trans hf
def onePl : List RPl := [([0], 2)]
def openB (n m : Int) : Bool := theatreB n m [] onePl []
def openV (b : Bool) (x : Int) : Int := if b = true then x else 0
def openP (b : Bool) : List RPl := if b = true then onePl else []
def OpenPost (n m : Int) (w : World) (e : Ending) (w' : World) : Prop :=
  ∃ x1 x2 x3 S, e = .returned (.tuple #[.agg #[.int .i64 (openV (openB n m) n), x1, x2, x3, .int .i64 (openV (openB n m) m)], .bool (openB n m)]) ∧ OwTheatre w' S x1 x2 x3 [] (openP (openB n m)) [] ∧ Fresh w.heap.size w' S ∧ Below w.heap.size w w'
theorem ow_none (w : World) : OwTheatre w [] (.slice none 0 0) (.slice none 0 0) (.slice none 0 0) [] [] [] :=
  ⟨[], [], rfl, ⟨[], [], rfl, ⟨World.ownsRow_nil _ _ _ _, rfl⟩, OwPls.empty w⟩, ⟨World.ownsRow_nil _ _ _ _, rfl⟩⟩
theorem fresh_nil (B : Nat) (w : World) : Fresh B w [] := ⟨List.nodup_nil, fun b hb => by simp at hb⟩
/-- the one player, made of two blocks -/
theorem ow_one (w : World) {b c : Nat} (h1 : w.ownsRow 0 3 1 (.slice (some ⟨b, 0, none⟩) 1 1) 1 [.int .i64 0]) (h2 : w.ownsRow 0 79 2 (.slice (some ⟨c, 0, none⟩) 1 1) 1 [.slice (some ⟨b, 0, none⟩) 1 1, .int .i64 2]) :
    OwPls w [c, b] (.slice (some ⟨c, 0, none⟩) 1 1) onePl := by
  refine ⟨[(.slice (some ⟨b, 0, none⟩) 1 1, 2)], rfl, h2, fun i p r hp hr => ?_, rfl⟩
  cases i with
  | zero =>
    simp [onePl] at hp hr
    subst hp hr
    exact ⟨rfl, h1⟩
  | succ i => simp at hp
set_option maxHeartbeats 2000000 in
set_option maxRecDepth 100000 in
theorem implOpenTheatre_any (n m : Int) (w : World) :
    Calls Try.prog 30 #[.int .i64 n, .int .i64 m] w (OpenPost n m w) := by
  go_enter Try.func30, Try.ntmps30
  go_wp2_with fail
  have o1 : (((w.alloc (.cells #[.int .i64 0, .slice none 0 0, .slice none 0 0, .slice none 0 0, .int .i64 0] 45)).alloc (.cells #[.int .i64 0] 3))).ownsRow 0 3 1 (.slice (some ⟨w.heap.size + 1, 0, none⟩) 1 1) 1 [.int .i64 0] := by
    have := own_full (w := w.alloc (.cells #[.int .i64 0, .slice none 0 0, .slice none 0 0, .slice none 0 0, .int .i64 0] 45)) (base := 0) (e := 3) (size := 1) (n := 1) #[.int .i64 0] (Nat.zero_le _) (by simp [maxLen]) rfl
    simpa using this
  have o2 : (((w.alloc (.cells #[.int .i64 0, .slice none 0 0, .slice none 0 0, .slice none 0 0, .int .i64 0] 45)).alloc (.cells #[.int .i64 0] 3)).alloc (.cells #[.slice (some ⟨w.heap.size + 1, 0, none⟩) 1 1, .int .i64 2] 79)).ownsRow 0 79 2 (.slice (some ⟨w.heap.size + 1 + 1, 0, none⟩) 1 1) 1 [.slice (some ⟨w.heap.size + 1, 0, none⟩) 1 1, .int .i64 2] := by
    have := own_full (w := (w.alloc (.cells #[.int .i64 0, .slice none 0 0, .slice none 0 0, .slice none 0 0, .int .i64 0] 45)).alloc (.cells #[.int .i64 0] 3)) (base := 0) (e := 79) (size := 2) (n := 1) #[.slice (some ⟨w.heap.size + 1, 0, none⟩) 1 1, .int .i64 2] (Nat.zero_le _) (by simp [maxLen]) rfl
    simpa using this
  have op := (ow_one _ (o1.alloc _) o2).below ((Below.refl _ _).alloc (Nat.le_refl _) (.cells #[.int .i64 n, .slice none 0 0, .slice (some ⟨w.heap.size + 1 + 1, 0, none⟩) 1 1, .slice none 0 0, .int .i64 m] 45))
  have hrd : RdTheatre _ (.slice none 0 0) (.slice (some ⟨w.heap.size + 1 + 1, 0, none⟩) 1 1) (.slice none 0 0) [] onePl [] := ⟨⟨RdS.of_own (World.ownsRow_nil _ 0 0 _), op.rd⟩, RdS.of_own (World.ownsRow_nil _ 0 0 _)⟩
  refine twoB (implTheatreOk_any n m _ _ _ [] onePl [] _ hrd) (fun w1 hq hb => ?_) (fun w1 hq hb => ?_)
  all_goals
    have hz := hb.size
    simp at hz
    have c0 := carry (b := w.heap.size + 1 + 1 + 1) (o := 0) (v := .int .i64 n) hb (by simp [go_sem])
    have c1 := carry (b := w.heap.size + 1 + 1 + 1) (o := 1) (v := .slice none 0 0) hb (by simp [go_sem])
    have c2 := carry (b := w.heap.size + 1 + 1 + 1) (o := 2) (v := .slice (some ⟨w.heap.size + 1 + 1, 0, none⟩) 1 1) hb (by simp [go_sem])
    have c3 := carry (b := w.heap.size + 1 + 1 + 1) (o := 3) (v := .slice none 0 0) hb (by simp [go_sem])
    have c4 := carry (b := w.heap.size + 1 + 1 + 1) (o := 4) (v := .int .i64 m) hb (by simp [go_sem])
    have p0 := carryF (b := w.heap.size) (o := 0) (v := .int .i64 0) hb (by simp [go_sem]) (by simp [go_sem])
    have p1 := carryF (b := w.heap.size) (o := 1) (v := .slice none 0 0) hb (by simp [go_sem]) (by simp [go_sem])
    have p2 := carryF (b := w.heap.size) (o := 2) (v := .slice none 0 0) hb (by simp [go_sem]) (by simp [go_sem])
    have p3 := carryF (b := w.heap.size) (o := 3) (v := .slice none 0 0) hb (by simp [go_sem]) (by simp [go_sem])
    have p4 := carryF (b := w.heap.size) (o := 4) (v := .int .i64 0) hb (by simp [go_sem]) (by simp [go_sem])
    have j0 := carry (b := w.heap.size) (o := 0) (v := .int .i64 0) hb (by simp [go_sem])
    have j1 := carry (b := w.heap.size) (o := 1) (v := .slice none 0 0) hb (by simp [go_sem])
    have j2 := carry (b := w.heap.size) (o := 2) (v := .slice none 0 0) hb (by simp [go_sem])
    have j3 := carry (b := w.heap.size) (o := 3) (v := .slice none 0 0) hb (by simp [go_sem])
    have j4 := carry (b := w.heap.size) (o := 4) (v := .int .i64 0) hb (by simp [go_sem])
    have hb' := bl_alloc (bl_alloc (bl_alloc (bl_alloc hb)))
    replace op := op.below hb
    clear o1 o2 hrd
    go_wp2_with fail
  · have hB : openB n m = true := hq.out
    have e0 : openV (openB n m) n = n := by rw [hB]; rfl
    have e4 : openV (openB n m) m = m := by rw [hB]; rfl
    have eP : openP (openB n m) = onePl := by rw [hB]; rfl
    refine bodyPost_ret (v := .tuple #[.agg #[.int .i64 n, .slice none 0 0, .slice (some ⟨w.heap.size + 1 + 1, 0, none⟩) 1 1, .slice none 0 0, .int .i64 m], .bool true]) (by simp [results, Try.results30, go_sem, *]) rfl ⟨.slice none 0 0, .slice (some ⟨w.heap.size + 1 + 1, 0, none⟩) 1 1, .slice none 0 0, [w.heap.size + 1 + 1, w.heap.size + 1], by rw [e0, e4, hB], ?_, ⟨by simp, fun b hb => by simp at hb; simp; omega⟩, by (repeat' (first | (with_reducible exact Below.refl _ _) | (with_reducible assumption) | (with_reducible refine Below.setCell ?_ (by first | omega | (simp; omega) | (simp; done)) _) | (with_reducible refine Below.alloc ?_ (by first | omega | (simp; omega) | (simp; done)) _) | (with_reducible refine Below.drew ?_) | (with_reducible refine below_drewN ?_ _)))⟩
    rw [eP]
    have op' := op.chg (w' := _) (T := [w.heap.size]) (by repeat' (first | (with_reducible exact Chg.refl _ _) | (with_reducible refine chg_set ?_ (by simp)))) (fun b hb hc => by simp at hb hc; omega)
    exact ⟨[w.heap.size + 1 + 1, w.heap.size + 1], [], by simp, ⟨[], [w.heap.size + 1 + 1, w.heap.size + 1], rfl, ⟨World.ownsRow_nil _ _ _ _, rfl⟩, op.chg (T := [w.heap.size]) (by repeat' (first | (with_reducible exact Chg.refl _ _) | (with_reducible refine chg_set ?_ (by simp)))) (fun b hb hc => by simp at hb hc; omega)⟩, ⟨World.ownsRow_nil _ _ _ _, rfl⟩⟩
  · have hB : openB n m = false := hq.out
    have e0 : openV (openB n m) n = 0 := by rw [hB]; rfl
    have e4 : openV (openB n m) m = 0 := by rw [hB]; rfl
    have eP : openP (openB n m) = [] := by rw [hB]; rfl
    refine bodyPost_ret (v := .tuple #[.agg #[.int .i64 0, .slice none 0 0, .slice none 0 0, .slice none 0 0, .int .i64 0], .bool false]) (by simp [results, Try.results30, go_sem, *]) rfl ⟨.slice none 0 0, .slice none 0 0, .slice none 0 0, [], by rw [e0, e4, hB], ?_, fresh_nil _ _, by (repeat' (first | (with_reducible exact Below.refl _ _) | (with_reducible assumption) | (with_reducible refine Below.setCell ?_ (by first | omega | (simp; omega) | (simp; done)) _) | (with_reducible refine Below.alloc ?_ (by first | omega | (simp; omega) | (simp; done)) _) | (with_reducible refine Below.drew ?_) | (with_reducible refine below_drewN ?_ _)))⟩
    rw [eP]
    exact ow_none _
set_option maxHeartbeats 2000000 in
set_option maxRecDepth 100000 in
theorem specOpenTheatre_any (n m : Int) (w : World) :
    Calls Try.prog 29 #[.int .i64 n, .int .i64 m] w (OpenPost n m w) := by
  go_enter Try.func29, Try.ntmps29
  go_wp2_with fail
  have o1 : (((w.alloc (.cells #[.int .i64 0, .slice none 0 0, .slice none 0 0, .slice none 0 0, .int .i64 0] 45)).alloc (.cells #[.int .i64 0] 3))).ownsRow 0 3 1 (.slice (some ⟨w.heap.size + 1, 0, none⟩) 1 1) 1 [.int .i64 0] := by
    have := own_full (w := w.alloc (.cells #[.int .i64 0, .slice none 0 0, .slice none 0 0, .slice none 0 0, .int .i64 0] 45)) (base := 0) (e := 3) (size := 1) (n := 1) #[.int .i64 0] (Nat.zero_le _) (by simp [maxLen]) rfl
    simpa using this
  have o2 : (((w.alloc (.cells #[.int .i64 0, .slice none 0 0, .slice none 0 0, .slice none 0 0, .int .i64 0] 45)).alloc (.cells #[.int .i64 0] 3)).alloc (.cells #[.slice (some ⟨w.heap.size + 1, 0, none⟩) 1 1, .int .i64 2] 79)).ownsRow 0 79 2 (.slice (some ⟨w.heap.size + 1 + 1, 0, none⟩) 1 1) 1 [.slice (some ⟨w.heap.size + 1, 0, none⟩) 1 1, .int .i64 2] := by
    have := own_full (w := (w.alloc (.cells #[.int .i64 0, .slice none 0 0, .slice none 0 0, .slice none 0 0, .int .i64 0] 45)).alloc (.cells #[.int .i64 0] 3)) (base := 0) (e := 79) (size := 2) (n := 1) #[.slice (some ⟨w.heap.size + 1, 0, none⟩) 1 1, .int .i64 2] (Nat.zero_le _) (by simp [maxLen]) rfl
    simpa using this
  have op := (ow_one _ (o1.alloc _) o2).below ((Below.refl _ _).alloc (Nat.le_refl _) (.cells #[.int .i64 n, .slice none 0 0, .slice (some ⟨w.heap.size + 1 + 1, 0, none⟩) 1 1, .slice none 0 0, .int .i64 m] 45))
  have hrd : RdTheatre _ (.slice none 0 0) (.slice (some ⟨w.heap.size + 1 + 1, 0, none⟩) 1 1) (.slice none 0 0) [] onePl [] := ⟨⟨RdS.of_own (World.ownsRow_nil _ 0 0 _), op.rd⟩, RdS.of_own (World.ownsRow_nil _ 0 0 _)⟩
  refine twoB (specTheatreOk_any n m _ _ _ [] onePl [] _ hrd) (fun w1 hq hb => ?_) (fun w1 hq hb => ?_)
  all_goals
    have hz := hb.size
    simp at hz
    have c0 := carry (b := w.heap.size + 1 + 1 + 1) (o := 0) (v := .int .i64 n) hb (by simp [go_sem])
    have c1 := carry (b := w.heap.size + 1 + 1 + 1) (o := 1) (v := .slice none 0 0) hb (by simp [go_sem])
    have c2 := carry (b := w.heap.size + 1 + 1 + 1) (o := 2) (v := .slice (some ⟨w.heap.size + 1 + 1, 0, none⟩) 1 1) hb (by simp [go_sem])
    have c3 := carry (b := w.heap.size + 1 + 1 + 1) (o := 3) (v := .slice none 0 0) hb (by simp [go_sem])
    have c4 := carry (b := w.heap.size + 1 + 1 + 1) (o := 4) (v := .int .i64 m) hb (by simp [go_sem])
    have p0 := carryF (b := w.heap.size) (o := 0) (v := .int .i64 0) hb (by simp [go_sem]) (by simp [go_sem])
    have p1 := carryF (b := w.heap.size) (o := 1) (v := .slice none 0 0) hb (by simp [go_sem]) (by simp [go_sem])
    have p2 := carryF (b := w.heap.size) (o := 2) (v := .slice none 0 0) hb (by simp [go_sem]) (by simp [go_sem])
    have p3 := carryF (b := w.heap.size) (o := 3) (v := .slice none 0 0) hb (by simp [go_sem]) (by simp [go_sem])
    have p4 := carryF (b := w.heap.size) (o := 4) (v := .int .i64 0) hb (by simp [go_sem]) (by simp [go_sem])
    have j0 := carry (b := w.heap.size) (o := 0) (v := .int .i64 0) hb (by simp [go_sem])
    have j1 := carry (b := w.heap.size) (o := 1) (v := .slice none 0 0) hb (by simp [go_sem])
    have j2 := carry (b := w.heap.size) (o := 2) (v := .slice none 0 0) hb (by simp [go_sem])
    have j3 := carry (b := w.heap.size) (o := 3) (v := .slice none 0 0) hb (by simp [go_sem])
    have j4 := carry (b := w.heap.size) (o := 4) (v := .int .i64 0) hb (by simp [go_sem])
    have hb' := bl_alloc (bl_alloc (bl_alloc (bl_alloc hb)))
    replace op := op.below hb
    clear o1 o2 hrd
    go_wp2_with fail
  · have hB : openB n m = true := hq.out
    have e0 : openV (openB n m) n = n := by rw [hB]; rfl
    have e4 : openV (openB n m) m = m := by rw [hB]; rfl
    have eP : openP (openB n m) = onePl := by rw [hB]; rfl
    refine bodyPost_ret (v := .tuple #[.agg #[.int .i64 n, .slice none 0 0, .slice (some ⟨w.heap.size + 1 + 1, 0, none⟩) 1 1, .slice none 0 0, .int .i64 m], .bool true]) (by simp [results, Try.results29, go_sem, *]) rfl ⟨.slice none 0 0, .slice (some ⟨w.heap.size + 1 + 1, 0, none⟩) 1 1, .slice none 0 0, [w.heap.size + 1 + 1, w.heap.size + 1], by rw [e0, e4, hB], ?_, ⟨by simp, fun b hb => by simp at hb; simp; omega⟩, by (repeat' (first | (with_reducible exact Below.refl _ _) | (with_reducible assumption) | (with_reducible refine Below.setCell ?_ (by first | omega | (simp; omega) | (simp; done)) _) | (with_reducible refine Below.alloc ?_ (by first | omega | (simp; omega) | (simp; done)) _) | (with_reducible refine Below.drew ?_) | (with_reducible refine below_drewN ?_ _)))⟩
    rw [eP]
    have op' := op.chg (w' := _) (T := [w.heap.size]) (by repeat' (first | (with_reducible exact Chg.refl _ _) | (with_reducible refine chg_set ?_ (by simp)))) (fun b hb hc => by simp at hb hc; omega)
    exact ⟨[w.heap.size + 1 + 1, w.heap.size + 1], [], by simp, ⟨[], [w.heap.size + 1 + 1, w.heap.size + 1], rfl, ⟨World.ownsRow_nil _ _ _ _, rfl⟩, op.chg (T := [w.heap.size]) (by repeat' (first | (with_reducible exact Chg.refl _ _) | (with_reducible refine chg_set ?_ (by simp)))) (fun b hb hc => by simp at hb hc; omega)⟩, ⟨World.ownsRow_nil _ _ _ _, rfl⟩⟩
  · have hB : openB n m = false := hq.out
    have e0 : openV (openB n m) n = 0 := by rw [hB]; rfl
    have e4 : openV (openB n m) m = 0 := by rw [hB]; rfl
    have eP : openP (openB n m) = [] := by rw [hB]; rfl
    refine bodyPost_ret (v := .tuple #[.agg #[.int .i64 0, .slice none 0 0, .slice none 0 0, .slice none 0 0, .int .i64 0], .bool false]) (by simp [results, Try.results29, go_sem, *]) rfl ⟨.slice none 0 0, .slice none 0 0, .slice none 0 0, [], by rw [e0, e4, hB], ?_, fresh_nil _ _, by (repeat' (first | (with_reducible exact Below.refl _ _) | (with_reducible assumption) | (with_reducible refine Below.setCell ?_ (by first | omega | (simp; omega) | (simp; done)) _) | (with_reducible refine Below.alloc ?_ (by first | omega | (simp; omega) | (simp; done)) _) | (with_reducible refine Below.drew ?_) | (with_reducible refine below_drewN ?_ _)))⟩
    rw [eP]
    exact ow_none _
def sampB : Bool := openB 3 60
theorem samp_t : openB 3 60 = true := by decide
def SampOpen (w : World) (e : Ending) (w' : World) : Prop :=
  ∃ x1 x2 x3 S, e = .returned (.tuple #[.agg #[.int .i64 3, x1, x2, x3, .int .i64 60], .bool true]) ∧ OwTheatre w' S x1 x2 x3 [] onePl [] ∧ Fresh w.heap.size w' S ∧ Below w.heap.size w w'
theorem sample_of {w w' : World} {e : Ending} (h : OpenPost 3 60 w e w') : SampOpen w e w' := by
  unfold OpenPost at h
  rw [samp_t] at h
  exact h
def SamplePost (w : World) (e : Ending) (w' : World) : Prop :=
  ∃ x1 x2 x3 S, e = .returned (.agg #[.int .i64 3, x1, x2, x3, .int .i64 60]) ∧ OwTheatre w' S x1 x2 x3 [] onePl [] ∧ Fresh w.heap.size w' S ∧ Below w.heap.size w w'
set_option maxHeartbeats 2000000 in
set_option maxRecDepth 100000 in
theorem implSampleTheatre_any (w : World) : Calls Try.prog 34 #[] w (SamplePost w) := by
  have hcon := fun W => (implOpenTheatre_any 3 60 W).mono (fun e w' h => sample_of h)
  have Hcon := Lib.hid hcon
  clear hcon
  go_enter Try.func34, Try.ntmps34
  go_wp2_with fail
  refine (Hcon.out _).mono ?_
  rintro e w1 ⟨x1, x2, x3, S, rfl, ho, hf, hb⟩
  obtain ⟨⟨A1, c1, e1⟩, ⟨A2, c2, e2⟩, ⟨A3, c3, e3⟩⟩ := ho.rd.forms
  change x1 = .slice A1 0 c1 at e1
  change x2 = .slice A2 1 c2 at e2
  change x3 = .slice A3 0 c3 at e3
  subst e1 e2 e3
  have hz := hb.size
  simp at hz
  have p0 := carryF (b := w.heap.size) (o := 0) (v := .int .i64 0) hb (by simp [go_sem]) (by simp [go_sem])
  have p1 := carryF (b := w.heap.size) (o := 1) (v := .slice none 0 0) hb (by simp [go_sem]) (by simp [go_sem])
  have p2 := carryF (b := w.heap.size) (o := 2) (v := .slice none 0 0) hb (by simp [go_sem]) (by simp [go_sem])
  have p3 := carryF (b := w.heap.size) (o := 3) (v := .slice none 0 0) hb (by simp [go_sem]) (by simp [go_sem])
  have p4 := carryF (b := w.heap.size) (o := 4) (v := .int .i64 0) hb (by simp [go_sem]) (by simp [go_sem])
  have j0 := carry (b := w.heap.size) (o := 0) (v := .int .i64 0) hb (by simp [go_sem])
  have j1 := carry (b := w.heap.size) (o := 1) (v := .slice none 0 0) hb (by simp [go_sem])
  have j2 := carry (b := w.heap.size) (o := 2) (v := .slice none 0 0) hb (by simp [go_sem])
  have j3 := carry (b := w.heap.size) (o := 3) (v := .slice none 0 0) hb (by simp [go_sem])
  have j4 := carry (b := w.heap.size) (o := 4) (v := .int .i64 0) hb (by simp [go_sem])
  have hb' := bl_alloc hb
  replace p0 := frozen_al (.cells #[.int .i64 3, .slice A1 0 c1, .slice A2 1 c2, .slice A3 0 c3, .int .i64 60] 45) j0 p0
  replace j0 := cell_alloc (.cells #[.int .i64 3, .slice A1 0 c1, .slice A2 1 c2, .slice A3 0 c3, .int .i64 60] 45) j0
  replace p1 := frozen_al (.cells #[.int .i64 3, .slice A1 0 c1, .slice A2 1 c2, .slice A3 0 c3, .int .i64 60] 45) j1 p1
  replace j1 := cell_alloc (.cells #[.int .i64 3, .slice A1 0 c1, .slice A2 1 c2, .slice A3 0 c3, .int .i64 60] 45) j1
  replace p2 := frozen_al (.cells #[.int .i64 3, .slice A1 0 c1, .slice A2 1 c2, .slice A3 0 c3, .int .i64 60] 45) j2 p2
  replace j2 := cell_alloc (.cells #[.int .i64 3, .slice A1 0 c1, .slice A2 1 c2, .slice A3 0 c3, .int .i64 60] 45) j2
  replace p3 := frozen_al (.cells #[.int .i64 3, .slice A1 0 c1, .slice A2 1 c2, .slice A3 0 c3, .int .i64 60] 45) j3 p3
  replace j3 := cell_alloc (.cells #[.int .i64 3, .slice A1 0 c1, .slice A2 1 c2, .slice A3 0 c3, .int .i64 60] 45) j3
  replace p4 := frozen_al (.cells #[.int .i64 3, .slice A1 0 c1, .slice A2 1 c2, .slice A3 0 c3, .int .i64 60] 45) j4 p4
  replace j4 := cell_alloc (.cells #[.int .i64 3, .slice A1 0 c1, .slice A2 1 c2, .slice A3 0 c3, .int .i64 60] 45) j4
  go_wp2_with fail
  clear Hcon
  refine bodyPost_ret (v := .agg #[.int .i64 3, .slice A1 0 c1, .slice A2 1 c2, .slice A3 0 c3, .int .i64 60]) (by simp [results, Try.results34, go_sem, *]) rfl ⟨_, _, _, S, rfl, ?_, ?_, by (repeat' (first | (with_reducible exact Below.refl _ _) | (with_reducible assumption) | (with_reducible refine Below.setCell ?_ (by first | omega | (simp; omega) | (simp; done)) _) | (with_reducible refine Below.alloc ?_ (by first | omega | (simp; omega) | (simp; done)) _) | (with_reducible refine Below.drew ?_) | (with_reducible refine below_drewN ?_ _)))⟩
  · exact ((ho.below ((Below.refl _ _).alloc (Nat.le_refl _) _)).chg (T := [w.heap.size]) (by repeat' (first | (with_reducible exact Chg.refl _ _) | (with_reducible refine chg_set ?_ (by simp)))) (fun b hb hc => by have := hf.2 b hb; simp at hc this; omega))
  · exact fresh_mono hf (by simp) (by simp)
set_option maxHeartbeats 2000000 in
set_option maxRecDepth 100000 in
theorem specSampleTheatre_any (w : World) : Calls Try.prog 33 #[] w (SamplePost w) := by
  have hcon := fun W => (specOpenTheatre_any 3 60 W).mono (fun e w' h => sample_of h)
  have Hcon := Lib.hid hcon
  clear hcon
  go_enter Try.func33, Try.ntmps33
  go_wp2_with fail
  refine (Hcon.out _).mono ?_
  rintro e w1 ⟨x1, x2, x3, S, rfl, ho, hf, hb⟩
  obtain ⟨⟨A1, c1, e1⟩, ⟨A2, c2, e2⟩, ⟨A3, c3, e3⟩⟩ := ho.rd.forms
  change x1 = .slice A1 0 c1 at e1
  change x2 = .slice A2 1 c2 at e2
  change x3 = .slice A3 0 c3 at e3
  subst e1 e2 e3
  have hz := hb.size
  simp at hz
  have p0 := carryF (b := w.heap.size) (o := 0) (v := .int .i64 0) hb (by simp [go_sem]) (by simp [go_sem])
  have p1 := carryF (b := w.heap.size) (o := 1) (v := .slice none 0 0) hb (by simp [go_sem]) (by simp [go_sem])
  have p2 := carryF (b := w.heap.size) (o := 2) (v := .slice none 0 0) hb (by simp [go_sem]) (by simp [go_sem])
  have p3 := carryF (b := w.heap.size) (o := 3) (v := .slice none 0 0) hb (by simp [go_sem]) (by simp [go_sem])
  have p4 := carryF (b := w.heap.size) (o := 4) (v := .int .i64 0) hb (by simp [go_sem]) (by simp [go_sem])
  have j0 := carry (b := w.heap.size) (o := 0) (v := .int .i64 0) hb (by simp [go_sem])
  have j1 := carry (b := w.heap.size) (o := 1) (v := .slice none 0 0) hb (by simp [go_sem])
  have j2 := carry (b := w.heap.size) (o := 2) (v := .slice none 0 0) hb (by simp [go_sem])
  have j3 := carry (b := w.heap.size) (o := 3) (v := .slice none 0 0) hb (by simp [go_sem])
  have j4 := carry (b := w.heap.size) (o := 4) (v := .int .i64 0) hb (by simp [go_sem])
  have hb' := bl_alloc hb
  replace p0 := frozen_al (.cells #[.int .i64 3, .slice A1 0 c1, .slice A2 1 c2, .slice A3 0 c3, .int .i64 60] 45) j0 p0
  replace j0 := cell_alloc (.cells #[.int .i64 3, .slice A1 0 c1, .slice A2 1 c2, .slice A3 0 c3, .int .i64 60] 45) j0
  replace p1 := frozen_al (.cells #[.int .i64 3, .slice A1 0 c1, .slice A2 1 c2, .slice A3 0 c3, .int .i64 60] 45) j1 p1
  replace j1 := cell_alloc (.cells #[.int .i64 3, .slice A1 0 c1, .slice A2 1 c2, .slice A3 0 c3, .int .i64 60] 45) j1
  replace p2 := frozen_al (.cells #[.int .i64 3, .slice A1 0 c1, .slice A2 1 c2, .slice A3 0 c3, .int .i64 60] 45) j2 p2
  replace j2 := cell_alloc (.cells #[.int .i64 3, .slice A1 0 c1, .slice A2 1 c2, .slice A3 0 c3, .int .i64 60] 45) j2
  replace p3 := frozen_al (.cells #[.int .i64 3, .slice A1 0 c1, .slice A2 1 c2, .slice A3 0 c3, .int .i64 60] 45) j3 p3
  replace j3 := cell_alloc (.cells #[.int .i64 3, .slice A1 0 c1, .slice A2 1 c2, .slice A3 0 c3, .int .i64 60] 45) j3
  replace p4 := frozen_al (.cells #[.int .i64 3, .slice A1 0 c1, .slice A2 1 c2, .slice A3 0 c3, .int .i64 60] 45) j4 p4
  replace j4 := cell_alloc (.cells #[.int .i64 3, .slice A1 0 c1, .slice A2 1 c2, .slice A3 0 c3, .int .i64 60] 45) j4
  go_wp2_with fail
  clear Hcon
  refine bodyPost_ret (v := .agg #[.int .i64 3, .slice A1 0 c1, .slice A2 1 c2, .slice A3 0 c3, .int .i64 60]) (by simp [results, Try.results33, go_sem, *]) rfl ⟨_, _, _, S, rfl, ?_, ?_, by (repeat' (first | (with_reducible exact Below.refl _ _) | (with_reducible assumption) | (with_reducible refine Below.setCell ?_ (by first | omega | (simp; omega) | (simp; done)) _) | (with_reducible refine Below.alloc ?_ (by first | omega | (simp; omega) | (simp; done)) _) | (with_reducible refine Below.drew ?_) | (with_reducible refine below_drewN ?_ _)))⟩
  · exact ((ho.below ((Below.refl _ _).alloc (Nat.le_refl _) _)).chg (T := [w.heap.size]) (by repeat' (first | (with_reducible exact Chg.refl _ _) | (with_reducible refine chg_set ?_ (by simp)))) (fun b hb hc => by have := hf.2 b hb; simp at hc this; omega))
  · exact fresh_mono hf (by simp) (by simp)
def OpenP2 (n m : Int) (ok : Bool) (cs : List RCross) (pl : List RPl) (ds : List Int) (w : World) (e : Ending) (w' : World) : Prop :=
  ∃ x1 x2 x3 S, e = .returned (.tuple #[.agg #[.int .i64 n, x1, x2, x3, .int .i64 m], .bool ok]) ∧ OwTheatre w' S x1 x2 x3 cs pl ds ∧ Fresh w.heap.size w' S ∧ Below w.heap.size w w'
theorem open2 (n m : Int) : ∃ n' m' ok cs pl ds, szTheatre cs pl ds ≤ 100 ∧ (∀ W, Calls Try.prog 29 #[.int .i64 n, .int .i64 m] W (OpenP2 n' m' ok cs pl ds W)) ∧ (∀ W, Calls Try.prog 30 #[.int .i64 n, .int .i64 m] W (OpenP2 n' m' ok cs pl ds W)) := by
  refine ⟨openV (openB n m) n, openV (openB n m) m, openB n m, [], openP (openB n m), [], ?_, fun W => specOpenTheatre_any n m W, fun W => implOpenTheatre_any n m W⟩
  cases openB n m <;> decide
def SampP2 (n m : Int) (cs : List RCross) (pl : List RPl) (ds : List Int) (w : World) (e : Ending) (w' : World) : Prop :=
  ∃ x1 x2 x3 S, e = .returned (.agg #[.int .i64 n, x1, x2, x3, .int .i64 m]) ∧ OwTheatre w' S x1 x2 x3 cs pl ds ∧ Fresh w.heap.size w' S ∧ Below w.heap.size w w'
theorem sample2 : ∃ n' m' cs pl ds, szTheatre cs pl ds ≤ 100 ∧ (∀ W, Calls Try.prog 33 #[] W (SampP2 n' m' cs pl ds W)) ∧ (∀ W, Calls Try.prog 34 #[] W (SampP2 n' m' cs pl ds W)) :=
  ⟨3, 60, [], onePl, [], by decide, fun W => specSampleTheatre_any W, fun W => implSampleTheatre_any W⟩
end Go.Proofs.Ytpofhgmnjlflhaa
