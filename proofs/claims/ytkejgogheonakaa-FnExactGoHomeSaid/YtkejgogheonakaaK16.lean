/- Contracts: a company goes home (both). Written by a program (gen_k16.py). -/
import Derived.Test.YtkejgogheonakaaK7
import Derived.Test.YtkejgogheonakaaY7
namespace Go.Proofs.Ytkejgogheonakaa
open Go.RowKit
def goB (n : Int) (cs : List RCross) (pl : List RPl) : Bool := withB n cs pl (homeL n cs)
def goC (n : Int) (cs : List RCross) (pl : List RPl) : List RCross := withC n cs pl (homeL n cs)
theorem go_sz (n : Int) (cs : List RCross) (pl : List RPl) : szCompany (goC n cs pl) pl ≤ szCompany cs pl ∨ szCompany (goC n cs pl) pl ≤ 1000 := with_sz n cs pl _
set_option maxHeartbeats 8000000 in
set_option maxRecDepth 100000 in
theorem implGoHome_any (n : Int) (v1 v2 : Value) (cs : List RCross) (pl : List RPl) (w : World) (h : RdCompany w v1 v2 cs pl) (hsz : szCompany cs pl ≤ 1048576) :
    Calls Try.prog 48 #[.agg #[.int .i64 n, v1, v2]] w (RetCompany n (goB n cs pl) (goC n cs pl) pl w) := by
  obtain ⟨⟨A1, n1, rfl⟩, ⟨A2, n2, rfl⟩⟩ := h.forms
  unfold goB goC
  have hll := homeL_len n cs
  have HC : Hid (∀ (W : World) (v : Value), RdL cCross 2 W v cs → Calls Try.prog 101 #[.int .i64 n, v] W fun e w' => ∃ v', e = .returned (.tuple #[v', .bool (crossesB n cs)]) ∧ w'.ownsRow W.heap.size 141 2 v' (homeL n cs).length ((homeL n cs).flatMap cCross) ∧ Below W.heap.size W w') := fun W v hr => implBringHome_any n v cs W hr
  have HW : Hid (∀ (W : World) (vl v1 v2 : Value), RdCompany W v1 v2 cs pl → RdL cCross 2 W vl (homeL n cs) → Calls Try.prog 102 #[.agg #[.int .i64 n, v1, v2], vl] W (RetCompany n (withB n cs pl (homeL n cs)) (withC n cs pl (homeL n cs)) pl W)) := fun W vl v1 v2 h1 h2 => implWith_any n v1 v2 vl cs pl (homeL n cs) W h1 h2 (by omega) hsz
  generalize homeL n cs = hl at *
  generalize withB n cs pl hl = ok at *
  generalize withC n cs pl hl = cs' at *
  go_enter Try.func48, Try.ntmps48
  go_wp2_with fail
  refine (HC.out _ _ (h.below (by (repeat' (first | (with_reducible exact Below.refl _ _) | (with_reducible assumption) | (with_reducible refine Below.setCell ?_ (by first | omega | (simp; omega) | (simp; done)) _) | (with_reducible refine Below.alloc ?_ (by first | omega | (simp; omega) | (simp; done)) _) | (with_reducible refine Below.drew ?_) | (with_reducible refine below_drewN ?_ _))))).1).mono ?_
  rintro e W1 ⟨vl, rfl, ownl, q⟩
  have hvl : RdL cCross 2 W1 vl hl := RdS.of_own ownl
  clear ownl
  generalize crossesB n cs = okh at *
  obtain ⟨Al, cl, rfl, _, _⟩ := hvl.form
  have Lc : Loc W1 (w.heap.size) [.int .i64 n, .slice A1 cs.length n1, .slice A2 pl.length n2] := by have := ((Loc.new w #[.int .i64 n, .slice A1 cs.length n1, .slice A2 pl.length n2] 66).alloc _).below q; simpa using this
  have Lr : Loc W1 (w.heap.size + 1) [.int .i64 0, .slice none 0 0, .slice none 0 0] := by have := (Loc.new (w.alloc (.cells #[.int .i64 n, .slice A1 cs.length n1, .slice A2 pl.length n2] 66)) #[.int .i64 0, .slice none 0 0, .slice none 0 0] 66).below q; simpa using this
  have hb : Below w.heap.size w W1 := Below.trans (by (repeat' (first | (with_reducible exact Below.refl _ _) | (with_reducible assumption) | (with_reducible refine Below.setCell ?_ (by first | omega | (simp; omega) | (simp; done)) _) | (with_reducible refine Below.alloc ?_ (by first | omega | (simp; omega) | (simp; done)) _) | (with_reducible refine Below.drew ?_) | (with_reducible refine below_drewN ?_ _)))) (q.mono (by simp <;> omega))
  have hz0 : w.heap.size + 1 + 1 ≤ W1.heap.size := by have := q.size; simp at this; omega
  clear q
  have c0 := (Lc 0 _ rfl).1
  have c1 := (Lc 1 _ rfl).1
  have c2 := (Lc 2 _ rfl).1
  go_wp2_with fail
  refine (HW.out _ _ _ _ (h.below hb) hvl).mono ?_
  rintro e W2 ⟨x1, x2, S, rfl, ow, f1, q⟩
  clear c0 c1 c2
  obtain ⟨⟨B1, k1, rfl⟩, ⟨B2, k2, rfl⟩⟩ := ow.rd.forms
  clear hvl
  have hzq : W1.heap.size ≤ W2.heap.size := by have := q.size; (try simp at this); omega
  replace Lc := Lc.below q
  replace Lr := Lr.below q
  replace hb : Below w.heap.size w W2 := hb.trans (q.mono hb.size)
  have hlow : W1.heap.size ≤ W1.heap.size := by first | exact Nat.le_refl _ | (simp; done) | (simp; omega) | omega
  have FK := Lib.hid (fresh_mono f1 hlow (Nat.le_refl _))
  have DK : Hid (∀ x ∈ S, x ∉ [w.heap.size, w.heap.size + 1]) := (fun x hx => by have := (FK.out.2 x hx).1; simp; omega)
  have OK := Lib.hid ow
  clear ow f1 hlow
  clear q
  have r0 := (Lr 0 _ rfl).1
  have rf0 := (Lr 0 _ rfl).2
  have r1 := (Lr 1 _ rfl).1
  have rf1 := (Lr 1 _ rfl).2
  have r2 := (Lr 2 _ rfl).1
  have rf2 := (Lr 2 _ rfl).2
  go_wp2_with fail
  refine bodyPost_ret (v := .tuple #[.agg #[.int .i64 n, .slice B1 cs'.length k1, .slice B2 pl.length k2], .bool ok]) (by simp [results, Try.results48, go_sem, *]) rfl (⟨_, _, S, rfl, ?_, ?_, ?_⟩)
  · exact OK.out.chg (T := [w.heap.size + 1]) (by repeat' (first | (with_reducible exact Chg.refl _ _) | (with_reducible refine chg_set ?_ (by simp)))) (fun x hx hx' => DK.out x hx (by simp at hx'; subst hx'; simp))
  · exact fresh_mono FK.out (by omega) (by simp)
  · exact Below.chg hb (S := [w.heap.size + 1]) (by repeat' (first | (with_reducible exact Chg.refl _ _) | (with_reducible refine chg_set ?_ (by simp)))) hb.size (fun x hx => by simp at hx; omega)
set_option maxHeartbeats 8000000 in
set_option maxRecDepth 100000 in
theorem specGoHome_any (n : Int) (v1 v2 : Value) (cs : List RCross) (pl : List RPl) (w : World) (h : RdCompany w v1 v2 cs pl) (hsz : szCompany cs pl ≤ 1048576) :
    Calls Try.prog 46 #[.agg #[.int .i64 n, v1, v2]] w (RetCompany n (goB n cs pl) (goC n cs pl) pl w) := by
  obtain ⟨⟨A1, n1, rfl⟩, ⟨A2, n2, rfl⟩⟩ := h.forms
  unfold goB goC
  have hll := homeL_len n cs
  have HC : Hid (∀ (W : World) (v : Value), RdL cCross 2 W v cs → Calls Try.prog 97 #[.int .i64 n, v] W fun e w' => ∃ v', e = .returned (.tuple #[v', .bool (crossesB n cs)]) ∧ w'.ownsRow W.heap.size 141 2 v' (homeL n cs).length ((homeL n cs).flatMap cCross) ∧ Below W.heap.size W w') := fun W v hr => specBringHome_any n v cs W hr
  have HW : Hid (∀ (W : World) (vl v1 v2 : Value), RdCompany W v1 v2 cs pl → RdL cCross 2 W vl (homeL n cs) → Calls Try.prog 98 #[.agg #[.int .i64 n, v1, v2], vl] W (RetCompany n (withB n cs pl (homeL n cs)) (withC n cs pl (homeL n cs)) pl W)) := fun W vl v1 v2 h1 h2 => l37Add_any n v1 v2 vl cs pl (homeL n cs) W h1 h2 (by omega) hsz
  generalize homeL n cs = hl at *
  generalize withB n cs pl hl = ok at *
  generalize withC n cs pl hl = cs' at *
  go_enter Try.func46, Try.ntmps46
  go_wp2_with fail
  refine (HC.out _ _ (h.below (by (repeat' (first | (with_reducible exact Below.refl _ _) | (with_reducible assumption) | (with_reducible refine Below.setCell ?_ (by first | omega | (simp; omega) | (simp; done)) _) | (with_reducible refine Below.alloc ?_ (by first | omega | (simp; omega) | (simp; done)) _) | (with_reducible refine Below.drew ?_) | (with_reducible refine below_drewN ?_ _))))).1).mono ?_
  rintro e W1 ⟨vl, rfl, ownl, q⟩
  have hvl : RdL cCross 2 W1 vl hl := RdS.of_own ownl
  clear ownl
  generalize crossesB n cs = okh at *
  obtain ⟨Al, cl, rfl, _, _⟩ := hvl.form
  have Lc : Loc W1 (w.heap.size) [.int .i64 n, .slice A1 cs.length n1, .slice A2 pl.length n2] := by have := ((Loc.new w #[.int .i64 n, .slice A1 cs.length n1, .slice A2 pl.length n2] 66).alloc _).below q; simpa using this
  have Lr : Loc W1 (w.heap.size + 1) [.int .i64 0, .slice none 0 0, .slice none 0 0] := by have := (Loc.new (w.alloc (.cells #[.int .i64 n, .slice A1 cs.length n1, .slice A2 pl.length n2] 66)) #[.int .i64 0, .slice none 0 0, .slice none 0 0] 66).below q; simpa using this
  have hb : Below w.heap.size w W1 := Below.trans (by (repeat' (first | (with_reducible exact Below.refl _ _) | (with_reducible assumption) | (with_reducible refine Below.setCell ?_ (by first | omega | (simp; omega) | (simp; done)) _) | (with_reducible refine Below.alloc ?_ (by first | omega | (simp; omega) | (simp; done)) _) | (with_reducible refine Below.drew ?_) | (with_reducible refine below_drewN ?_ _)))) (q.mono (by simp <;> omega))
  have hz0 : w.heap.size + 1 + 1 ≤ W1.heap.size := by have := q.size; simp at this; omega
  clear q
  have c0 := (Lc 0 _ rfl).1
  have c1 := (Lc 1 _ rfl).1
  have c2 := (Lc 2 _ rfl).1
  go_wp2_with fail
  refine (HW.out _ _ _ _ (h.below hb) hvl).mono ?_
  rintro e W2 ⟨x1, x2, S, rfl, ow, f1, q⟩
  clear c0 c1 c2
  obtain ⟨⟨B1, k1, rfl⟩, ⟨B2, k2, rfl⟩⟩ := ow.rd.forms
  clear hvl
  have hzq : W1.heap.size ≤ W2.heap.size := by have := q.size; (try simp at this); omega
  replace Lc := Lc.below q
  replace Lr := Lr.below q
  replace hb : Below w.heap.size w W2 := hb.trans (q.mono hb.size)
  have hlow : W1.heap.size ≤ W1.heap.size := by first | exact Nat.le_refl _ | (simp; done) | (simp; omega) | omega
  have FK := Lib.hid (fresh_mono f1 hlow (Nat.le_refl _))
  have DK : Hid (∀ x ∈ S, x ∉ [w.heap.size, w.heap.size + 1]) := (fun x hx => by have := (FK.out.2 x hx).1; simp; omega)
  have OK := Lib.hid ow
  clear ow f1 hlow
  clear q
  go_upto_region 3 with (fail)
  replace Lc : Loc (W2.alloc (.cells #[.int .i64 n, .slice B1 cs'.length k1, .slice B2 pl.length k2] 66)) (w.heap.size) [.int .i64 n, .slice A1 cs.length n1, .slice A2 pl.length n2] := Lc.alloc _
  replace Lr : Loc (W2.alloc (.cells #[.int .i64 n, .slice B1 cs'.length k1, .slice B2 pl.length k2] 66)) (w.heap.size + 1) [.int .i64 0, .slice none 0 0, .slice none 0 0] := Lr.alloc _
  obtain ⟨go, hgo⟩ : ∃ g, W2.heap.size = g := ⟨_, rfl⟩
  have Lo : Loc (W2.alloc (.cells #[.int .i64 n, .slice B1 cs'.length k1, .slice B2 pl.length k2] 66)) W2.heap.size [.int .i64 n, .slice B1 cs'.length k1, .slice B2 pl.length k2] := Loc.new W2 #[.int .i64 n, .slice B1 cs'.length k1, .slice B2 pl.length k2] 66
  rw [hgo] at Lo
  have OK' := Lib.hid (OK.out.below (w' := (W2.alloc (.cells #[.int .i64 n, .slice B1 cs'.length k1, .slice B2 pl.length k2] 66))) ((Below.refl _ _).alloc (Nat.le_refl _) _))
  clear OK; have OK := OK'; clear OK'
  have DK' : Hid (∀ x ∈ S, x ∉ [w.heap.size, w.heap.size + 1, go]) := (fun x hx => by have := DK.out x hx; have := (FK.out.2 x hx).2; simp at *; omega)
  clear DK; have DK := DK'; clear DK'
  have FK' := Lib.hid (fresh_mono (w' := (W2.alloc (.cells #[.int .i64 n, .slice B1 cs'.length k1, .slice B2 pl.length k2] 66))) FK.out (Nat.le_refl _) (by simp))
  clear FK; have FK := FK'; clear FK'
  replace hb : Below w.heap.size w (W2.alloc (.cells #[.int .i64 n, .slice B1 cs'.length k1, .slice B2 pl.length k2] 66)) := hb.alloc hb.size _
  have hlto : go < (W2.alloc (.cells #[.int .i64 n, .slice B1 cs'.length k1, .slice B2 pl.length k2] 66)).heap.size := by simp; omega
  have hne_c_o : w.heap.size < go := by omega
  have hne_r_o : w.heap.size + 1 < go := by omega
  generalize W2.alloc (.cells #[.int .i64 n, .slice B1 cs'.length k1, .slice B2 pl.length k2] 66) = W3 at *
  rw [hgo]
  clear hgo
  have o0 := (Lo 0 _ rfl).1
  have o1 := (Lo 1 _ rfl).1
  have o2 := (Lo 2 _ rfl).1
  have r0 := (Lr 0 _ rfl).1
  have rf0 := (Lr 0 _ rfl).2
  have r1 := (Lr 1 _ rfl).1
  have rf1 := (Lr 1 _ rfl).2
  have r2 := (Lr 2 _ rfl).1
  have rf2 := (Lr 2 _ rfl).2
  go_wp2_with fail
  refine bodyPost_ret (v := .tuple #[.agg #[.int .i64 n, .slice B1 cs'.length k1, .slice B2 pl.length k2], .bool ok]) (by simp [results, Try.results46, go_sem, *]) rfl (⟨_, _, S, rfl, ?_, ?_, ?_⟩)
  · exact OK.out.chg (T := [w.heap.size + 1]) (by repeat' (first | (with_reducible exact Chg.refl _ _) | (with_reducible refine chg_set ?_ (by simp)))) (fun x hx hx' => DK.out x hx (by simp at hx'; subst hx'; simp))
  · exact fresh_mono FK.out (by omega) (by simp)
  · exact Below.chg hb (S := [w.heap.size + 1]) (by repeat' (first | (with_reducible exact Chg.refl _ _) | (with_reducible refine chg_set ?_ (by simp)))) hb.size (fun x hx => by simp at hx; omega)
end Go.Proofs.Ytkejgogheonakaa
