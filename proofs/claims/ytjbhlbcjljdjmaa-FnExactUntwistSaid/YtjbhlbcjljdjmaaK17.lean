/- Contracts: a company untwists (both). Written by a program (gen_k16.py). -/
import Derived.Test.YtjbhlbcjljdjmaaK7
import Derived.Test.YtjbhlbcjljdjmaaZ5
namespace Go.Proofs.Ytjbhlbcjljdjmaa
open Go.RowKit
def untB (n : Int) (cs : List RCross) (pl : List RPl) : Bool := unwB n cs && withB n cs pl (unwV n cs)
def untC (n : Int) (cs : List RCross) (pl : List RPl) : List RCross := if untB n cs pl = true then cs ++ unwV n cs else cs
theorem unt_sz (n : Int) (cs : List RCross) (pl : List RPl) : szCompany (untC n cs pl) pl ≤ szCompany cs pl ∨ szCompany (untC n cs pl) pl ≤ 1000 := by
  unfold untC
  split
  · rename_i h
    rw [untB, Bool.and_eq_true] at h
    have := with_sz n cs pl (unwV n cs)
    rwa [withC, if_pos h.2] at this
  · exact .inl (Nat.le_refl _)
theorem unt_t {n : Int} {cs hl uc : List RCross} {pl : List RPl} {ub : Bool} (h : ub = (true && withB n cs pl hl) ∧ uc = if ub = true then cs ++ hl else cs) : withB n cs pl hl = ub ∧ withC n cs pl hl = uc := by
  obtain ⟨h1, h2⟩ := h
  rw [Bool.true_and] at h1
  exact ⟨h1.symm, by rw [h2, h1]; rfl⟩
theorem unt_f {n : Int} {cs hl uc : List RCross} {pl : List RPl} {ub : Bool} (h : ub = (false && withB n cs pl hl) ∧ uc = if ub = true then cs ++ hl else cs) : false = ub ∧ cs = uc := by
  obtain ⟨h1, h2⟩ := h
  rw [Bool.false_and] at h1
  exact ⟨h1.symm, by rw [h2, h1]; rfl⟩
set_option maxHeartbeats 8000000 in
set_option maxRecDepth 100000 in
theorem implUntwist_any (n : Int) (v1 v2 : Value) (cs : List RCross) (pl : List RPl) (w : World) (h : RdCompany w v1 v2 cs pl) (hsz : szCompany cs pl ≤ 1048576) :
    Calls Try.prog 25 #[.agg #[.int .i64 n, v1, v2]] w (RetCompany n (untB n cs pl) (untC n cs pl) pl w) := by
  obtain ⟨⟨A1, n1, rfl⟩, ⟨A2, n2, rfl⟩⟩ := h.forms
  have hU := fun W v hr => implUnwindAll_any n v cs W hr
  have HU : Hid (∀ (W : World) (v : Value), RdL cCross 2 W v cs → Calls Try.prog 72 #[.int .i64 n, v] W (RetUnw (unwB n cs) (unwV n cs) W)) := fun W v hr => hU W v hr
  clear hU
  have hll := unwV_len n cs
  have HG := Lib.hid (show untB n cs pl = (unwB n cs && withB n cs pl (unwV n cs)) ∧ untC n cs pl = if untB n cs pl = true then cs ++ unwV n cs else cs from ⟨rfl, rfl⟩)
  generalize untB n cs pl = ub at *
  generalize untC n cs pl = uc at *
  generalize unwB n cs = u at *
  generalize unwV n cs = hl at *
  cases u
  · skip
    obtain ⟨rfl, rfl⟩ := unt_f HG.out
    clear HG
    go_enter Try.func25, Try.ntmps25
    go_wp2_with fail
    refine (HU.out _ _ (h.below (by (repeat' (first | (with_reducible exact Below.refl _ _) | (with_reducible assumption) | (with_reducible refine Below.setCell ?_ (by first | omega | (simp; omega) | (simp; done)) _) | (with_reducible refine Below.alloc ?_ (by first | omega | (simp; omega) | (simp; done)) _) | (with_reducible refine Below.drew ?_) | (with_reducible refine below_drewN ?_ _))))).1).mono ?_
    rintro e W1 ⟨vl, rfl, ownl, q⟩
    have hvl : RdL cCross 2 W1 vl hl := RdS.of_own ownl
    clear ownl
    obtain ⟨Al, cl, rfl, _, _⟩ := hvl.form
    have Lc : Loc W1 (w.heap.size) [.int .i64 n, .slice A1 cs.length n1, .slice A2 pl.length n2] := by have := ((Loc.new w #[.int .i64 n, .slice A1 cs.length n1, .slice A2 pl.length n2] 47).alloc _).below q; simpa using this
    have Lr : Loc W1 (w.heap.size + 1) [.int .i64 0, .slice none 0 0, .slice none 0 0] := by have := (Loc.new (w.alloc (.cells #[.int .i64 n, .slice A1 cs.length n1, .slice A2 pl.length n2] 47)) #[.int .i64 0, .slice none 0 0, .slice none 0 0] 47).below q; simpa using this
    have hb : Below w.heap.size w W1 := Below.trans (by (repeat' (first | (with_reducible exact Below.refl _ _) | (with_reducible assumption) | (with_reducible refine Below.setCell ?_ (by first | omega | (simp; omega) | (simp; done)) _) | (with_reducible refine Below.alloc ?_ (by first | omega | (simp; omega) | (simp; done)) _) | (with_reducible refine Below.drew ?_) | (with_reducible refine below_drewN ?_ _)))) (q.mono (by simp <;> omega))
    have hz0 : w.heap.size + 1 + 1 ≤ W1.heap.size := by have := q.size; simp at this; omega
    clear q
    have c0 := (Lc 0 _ rfl).1
    have c1 := (Lc 1 _ rfl).1
    have c2 := (Lc 2 _ rfl).1
    go_wp2_with fail
    refine (companyCopied_any n _ _ cs pl _ (h.below hb) hsz).mono ?_
    rintro e W2 ⟨x1, x2, S, rfl, ow, f1, q⟩
    clear c0 c1 c2
    obtain ⟨⟨B1, k1, rfl⟩, ⟨B2, k2, rfl⟩⟩ := ow.rd.forms
    clear hvl hll
    have hzq : W1.heap.size ≤ W2.heap.size := by have := q.size; (try simp at this); omega
    replace Lc := Lc.below q
    replace Lr := Lr.below q
    replace hb : Below w.heap.size w W2 := hb.trans (q.mono hb.size)
    have hlow : W1.heap.size ≤ W1.heap.size := by first | exact Nat.le_refl _ | (simp; done) | (simp; omega) | omega
    have FK := Lib.hid (fresh_mono f1 hlow (Nat.le_refl _))
    have DK : Hid (∀ x ∈ S, x ∉ [w.heap.size, w.heap.size + 1]) := (fun x hx => by have := (FK.out.2 x hx).1; simp; omega)
    have OK := Lib.hid ow
    clear ow f1 hlow
    clear q
    have r0 := (Lr 0 _ rfl).1
    have rf0 := (Lr 0 _ rfl).2
    have r1 := (Lr 1 _ rfl).1
    have rf1 := (Lr 1 _ rfl).2
    have r2 := (Lr 2 _ rfl).1
    have rf2 := (Lr 2 _ rfl).2
    go_wp2_with fail
    refine bodyPost_ret (v := .tuple #[.agg #[.int .i64 n, .slice B1 cs.length k1, .slice B2 pl.length k2], .bool false]) (by simp [results, Try.results25, go_sem, *]) rfl (⟨_, _, S, rfl, ?_, ?_, ?_⟩)
    · exact OK.out.chg (T := [w.heap.size + 1]) (by repeat' (first | (with_reducible exact Chg.refl _ _) | (with_reducible refine chg_set ?_ (by simp)))) (fun x hx hx' => DK.out x hx (by simp at hx'; subst hx'; simp))
    · exact fresh_mono FK.out (by omega) (by simp)
    · exact Below.chg hb (S := [w.heap.size + 1]) (by repeat' (first | (with_reducible exact Chg.refl _ _) | (with_reducible refine chg_set ?_ (by simp)))) hb.size (fun x hx => by simp at hx; omega)
  · skip
    have HW : Hid (∀ (W : World) (vl v1 v2 : Value), RdCompany W v1 v2 cs pl → RdL cCross 2 W vl hl → Calls Try.prog 74 #[.agg #[.int .i64 n, v1, v2], vl] W (RetCompany n ub uc pl W)) := by
      obtain ⟨e1, e2⟩ := unt_t HG.out
      rw [← e1, ← e2]
      exact fun W vl v1 v2 h1 h2 => implWith_any n v1 v2 vl cs pl hl W h1 h2 (by omega) hsz
    clear HG
    go_enter Try.func25, Try.ntmps25
    go_wp2_with fail
    refine (HU.out _ _ (h.below (by (repeat' (first | (with_reducible exact Below.refl _ _) | (with_reducible assumption) | (with_reducible refine Below.setCell ?_ (by first | omega | (simp; omega) | (simp; done)) _) | (with_reducible refine Below.alloc ?_ (by first | omega | (simp; omega) | (simp; done)) _) | (with_reducible refine Below.drew ?_) | (with_reducible refine below_drewN ?_ _))))).1).mono ?_
    rintro e W1 ⟨vl, rfl, ownl, q⟩
    have hvl : RdL cCross 2 W1 vl hl := RdS.of_own ownl
    clear ownl
    obtain ⟨Al, cl, rfl, _, _⟩ := hvl.form
    have Lc : Loc W1 (w.heap.size) [.int .i64 n, .slice A1 cs.length n1, .slice A2 pl.length n2] := by have := ((Loc.new w #[.int .i64 n, .slice A1 cs.length n1, .slice A2 pl.length n2] 47).alloc _).below q; simpa using this
    have Lr : Loc W1 (w.heap.size + 1) [.int .i64 0, .slice none 0 0, .slice none 0 0] := by have := (Loc.new (w.alloc (.cells #[.int .i64 n, .slice A1 cs.length n1, .slice A2 pl.length n2] 47)) #[.int .i64 0, .slice none 0 0, .slice none 0 0] 47).below q; simpa using this
    have hb : Below w.heap.size w W1 := Below.trans (by (repeat' (first | (with_reducible exact Below.refl _ _) | (with_reducible assumption) | (with_reducible refine Below.setCell ?_ (by first | omega | (simp; omega) | (simp; done)) _) | (with_reducible refine Below.alloc ?_ (by first | omega | (simp; omega) | (simp; done)) _) | (with_reducible refine Below.drew ?_) | (with_reducible refine below_drewN ?_ _)))) (q.mono (by simp <;> omega))
    have hz0 : w.heap.size + 1 + 1 ≤ W1.heap.size := by have := q.size; simp at this; omega
    clear q
    have c0 := (Lc 0 _ rfl).1
    have c1 := (Lc 1 _ rfl).1
    have c2 := (Lc 2 _ rfl).1
    go_wp2_with fail
    refine (HW.out _ _ _ _ (h.below hb) hvl).mono ?_
    rintro e W2 ⟨x1, x2, S, rfl, ow, f1, q⟩
    clear c0 c1 c2
    obtain ⟨⟨B1, k1, rfl⟩, ⟨B2, k2, rfl⟩⟩ := ow.rd.forms
    clear hvl
    have hzq : W1.heap.size ≤ W2.heap.size := by have := q.size; (try simp at this); omega
    replace Lc := Lc.below q
    replace Lr := Lr.below q
    replace hb : Below w.heap.size w W2 := hb.trans (q.mono hb.size)
    have hlow : W1.heap.size ≤ W1.heap.size := by first | exact Nat.le_refl _ | (simp; done) | (simp; omega) | omega
    have FK := Lib.hid (fresh_mono f1 hlow (Nat.le_refl _))
    have DK : Hid (∀ x ∈ S, x ∉ [w.heap.size, w.heap.size + 1]) := (fun x hx => by have := (FK.out.2 x hx).1; simp; omega)
    have OK := Lib.hid ow
    clear ow f1 hlow
    clear q
    have r0 := (Lr 0 _ rfl).1
    have rf0 := (Lr 0 _ rfl).2
    have r1 := (Lr 1 _ rfl).1
    have rf1 := (Lr 1 _ rfl).2
    have r2 := (Lr 2 _ rfl).1
    have rf2 := (Lr 2 _ rfl).2
    go_wp2_with fail
    refine bodyPost_ret (v := .tuple #[.agg #[.int .i64 n, .slice B1 uc.length k1, .slice B2 pl.length k2], .bool ub]) (by simp [results, Try.results25, go_sem, *]) rfl (⟨_, _, S, rfl, ?_, ?_, ?_⟩)
    · exact OK.out.chg (T := [w.heap.size + 1]) (by repeat' (first | (with_reducible exact Chg.refl _ _) | (with_reducible refine chg_set ?_ (by simp)))) (fun x hx hx' => DK.out x hx (by simp at hx'; subst hx'; simp))
    · exact fresh_mono FK.out (by omega) (by simp)
    · exact Below.chg hb (S := [w.heap.size + 1]) (by repeat' (first | (with_reducible exact Chg.refl _ _) | (with_reducible refine chg_set ?_ (by simp)))) hb.size (fun x hx => by simp at hx; omega)
set_option maxHeartbeats 8000000 in
set_option maxRecDepth 100000 in
theorem specUntwist_any (n : Int) (v1 v2 : Value) (cs : List RCross) (pl : List RPl) (w : World) (h : RdCompany w v1 v2 cs pl) (hsz : szCompany cs pl ≤ 1048576) :
    Calls Try.prog 24 #[.agg #[.int .i64 n, v1, v2]] w (RetCompany n (untB n cs pl) (untC n cs pl) pl w) := by
  obtain ⟨⟨A1, n1, rfl⟩, ⟨A2, n2, rfl⟩⟩ := h.forms
  have hU := fun W v hr => specUnwindAll_any n v cs W hr
  have HU : Hid (∀ (W : World) (v : Value), RdL cCross 2 W v cs → Calls Try.prog 69 #[.int .i64 n, v] W (RetUnw (unwB n cs) (unwV n cs) W)) := fun W v hr => hU W v hr
  clear hU
  have hll := unwV_len n cs
  have HG := Lib.hid (show untB n cs pl = (unwB n cs && withB n cs pl (unwV n cs)) ∧ untC n cs pl = if untB n cs pl = true then cs ++ unwV n cs else cs from ⟨rfl, rfl⟩)
  generalize untB n cs pl = ub at *
  generalize untC n cs pl = uc at *
  generalize unwB n cs = u at *
  generalize unwV n cs = hl at *
  cases u
  · skip
    obtain ⟨rfl, rfl⟩ := unt_f HG.out
    clear HG
    go_enter Try.func24, Try.ntmps24
    go_wp2_with fail
    refine (HU.out _ _ (h.below (by (repeat' (first | (with_reducible exact Below.refl _ _) | (with_reducible assumption) | (with_reducible refine Below.setCell ?_ (by first | omega | (simp; omega) | (simp; done)) _) | (with_reducible refine Below.alloc ?_ (by first | omega | (simp; omega) | (simp; done)) _) | (with_reducible refine Below.drew ?_) | (with_reducible refine below_drewN ?_ _))))).1).mono ?_
    rintro e W1 ⟨vl, rfl, ownl, q⟩
    have hvl : RdL cCross 2 W1 vl hl := RdS.of_own ownl
    clear ownl
    obtain ⟨Al, cl, rfl, _, _⟩ := hvl.form
    have Lc : Loc W1 (w.heap.size) [.int .i64 n, .slice A1 cs.length n1, .slice A2 pl.length n2] := by have := ((Loc.new w #[.int .i64 n, .slice A1 cs.length n1, .slice A2 pl.length n2] 47).alloc _).below q; simpa using this
    have Lr : Loc W1 (w.heap.size + 1) [.int .i64 0, .slice none 0 0, .slice none 0 0] := by have := (Loc.new (w.alloc (.cells #[.int .i64 n, .slice A1 cs.length n1, .slice A2 pl.length n2] 47)) #[.int .i64 0, .slice none 0 0, .slice none 0 0] 47).below q; simpa using this
    have hb : Below w.heap.size w W1 := Below.trans (by (repeat' (first | (with_reducible exact Below.refl _ _) | (with_reducible assumption) | (with_reducible refine Below.setCell ?_ (by first | omega | (simp; omega) | (simp; done)) _) | (with_reducible refine Below.alloc ?_ (by first | omega | (simp; omega) | (simp; done)) _) | (with_reducible refine Below.drew ?_) | (with_reducible refine below_drewN ?_ _)))) (q.mono (by simp <;> omega))
    have hz0 : w.heap.size + 1 + 1 ≤ W1.heap.size := by have := q.size; simp at this; omega
    clear q
    have c0 := (Lc 0 _ rfl).1
    have c1 := (Lc 1 _ rfl).1
    have c2 := (Lc 2 _ rfl).1
    go_wp2_with fail
    refine (l37Copy_any n _ _ cs pl _ (h.below hb) hsz).mono ?_
    rintro e W2 ⟨x1, x2, S, rfl, ow, f1, q⟩
    clear c0 c1 c2
    obtain ⟨⟨B1, k1, rfl⟩, ⟨B2, k2, rfl⟩⟩ := ow.rd.forms
    clear hvl hll
    have hzq : W1.heap.size ≤ W2.heap.size := by have := q.size; (try simp at this); omega
    replace Lc := Lc.below q
    replace Lr := Lr.below q
    replace hb : Below w.heap.size w W2 := hb.trans (q.mono hb.size)
    have hlow : W1.heap.size ≤ W1.heap.size := by first | exact Nat.le_refl _ | (simp; done) | (simp; omega) | omega
    have FK := Lib.hid (fresh_mono f1 hlow (Nat.le_refl _))
    have DK : Hid (∀ x ∈ S, x ∉ [w.heap.size, w.heap.size + 1]) := (fun x hx => by have := (FK.out.2 x hx).1; simp; omega)
    have OK := Lib.hid ow
    clear ow f1 hlow
    clear q
    have r0 := (Lr 0 _ rfl).1
    have rf0 := (Lr 0 _ rfl).2
    have r1 := (Lr 1 _ rfl).1
    have rf1 := (Lr 1 _ rfl).2
    have r2 := (Lr 2 _ rfl).1
    have rf2 := (Lr 2 _ rfl).2
    go_wp2_with fail
    refine bodyPost_ret (v := .tuple #[.agg #[.int .i64 n, .slice B1 cs.length k1, .slice B2 pl.length k2], .bool false]) (by simp [results, Try.results24, go_sem, *]) rfl (⟨_, _, S, rfl, ?_, ?_, ?_⟩)
    · exact OK.out.chg (T := [w.heap.size + 1]) (by repeat' (first | (with_reducible exact Chg.refl _ _) | (with_reducible refine chg_set ?_ (by simp)))) (fun x hx hx' => DK.out x hx (by simp at hx'; subst hx'; simp))
    · exact fresh_mono FK.out (by omega) (by simp)
    · exact Below.chg hb (S := [w.heap.size + 1]) (by repeat' (first | (with_reducible exact Chg.refl _ _) | (with_reducible refine chg_set ?_ (by simp)))) hb.size (fun x hx => by simp at hx; omega)
  · skip
    have HW : Hid (∀ (W : World) (vl v1 v2 : Value), RdCompany W v1 v2 cs pl → RdL cCross 2 W vl hl → Calls Try.prog 71 #[.agg #[.int .i64 n, v1, v2], vl] W (RetCompany n ub uc pl W)) := by
      obtain ⟨e1, e2⟩ := unt_t HG.out
      rw [← e1, ← e2]
      exact fun W vl v1 v2 h1 h2 => l37Add_any n v1 v2 vl cs pl hl W h1 h2 (by omega) hsz
    clear HG
    go_enter Try.func24, Try.ntmps24
    go_wp2_with fail
    refine (HU.out _ _ (h.below (by (repeat' (first | (with_reducible exact Below.refl _ _) | (with_reducible assumption) | (with_reducible refine Below.setCell ?_ (by first | omega | (simp; omega) | (simp; done)) _) | (with_reducible refine Below.alloc ?_ (by first | omega | (simp; omega) | (simp; done)) _) | (with_reducible refine Below.drew ?_) | (with_reducible refine below_drewN ?_ _))))).1).mono ?_
    rintro e W1 ⟨vl, rfl, ownl, q⟩
    have hvl : RdL cCross 2 W1 vl hl := RdS.of_own ownl
    clear ownl
    obtain ⟨Al, cl, rfl, _, _⟩ := hvl.form
    have Lc : Loc W1 (w.heap.size) [.int .i64 n, .slice A1 cs.length n1, .slice A2 pl.length n2] := by have := ((Loc.new w #[.int .i64 n, .slice A1 cs.length n1, .slice A2 pl.length n2] 47).alloc _).below q; simpa using this
    have Lr : Loc W1 (w.heap.size + 1) [.int .i64 0, .slice none 0 0, .slice none 0 0] := by have := (Loc.new (w.alloc (.cells #[.int .i64 n, .slice A1 cs.length n1, .slice A2 pl.length n2] 47)) #[.int .i64 0, .slice none 0 0, .slice none 0 0] 47).below q; simpa using this
    have hb : Below w.heap.size w W1 := Below.trans (by (repeat' (first | (with_reducible exact Below.refl _ _) | (with_reducible assumption) | (with_reducible refine Below.setCell ?_ (by first | omega | (simp; omega) | (simp; done)) _) | (with_reducible refine Below.alloc ?_ (by first | omega | (simp; omega) | (simp; done)) _) | (with_reducible refine Below.drew ?_) | (with_reducible refine below_drewN ?_ _)))) (q.mono (by simp <;> omega))
    have hz0 : w.heap.size + 1 + 1 ≤ W1.heap.size := by have := q.size; simp at this; omega
    clear q
    have c0 := (Lc 0 _ rfl).1
    have c1 := (Lc 1 _ rfl).1
    have c2 := (Lc 2 _ rfl).1
    go_wp2_with fail
    refine (HW.out _ _ _ _ (h.below hb) hvl).mono ?_
    rintro e W2 ⟨x1, x2, S, rfl, ow, f1, q⟩
    clear c0 c1 c2
    obtain ⟨⟨B1, k1, rfl⟩, ⟨B2, k2, rfl⟩⟩ := ow.rd.forms
    clear hvl
    have hzq : W1.heap.size ≤ W2.heap.size := by have := q.size; (try simp at this); omega
    replace Lc := Lc.below q
    replace Lr := Lr.below q
    replace hb : Below w.heap.size w W2 := hb.trans (q.mono hb.size)
    have hlow : W1.heap.size ≤ W1.heap.size := by first | exact Nat.le_refl _ | (simp; done) | (simp; omega) | omega
    have FK := Lib.hid (fresh_mono f1 hlow (Nat.le_refl _))
    have DK : Hid (∀ x ∈ S, x ∉ [w.heap.size, w.heap.size + 1]) := (fun x hx => by have := (FK.out.2 x hx).1; simp; omega)
    have OK := Lib.hid ow
    clear ow f1 hlow
    clear q
    go_upto_region 5 with (fail)
    replace Lc : Loc (W2.alloc (.cells #[.int .i64 n, .slice B1 uc.length k1, .slice B2 pl.length k2] 47)) (w.heap.size) [.int .i64 n, .slice A1 cs.length n1, .slice A2 pl.length n2] := Lc.alloc _
    replace Lr : Loc (W2.alloc (.cells #[.int .i64 n, .slice B1 uc.length k1, .slice B2 pl.length k2] 47)) (w.heap.size + 1) [.int .i64 0, .slice none 0 0, .slice none 0 0] := Lr.alloc _
    obtain ⟨go, hgo⟩ : ∃ g, W2.heap.size = g := ⟨_, rfl⟩
    have Lo : Loc (W2.alloc (.cells #[.int .i64 n, .slice B1 uc.length k1, .slice B2 pl.length k2] 47)) W2.heap.size [.int .i64 n, .slice B1 uc.length k1, .slice B2 pl.length k2] := Loc.new W2 #[.int .i64 n, .slice B1 uc.length k1, .slice B2 pl.length k2] 47
    rw [hgo] at Lo
    have OK' := Lib.hid (OK.out.below (w' := (W2.alloc (.cells #[.int .i64 n, .slice B1 uc.length k1, .slice B2 pl.length k2] 47))) ((Below.refl _ _).alloc (Nat.le_refl _) _))
    clear OK; have OK := OK'; clear OK'
    have DK' : Hid (∀ x ∈ S, x ∉ [w.heap.size, w.heap.size + 1, go]) := (fun x hx => by have := DK.out x hx; have := (FK.out.2 x hx).2; simp at *; omega)
    clear DK; have DK := DK'; clear DK'
    have FK' := Lib.hid (fresh_mono (w' := (W2.alloc (.cells #[.int .i64 n, .slice B1 uc.length k1, .slice B2 pl.length k2] 47))) FK.out (Nat.le_refl _) (by simp))
    clear FK; have FK := FK'; clear FK'
    replace hb : Below w.heap.size w (W2.alloc (.cells #[.int .i64 n, .slice B1 uc.length k1, .slice B2 pl.length k2] 47)) := hb.alloc hb.size _
    have hlto : go < (W2.alloc (.cells #[.int .i64 n, .slice B1 uc.length k1, .slice B2 pl.length k2] 47)).heap.size := by simp; omega
    have hne_c_o : w.heap.size < go := by omega
    have hne_r_o : w.heap.size + 1 < go := by omega
    generalize W2.alloc (.cells #[.int .i64 n, .slice B1 uc.length k1, .slice B2 pl.length k2] 47) = W3 at *
    rw [hgo]
    clear hgo
    have o0 := (Lo 0 _ rfl).1
    have o1 := (Lo 1 _ rfl).1
    have o2 := (Lo 2 _ rfl).1
    have r0 := (Lr 0 _ rfl).1
    have rf0 := (Lr 0 _ rfl).2
    have r1 := (Lr 1 _ rfl).1
    have rf1 := (Lr 1 _ rfl).2
    have r2 := (Lr 2 _ rfl).1
    have rf2 := (Lr 2 _ rfl).2
    go_wp2_with fail
    refine bodyPost_ret (v := .tuple #[.agg #[.int .i64 n, .slice B1 uc.length k1, .slice B2 pl.length k2], .bool ub]) (by simp [results, Try.results24, go_sem, *]) rfl (⟨_, _, S, rfl, ?_, ?_, ?_⟩)
    · exact OK.out.chg (T := [w.heap.size + 1]) (by repeat' (first | (with_reducible exact Chg.refl _ _) | (with_reducible refine chg_set ?_ (by simp)))) (fun x hx hx' => DK.out x hx (by simp at hx'; subst hx'; simp))
    · exact fresh_mono FK.out (by omega) (by simp)
    · exact Below.chg hb (S := [w.heap.size + 1]) (by repeat' (first | (with_reducible exact Chg.refl _ _) | (with_reducible refine chg_set ?_ (by simp)))) hb.size (fun x hx => by simp at hx; omega)
end Go.Proofs.Ytjbhlbcjljdjmaa
