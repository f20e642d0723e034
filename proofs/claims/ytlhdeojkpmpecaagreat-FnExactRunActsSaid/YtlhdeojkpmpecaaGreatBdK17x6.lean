/- Several texts in one: Contracts: a company untwists (both). Written by a program (gen_k16.py). Contracts: GiveShow. Written by a program (gen_k19.py). Contracts: PutInOrder. Written by a program (gen_k19.py). Contracts: DoAct of the program. Written by a program (gen_k21.py). Contracts: DoAct of the reference. Written by a program (gen_k21.py). Contracts: RunActs of the program. Written by a program (gen_k23.py). -/
import Derived.Test.YtlhdeojkpmpecaaGreatBdK7x9
import Derived.Test.YtlhdeojkpmpecaaGreatBdY7x8
import Derived.Test.YtlhdeojkpmpecaaGreatBdM5x7
import Derived.Test.YtlhdeojkpmpecaaGreatBdT4x10
import Derived.Test.YtlhdeojkpmpecaaGreatBdI7x12
namespace Go.Proofs.YtlhdeojkpmpecaaGreat
open Go.RowKit
def untB (n : Int) (cs : List RCross) (pl : List RPl) : Bool := unwB n cs && withB n cs pl (unwV n cs)
def untC (n : Int) (cs : List RCross) (pl : List RPl) : List RCross := if untB n cs pl = true then cs ++ unwV n cs else cs
theorem unt_sz (n : Int) (cs : List RCross) (pl : List RPl) : szCompany (untC n cs pl) pl ≤ szCompany cs pl ∨ szCompany (untC n cs pl) pl ≤ 1000 := by
 unfold untC
 split
 ·rename_i h
  rw [untB, Bool.and_eq_true] at h
  have := with_sz n cs pl (unwV n cs)
  rwa [withC, if_pos h.2] at this
 ·exact .inl (Nat.le_refl _)
theorem unt_t {n : Int} {cs hl uc : List RCross} {pl : List RPl} {ub : Bool} (h : ub = (true && withB n cs pl hl) ∧ uc = if ub = true then cs ++ hl else cs) : withB n cs pl hl = ub ∧ withC n cs pl hl = uc := by
 obtain ⟨h1, h2⟩ := h
 rw [Bool.true_and] at h1
 exact ⟨h1.symm, by rw [h2, h1]; rfl⟩
theorem unt_f {n : Int} {cs hl uc : List RCross} {pl : List RPl} {ub : Bool} (h : ub = (false && withB n cs pl hl) ∧ uc = if ub = true then cs ++ hl else cs) : false = ub ∧ cs = uc := by
 obtain ⟨h1, h2⟩ := h
 rw [Bool.false_and] at h1
 exact ⟨h1.symm, by rw [h2, h1]; rfl⟩
set_option maxHeartbeats 8000000 in
set_option maxRecDepth 100000 in
theorem implUntwist_any (n : Int) (v1 v2 : Value) (cs : List RCross) (pl : List RPl) (w : World) (h : RdCompany w v1 v2 cs pl) (hsz : szCompany cs pl ≤ 1048576) :
  Calls Tryz.prog 91 #[.agg #[.int .i64 n, v1, v2]] w (RetCompany n (untB n cs pl) (untC n cs pl) pl w) := by
 obtain ⟨⟨A1, n1, rfl⟩, ⟨A2, n2, rfl⟩⟩ := h.forms
 have hU := fun W v hr => implUnwindAll_any n v cs W hr
 have HU : Hid (∀ (W : World) (v : Value), RdL cCross 2 W v cs → Calls Tryz.prog 137 #[.int .i64 n, v] W (RetUnw (unwB n cs) (unwV n cs) W)) := fun W v hr => hU W v hr
 clear hU
 have hll := unwV_len n cs
 have HG := Lib.hid (show untB n cs pl = (unwB n cs && withB n cs pl (unwV n cs)) ∧ untC n cs pl = if untB n cs pl = true then cs ++ unwV n cs else cs from ⟨rfl, rfl⟩)
 generalize untB n cs pl = ub at *
 generalize untC n cs pl = uc at *
 generalize unwB n cs = u at *
 generalize unwV n cs = hl at *
 cases u
 ·skip
  obtain ⟨rfl, rfl⟩ := unt_f HG.out
  clear HG
  go_enter Tryz.func91, Tryz.ntmps91
  go_wp2_with fail
  refine (HU.out _ _ (h.below (by (repeat' (with_reducible first | exact Below.refl _ _ | assumption | refine qS ?_ _ | refine qA ?_ _ | refine qD ?_ | refine qN ?_ _)))).1).mono ?_
  rintro e W1 ⟨vl, rfl, ownl, q⟩
  have hvl : RdL cCross 2 W1 vl hl := RdS.of_own ownl
  clear ownl
  obtain ⟨Al, cl, rfl, _, _⟩ := hvl.form
  have Lc : Loc W1 (w.heap.size) [.int .i64 n, .slice A1 cs.length n1, .slice A2 pl.length n2] := by have := ((Loc.new w #[.int .i64 n, .slice A1 cs.length n1, .slice A2 pl.length n2] 35).alloc _).below q; simpa using this
  have Lr : Loc W1 (w.heap.size + 1) [.int .i64 0, .slice none 0 0, .slice none 0 0] := by have := (Loc.new (w.alloc (.cells #[.int .i64 n, .slice A1 cs.length n1, .slice A2 pl.length n2] 35)) #[.int .i64 0, .slice none 0 0, .slice none 0 0] 35).below q; simpa using this
  have hb : Below w.heap.size w W1 := Below.trans (by (repeat' (with_reducible first | exact Below.refl _ _ | assumption | refine qS ?_ _ | refine qA ?_ _ | refine qD ?_ | refine qN ?_ _))) (q.mono (by simp <;> omega))
  have hz0 : w.heap.size + 1 + 1 ≤ W1.heap.size := by have := q.size; simp at this; omega
  clear q
  have c0 := (Lc 0 _ rfl).1
  have c1 := (Lc 1 _ rfl).1
  have c2 := (Lc 2 _ rfl).1
  go_wp2_with fail
  refine (companyCopied_any n _ _ cs pl _ (h.below hb) hsz).mono ?_
  rintro e W2 ⟨x1, x2, S, rfl, ow, f1, q⟩
  clear c0 c1 c2
  obtain ⟨⟨B1, k1, rfl⟩, ⟨B2, k2, rfl⟩⟩ := ow.rd.forms
  clear hvl hll
  have hzq : W1.heap.size ≤ W2.heap.size := by have := q.size; (try simp at this); omega
  replace Lc := Lc.below q
  replace Lr := Lr.below q
  replace hb : Below w.heap.size w W2 := hb.trans (q.mono hb.size)
  have hlow : W1.heap.size ≤ W1.heap.size := by first | exact Nat.le_refl _ | (simp; done) | (simp; omega) | omega
  have FK := Lib.hid (fresh_mono f1 hlow (Nat.le_refl _))
  have DK : Hid (∀ x ∈ S, x ∉ [w.heap.size, w.heap.size + 1]) := (fun x hx => by have := (FK.out.2 x hx).1; simp; omega)
  have OK := Lib.hid ow
  clear ow f1 hlow
  clear q
  have r0 := (Lr 0 _ rfl).1
  have rf0 := (Lr 0 _ rfl).2
  have r1 := (Lr 1 _ rfl).1
  have rf1 := (Lr 1 _ rfl).2
  have r2 := (Lr 2 _ rfl).1
  have rf2 := (Lr 2 _ rfl).2
  go_wp2_with fail
  refine bodyPost_ret (v := .tuple #[.agg #[.int .i64 n, .slice B1 cs.length k1, .slice B2 pl.length k2], .bool false]) (by simp [results, Tryz.results91, go_sem, *]) rfl (⟨_, _, S, rfl, ?_, ?_, ?_⟩)
  ·exact OK.out.chg (T := [w.heap.size + 1]) (by repeat' (with_reducible first | exact Chg.refl _ _ | refine qC ?_)) (fun x hx hx' => DK.out x hx (by simp at hx'; subst hx'; simp))
  ·exact fresh_mono FK.out (by omega) (by simp)
  ·exact Below.chg hb (S := [w.heap.size + 1]) (by repeat' (with_reducible first | exact Chg.refl _ _ | refine qC ?_)) hb.size (fun x hx => by simp at hx; omega)
 ·skip
  have HW : Hid (∀ (W : World) (vl v1 v2 : Value), RdCompany W v1 v2 cs pl → RdL cCross 2 W vl hl → Calls Tryz.prog 135 #[.agg #[.int .i64 n, v1, v2], vl] W (RetCompany n ub uc pl W)) := by
   obtain ⟨e1, e2⟩ := unt_t HG.out
   rw [← e1, ← e2]
   exact fun W vl v1 v2 h1 h2 => implWith_any n v1 v2 vl cs pl hl W h1 h2 (by omega) hsz
  clear HG
  go_enter Tryz.func91, Tryz.ntmps91
  go_wp2_with fail
  refine (HU.out _ _ (h.below (by (repeat' (with_reducible first | exact Below.refl _ _ | assumption | refine qS ?_ _ | refine qA ?_ _ | refine qD ?_ | refine qN ?_ _)))).1).mono ?_
  rintro e W1 ⟨vl, rfl, ownl, q⟩
  have hvl : RdL cCross 2 W1 vl hl := RdS.of_own ownl
  clear ownl
  obtain ⟨Al, cl, rfl, _, _⟩ := hvl.form
  have Lc : Loc W1 (w.heap.size) [.int .i64 n, .slice A1 cs.length n1, .slice A2 pl.length n2] := by have := ((Loc.new w #[.int .i64 n, .slice A1 cs.length n1, .slice A2 pl.length n2] 35).alloc _).below q; simpa using this
  have Lr : Loc W1 (w.heap.size + 1) [.int .i64 0, .slice none 0 0, .slice none 0 0] := by have := (Loc.new (w.alloc (.cells #[.int .i64 n, .slice A1 cs.length n1, .slice A2 pl.length n2] 35)) #[.int .i64 0, .slice none 0 0, .slice none 0 0] 35).below q; simpa using this
  have hb : Below w.heap.size w W1 := Below.trans (by (repeat' (with_reducible first | exact Below.refl _ _ | assumption | refine qS ?_ _ | refine qA ?_ _ | refine qD ?_ | refine qN ?_ _))) (q.mono (by simp <;> omega))
  have hz0 : w.heap.size + 1 + 1 ≤ W1.heap.size := by have := q.size; simp at this; omega
  clear q
  have c0 := (Lc 0 _ rfl).1
  have c1 := (Lc 1 _ rfl).1
  have c2 := (Lc 2 _ rfl).1
  go_wp2_with fail
  refine (HW.out _ _ _ _ (h.below hb) hvl).mono ?_
  rintro e W2 ⟨x1, x2, S, rfl, ow, f1, q⟩
  clear c0 c1 c2
  obtain ⟨⟨B1, k1, rfl⟩, ⟨B2, k2, rfl⟩⟩ := ow.rd.forms
  clear hvl
  have hzq : W1.heap.size ≤ W2.heap.size := by have := q.size; (try simp at this); omega
  replace Lc := Lc.below q
  replace Lr := Lr.below q
  replace hb : Below w.heap.size w W2 := hb.trans (q.mono hb.size)
  have hlow : W1.heap.size ≤ W1.heap.size := by first | exact Nat.le_refl _ | (simp; done) | (simp; omega) | omega
  have FK := Lib.hid (fresh_mono f1 hlow (Nat.le_refl _))
  have DK : Hid (∀ x ∈ S, x ∉ [w.heap.size, w.heap.size + 1]) := (fun x hx => by have := (FK.out.2 x hx).1; simp; omega)
  have OK := Lib.hid ow
  clear ow f1 hlow
  clear q
  have r0 := (Lr 0 _ rfl).1
  have rf0 := (Lr 0 _ rfl).2
  have r1 := (Lr 1 _ rfl).1
  have rf1 := (Lr 1 _ rfl).2
  have r2 := (Lr 2 _ rfl).1
  have rf2 := (Lr 2 _ rfl).2
  go_wp2_with fail
  refine bodyPost_ret (v := .tuple #[.agg #[.int .i64 n, .slice B1 uc.length k1, .slice B2 pl.length k2], .bool ub]) (by simp [results, Tryz.results91, go_sem, *]) rfl (⟨_, _, S, rfl, ?_, ?_, ?_⟩)
  ·exact OK.out.chg (T := [w.heap.size + 1]) (by repeat' (with_reducible first | exact Chg.refl _ _ | refine qC ?_)) (fun x hx hx' => DK.out x hx (by simp at hx'; subst hx'; simp))
  ·exact fresh_mono FK.out (by omega) (by simp)
  ·exact Below.chg hb (S := [w.heap.size + 1]) (by repeat' (with_reducible first | exact Chg.refl _ _ | refine qC ?_)) hb.size (fun x hx => by simp at hx; omega)
set_option maxHeartbeats 8000000 in
set_option maxRecDepth 100000 in
theorem specUntwist_any (n : Int) (v1 v2 : Value) (cs : List RCross) (pl : List RPl) (w : World) (h : RdCompany w v1 v2 cs pl) (hsz : szCompany cs pl ≤ 1048576) :
  Calls Tryz.prog 114 #[.agg #[.int .i64 n, v1, v2]] w (RetCompany n (untB n cs pl) (untC n cs pl) pl w) := by
 obtain ⟨⟨A1, n1, rfl⟩, ⟨A2, n2, rfl⟩⟩ := h.forms
 have hU := fun W v hr => specUnwindAll_any n v cs W hr
 have HU : Hid (∀ (W : World) (v : Value), RdL cCross 2 W v cs → Calls Tryz.prog 153 #[.int .i64 n, v] W (RetUnw (unwB n cs) (unwV n cs) W)) := fun W v hr => hU W v hr
 clear hU
 have hll := unwV_len n cs
 have HG := Lib.hid (show untB n cs pl = (unwB n cs && withB n cs pl (unwV n cs)) ∧ untC n cs pl = if untB n cs pl = true then cs ++ unwV n cs else cs from ⟨rfl, rfl⟩)
 generalize untB n cs pl = ub at *
 generalize untC n cs pl = uc at *
 generalize unwB n cs = u at *
 generalize unwV n cs = hl at *
 cases u
 ·skip
  obtain ⟨rfl, rfl⟩ := unt_f HG.out
  clear HG
  go_enter Tryz.func114, Tryz.ntmps114
  go_wp2_with fail
  refine (HU.out _ _ (h.below (by (repeat' (with_reducible first | exact Below.refl _ _ | assumption | refine qS ?_ _ | refine qA ?_ _ | refine qD ?_ | refine qN ?_ _)))).1).mono ?_
  rintro e W1 ⟨vl, rfl, ownl, q⟩
  have hvl : RdL cCross 2 W1 vl hl := RdS.of_own ownl
  clear ownl
  obtain ⟨Al, cl, rfl, _, _⟩ := hvl.form
  have Lc : Loc W1 (w.heap.size) [.int .i64 n, .slice A1 cs.length n1, .slice A2 pl.length n2] := by have := ((Loc.new w #[.int .i64 n, .slice A1 cs.length n1, .slice A2 pl.length n2] 35).alloc _).below q; simpa using this
  have Lr : Loc W1 (w.heap.size + 1) [.int .i64 0, .slice none 0 0, .slice none 0 0] := by have := (Loc.new (w.alloc (.cells #[.int .i64 n, .slice A1 cs.length n1, .slice A2 pl.length n2] 35)) #[.int .i64 0, .slice none 0 0, .slice none 0 0] 35).below q; simpa using this
  have hb : Below w.heap.size w W1 := Below.trans (by (repeat' (with_reducible first | exact Below.refl _ _ | assumption | refine qS ?_ _ | refine qA ?_ _ | refine qD ?_ | refine qN ?_ _))) (q.mono (by simp <;> omega))
  have hz0 : w.heap.size + 1 + 1 ≤ W1.heap.size := by have := q.size; simp at this; omega
  clear q
  have c0 := (Lc 0 _ rfl).1
  have c1 := (Lc 1 _ rfl).1
  have c2 := (Lc 2 _ rfl).1
  go_wp2_with fail
  refine (l37Copy_any n _ _ cs pl _ (h.below hb) hsz).mono ?_
  rintro e W2 ⟨x1, x2, S, rfl, ow, f1, q⟩
  clear c0 c1 c2
  obtain ⟨⟨B1, k1, rfl⟩, ⟨B2, k2, rfl⟩⟩ := ow.rd.forms
  clear hvl hll
  have hzq : W1.heap.size ≤ W2.heap.size := by have := q.size; (try simp at this); omega
  replace Lc := Lc.below q
  replace Lr := Lr.below q
  replace hb : Below w.heap.size w W2 := hb.trans (q.mono hb.size)
  have hlow : W1.heap.size ≤ W1.heap.size := by first | exact Nat.le_refl _ | (simp; done) | (simp; omega) | omega
  have FK := Lib.hid (fresh_mono f1 hlow (Nat.le_refl _))
  have DK : Hid (∀ x ∈ S, x ∉ [w.heap.size, w.heap.size + 1]) := (fun x hx => by have := (FK.out.2 x hx).1; simp; omega)
  have OK := Lib.hid ow
  clear ow f1 hlow
  clear q
  have r0 := (Lr 0 _ rfl).1
  have rf0 := (Lr 0 _ rfl).2
  have r1 := (Lr 1 _ rfl).1
  have rf1 := (Lr 1 _ rfl).2
  have r2 := (Lr 2 _ rfl).1
  have rf2 := (Lr 2 _ rfl).2
  go_wp2_with fail
  refine bodyPost_ret (v := .tuple #[.agg #[.int .i64 n, .slice B1 cs.length k1, .slice B2 pl.length k2], .bool false]) (by simp [results, Tryz.results114, go_sem, *]) rfl (⟨_, _, S, rfl, ?_, ?_, ?_⟩)
  ·exact OK.out.chg (T := [w.heap.size + 1]) (by repeat' (with_reducible first | exact Chg.refl _ _ | refine qC ?_)) (fun x hx hx' => DK.out x hx (by simp at hx'; subst hx'; simp))
  ·exact fresh_mono FK.out (by omega) (by simp)
  ·exact Below.chg hb (S := [w.heap.size + 1]) (by repeat' (with_reducible first | exact Chg.refl _ _ | refine qC ?_)) hb.size (fun x hx => by simp at hx; omega)
 ·skip
  have HW : Hid (∀ (W : World) (vl v1 v2 : Value), RdCompany W v1 v2 cs pl → RdL cCross 2 W vl hl → Calls Tryz.prog 151 #[.agg #[.int .i64 n, v1, v2], vl] W (RetCompany n ub uc pl W)) := by
   obtain ⟨e1, e2⟩ := unt_t HG.out
   rw [← e1, ← e2]
   exact fun W vl v1 v2 h1 h2 => l37Add_any n v1 v2 vl cs pl hl W h1 h2 (by omega) hsz
  clear HG
  go_enter Tryz.func114, Tryz.ntmps114
  go_wp2_with fail
  refine (HU.out _ _ (h.below (by (repeat' (with_reducible first | exact Below.refl _ _ | assumption | refine qS ?_ _ | refine qA ?_ _ | refine qD ?_ | refine qN ?_ _)))).1).mono ?_
  rintro e W1 ⟨vl, rfl, ownl, q⟩
  have hvl : RdL cCross 2 W1 vl hl := RdS.of_own ownl
  clear ownl
  obtain ⟨Al, cl, rfl, _, _⟩ := hvl.form
  have Lc : Loc W1 (w.heap.size) [.int .i64 n, .slice A1 cs.length n1, .slice A2 pl.length n2] := by have := ((Loc.new w #[.int .i64 n, .slice A1 cs.length n1, .slice A2 pl.length n2] 35).alloc _).below q; simpa using this
  have Lr : Loc W1 (w.heap.size + 1) [.int .i64 0, .slice none 0 0, .slice none 0 0] := by have := (Loc.new (w.alloc (.cells #[.int .i64 n, .slice A1 cs.length n1, .slice A2 pl.length n2] 35)) #[.int .i64 0, .slice none 0 0, .slice none 0 0] 35).below q; simpa using this
  have hb : Below w.heap.size w W1 := Below.trans (by (repeat' (with_reducible first | exact Below.refl _ _ | assumption | refine qS ?_ _ | refine qA ?_ _ | refine qD ?_ | refine qN ?_ _))) (q.mono (by simp <;> omega))
  have hz0 : w.heap.size + 1 + 1 ≤ W1.heap.size := by have := q.size; simp at this; omega
  clear q
  have c0 := (Lc 0 _ rfl).1
  have c1 := (Lc 1 _ rfl).1
  have c2 := (Lc 2 _ rfl).1
  go_wp2_with fail
  refine (HW.out _ _ _ _ (h.below hb) hvl).mono ?_
  rintro e W2 ⟨x1, x2, S, rfl, ow, f1, q⟩
  clear c0 c1 c2
  obtain ⟨⟨B1, k1, rfl⟩, ⟨B2, k2, rfl⟩⟩ := ow.rd.forms
  clear hvl
  have hzq : W1.heap.size ≤ W2.heap.size := by have := q.size; (try simp at this); omega
  replace Lc := Lc.below q
  replace Lr := Lr.below q
  replace hb : Below w.heap.size w W2 := hb.trans (q.mono hb.size)
  have hlow : W1.heap.size ≤ W1.heap.size := by first | exact Nat.le_refl _ | (simp; done) | (simp; omega) | omega
  have FK := Lib.hid (fresh_mono f1 hlow (Nat.le_refl _))
  have DK : Hid (∀ x ∈ S, x ∉ [w.heap.size, w.heap.size + 1]) := (fun x hx => by have := (FK.out.2 x hx).1; simp; omega)
  have OK := Lib.hid ow
  clear ow f1 hlow
  clear q
  go_upto_region 5 with (fail)
  replace Lc : Loc (W2.alloc (.cells #[.int .i64 n, .slice B1 uc.length k1, .slice B2 pl.length k2] 35)) (w.heap.size) [.int .i64 n, .slice A1 cs.length n1, .slice A2 pl.length n2] := Lc.alloc _
  replace Lr : Loc (W2.alloc (.cells #[.int .i64 n, .slice B1 uc.length k1, .slice B2 pl.length k2] 35)) (w.heap.size + 1) [.int .i64 0, .slice none 0 0, .slice none 0 0] := Lr.alloc _
  obtain ⟨go, hgo⟩ : ∃ g, W2.heap.size = g := ⟨_, rfl⟩
  have Lo : Loc (W2.alloc (.cells #[.int .i64 n, .slice B1 uc.length k1, .slice B2 pl.length k2] 35)) W2.heap.size [.int .i64 n, .slice B1 uc.length k1, .slice B2 pl.length k2] := Loc.new W2 #[.int .i64 n, .slice B1 uc.length k1, .slice B2 pl.length k2] 35
  rw [hgo] at Lo
  replace OK := Lib.hid (OK.out.below (w' := (W2.alloc (.cells #[.int .i64 n, .slice B1 uc.length k1, .slice B2 pl.length k2] 35))) ((Below.refl _ _).alloc (Nat.le_refl _) _))
  replace DK : Hid (∀ x ∈ S, x ∉ [w.heap.size, w.heap.size + 1, go]) := (fun x hx => by have := DK.out x hx; have := (FK.out.2 x hx).2; simp at *; omega)
  replace FK := Lib.hid (fresh_mono (w' := (W2.alloc (.cells #[.int .i64 n, .slice B1 uc.length k1, .slice B2 pl.length k2] 35))) FK.out (Nat.le_refl _) (by simp))
  replace hb : Below w.heap.size w (W2.alloc (.cells #[.int .i64 n, .slice B1 uc.length k1, .slice B2 pl.length k2] 35)) := hb.alloc hb.size _
  have hlto : go < (W2.alloc (.cells #[.int .i64 n, .slice B1 uc.length k1, .slice B2 pl.length k2] 35)).heap.size := by simp; omega
  have hne_c_o : w.heap.size < go := by omega
  have hne_r_o : w.heap.size + 1 < go := by omega
  generalize W2.alloc (.cells #[.int .i64 n, .slice B1 uc.length k1, .slice B2 pl.length k2] 35) = W3 at *
  rw [hgo]
  clear hgo
  have o0 := (Lo 0 _ rfl).1
  have o1 := (Lo 1 _ rfl).1
  have o2 := (Lo 2 _ rfl).1
  have r0 := (Lr 0 _ rfl).1
  have rf0 := (Lr 0 _ rfl).2
  have r1 := (Lr 1 _ rfl).1
  have rf1 := (Lr 1 _ rfl).2
  have r2 := (Lr 2 _ rfl).1
  have rf2 := (Lr 2 _ rfl).2
  go_wp2_with fail
  refine bodyPost_ret (v := .tuple #[.agg #[.int .i64 n, .slice B1 uc.length k1, .slice B2 pl.length k2], .bool ub]) (by simp [results, Tryz.results114, go_sem, *]) rfl (⟨_, _, S, rfl, ?_, ?_, ?_⟩)
  ·exact OK.out.chg (T := [w.heap.size + 1]) (by repeat' (with_reducible first | exact Chg.refl _ _ | refine qC ?_)) (fun x hx hx' => DK.out x hx (by simp at hx'; subst hx'; simp))
  ·exact fresh_mono FK.out (by omega) (by simp)
  ·exact Below.chg hb (S := [w.heap.size + 1]) (by repeat' (with_reducible first | exact Chg.refl _ _ | refine qC ?_)) hb.size (fun x hx => by simp at hx; omega)
open Go.RowKit
def showF (t : Th) (d : Int) : Th × Bool := becF t ⟨t.n, wrap64 (t.m + 30), t.cs, t.pl, (addF t.ds d).1⟩ ((addF t.ds d).2 && (whyF t.n t.cs t.pl == 0))
theorem act36gs0 {a : Act} (h : a.tmps.size = 36) (hd : a.defers = []) : ∃ x0 x1 x2 x3 x4 x5 x6 x7 x8 x9 x10 x11 x12 x13 x14 x15 x16 x17 x18 x19 x20 x21 x22 x23 x24 x25 x26 x27 x28 x29 x30 x31 x32 x33 x34 x35 : Value, a = ⟨#[x0, x1, x2, x3, x4, x5, x6, x7, x8, x9, x10, x11, x12, x13, x14, x15, x16, x17, x18, x19, x20, x21, x22, x23, x24, x25, x26, x27, x28, x29, x30, x31, x32, x33, x34, x35], []⟩ := by
 obtain ⟨⟨l⟩, d⟩ := a
 subst hd
 match l, h with
 | x0 :: x1 :: x2 :: x3 :: x4 :: x5 :: x6 :: x7 :: x8 :: x9 :: x10 :: x11 :: x12 :: x13 :: x14 :: x15 :: x16 :: x17 :: x18 :: x19 :: x20 :: x21 :: x22 :: x23 :: x24 :: x25 :: x26 :: x27 :: x28 :: x29 :: x30 :: x31 :: x32 :: x33 :: x34 :: x35 :: [], _ => exact ⟨x0, x1, x2, x3, x4, x5, x6, x7, x8, x9, x10, x11, x12, x13, x14, x15, x16, x17, x18, x19, x20, x21, x22, x23, x24, x25, x26, x27, x28, x29, x30, x31, x32, x33, x34, x35, rfl⟩
def pgs0 (_w : World) (n m : Int) (A1 A2 A3 B1 B2 C1 : Option Addr) (cs : List RCross) (pl : List RPl) (ds ds' : List Int) (n1 n2 n3 k1 k2 l1 : Nat) (_gc _go : Nat) (_wy : Int) (_wb : Bool) (rn rm : Int) (rcs : List RCross) (rpl : List RPl) (rds : List Int) (rb : Bool) (B0 : Nat) (i : Nat) (v : Value) (_ : Nat → Nat) (w : World) : Prop :=
 match i with
 | 0 => v = .agg #[.int .i64 n, .slice A1 cs.length n1, .slice A2 pl.length n2, .slice A3 ds.length n3, .int .i64 m]
 | 1 => v = .agg #[.int .i64 n, .slice B1 cs.length k1, .slice B2 pl.length k2, .slice C1 ds'.length l1, .int .i64 (wrap64 (m + 30))]
 | 2 => v = .bool false
 | 3 => v = .bool false
 | 4 => True
 | 5 => True
 | 6 => True
 | 7 => True
 | 8 => v = .bool false
 | 9 => ∃ Z1 e1 Z2 e2 Z3 e3 T, v = .tuple #[.agg #[.int .i64 rn, .slice Z1 rcs.length e1, .slice Z2 rpl.length e2, .slice Z3 rds.length e3, .int .i64 rm], .bool rb] ∧ OwTheatre w T (.slice Z1 rcs.length e1) (.slice Z2 rpl.length e2) (.slice Z3 rds.length e3) rcs rpl rds ∧ Fresh B0 w T
 | 10 => ∃ Z1 e1 Z2 e2 Z3 e3 T, v = .agg #[.int .i64 rn, .slice Z1 rcs.length e1, .slice Z2 rpl.length e2, .slice Z3 rds.length e3, .int .i64 rm] ∧ OwTheatre w T (.slice Z1 rcs.length e1) (.slice Z2 rpl.length e2) (.slice Z3 rds.length e3) rcs rpl rds ∧ Fresh B0 w T
 | 11 => v = .bool rb
 | _ => True
theorem act36gs1 {a : Act} (h : a.tmps.size = 36) (hd : a.defers = []) : ∃ x0 x1 x2 x3 x4 x5 x6 x7 x8 x9 x10 x11 x12 x13 x14 x15 x16 x17 x18 x19 x20 x21 x22 x23 x24 x25 x26 x27 x28 x29 x30 x31 x32 x33 x34 x35 : Value, a = ⟨#[x0, x1, x2, x3, x4, x5, x6, x7, x8, x9, x10, x11, x12, x13, x14, x15, x16, x17, x18, x19, x20, x21, x22, x23, x24, x25, x26, x27, x28, x29, x30, x31, x32, x33, x34, x35], []⟩ := by
 obtain ⟨⟨l⟩, d⟩ := a
 subst hd
 match l, h with
 | x0 :: x1 :: x2 :: x3 :: x4 :: x5 :: x6 :: x7 :: x8 :: x9 :: x10 :: x11 :: x12 :: x13 :: x14 :: x15 :: x16 :: x17 :: x18 :: x19 :: x20 :: x21 :: x22 :: x23 :: x24 :: x25 :: x26 :: x27 :: x28 :: x29 :: x30 :: x31 :: x32 :: x33 :: x34 :: x35 :: [], _ => exact ⟨x0, x1, x2, x3, x4, x5, x6, x7, x8, x9, x10, x11, x12, x13, x14, x15, x16, x17, x18, x19, x20, x21, x22, x23, x24, x25, x26, x27, x28, x29, x30, x31, x32, x33, x34, x35, rfl⟩
def pgs1 (_w : World) (n m : Int) (A1 A2 A3 B1 B2 C1 : Option Addr) (cs : List RCross) (pl : List RPl) (ds ds' : List Int) (n1 n2 n3 k1 k2 l1 : Nat) (gc _go : Nat) (wy : Int) (wb : Bool) (rn rm : Int) (rcs : List RCross) (rpl : List RPl) (rds : List Int) (rb : Bool) (B0 : Nat) (i : Nat) (v : Value) (_ : Nat → Nat) (w : World) : Prop :=
 match i with
 | 0 => v = .agg #[.int .i64 n, .slice A1 cs.length n1, .slice A2 pl.length n2, .slice A3 ds.length n3, .int .i64 m]
 | 1 => v = .agg #[.int .i64 n, .slice B1 cs.length k1, .slice B2 pl.length k2, .slice C1 ds'.length l1, .int .i64 (wrap64 (m + 30))]
 | 2 => v = .bool true
 | 3 => v = .bool true
 | 4 => v = .pointer (some ⟨gc, 0, none⟩)
 | 5 => v = .agg #[.int .i64 n, .slice A1 cs.length n1, .slice A2 pl.length n2]
 | 6 => v = .int .i64 wy
 | 7 => v = .bool wb
 | 8 => v = .bool wb
 | 9 => ∃ Z1 e1 Z2 e2 Z3 e3 T, v = .tuple #[.agg #[.int .i64 rn, .slice Z1 rcs.length e1, .slice Z2 rpl.length e2, .slice Z3 rds.length e3, .int .i64 rm], .bool rb] ∧ OwTheatre w T (.slice Z1 rcs.length e1) (.slice Z2 rpl.length e2) (.slice Z3 rds.length e3) rcs rpl rds ∧ Fresh B0 w T
 | 10 => ∃ Z1 e1 Z2 e2 Z3 e3 T, v = .agg #[.int .i64 rn, .slice Z1 rcs.length e1, .slice Z2 rpl.length e2, .slice Z3 rds.length e3, .int .i64 rm] ∧ OwTheatre w T (.slice Z1 rcs.length e1) (.slice Z2 rpl.length e2) (.slice Z3 rds.length e3) rcs rpl rds ∧ Fresh B0 w T
 | 11 => v = .bool rb
 | _ => True
set_option maxHeartbeats 8000000 in
set_option maxRecDepth 100000 in
theorem implGiveShow_any (n m dy : Int) (v1 v2 v3 : Value) (cs : List RCross) (pl : List RPl) (ds : List Int) (w : World) (h : RdTheatre w v1 v2 v3 cs pl ds) (hsz : szTheatre cs pl ds ≤ 1048576) :
  Calls Tryz.prog 34 #[.agg #[.int .i64 n, v1, v2, v3, .int .i64 m], .int .i64 dy] w (RetTh w.heap.size (showF ⟨n, m, cs, pl, ds⟩ dy) w) := by
 obtain ⟨⟨A1, n1, rfl⟩, ⟨A2, n2, rfl⟩, ⟨A3, n3, rfl⟩⟩ := h.forms
 have hszd : ds.length ≤ 1048576 := by unfold szTheatre at hsz; omega
 unfold showF
 obtain ⟨⟨⟨rn, rm, rcs, rpl, rds⟩, rb⟩, hres⟩ : ∃ res, becF ⟨n, m, cs, pl, ds⟩ ⟨n, wrap64 (m + 30), cs, pl, (addF ds dy).1⟩ ((addF ds dy).2 && (whyF n cs pl == 0)) = res := ⟨_, rfl⟩
 rw [hres]
 change Calls _ _ _ _ (RetT w.heap.size rn rm rb rcs rpl rds w)
 have Hres := Lib.hid hres
 clear hres
 go_enter Tryz.func34, Tryz.ntmps34
 go_wp2_with fail
 refine (theatreCopied_any n m _ _ _ cs pl ds _ (h.below (by (repeat' (with_reducible first | exact Below.refl _ _ | assumption | refine qS ?_ _ | refine qA ?_ _ | refine qD ?_ | refine qN ?_ _)))) hsz).mono ?_
 rintro e W1 ⟨x1, x2, x3, S, rfl, ow, f1, q⟩
 obtain ⟨⟨B1, k1, rfl⟩, ⟨B2, k2, rfl⟩, ⟨B3, k3, rfl⟩⟩ := ow.rd.forms
 have Lc : Loc W1 (w.heap.size) [.int .i64 n, .slice A1 cs.length n1, .slice A2 pl.length n2, .slice A3 ds.length n3, .int .i64 m] := by have := ((Loc.new w #[.int .i64 n, .slice A1 cs.length n1, .slice A2 pl.length n2, .slice A3 ds.length n3, .int .i64 m] 37).alloc _).below q; simpa using this
 have Lr : Loc W1 (w.heap.size + 1) [.int .i64 0, .slice none 0 0, .slice none 0 0, .slice none 0 0, .int .i64 0] := by have := (Loc.new (w.alloc (.cells #[.int .i64 n, .slice A1 cs.length n1, .slice A2 pl.length n2, .slice A3 ds.length n3, .int .i64 m] 37)) #[.int .i64 0, .slice none 0 0, .slice none 0 0, .slice none 0 0, .int .i64 0] 37).below q; simpa using this
 have hb : Below w.heap.size w W1 := Below.trans (by (repeat' (with_reducible first | exact Below.refl _ _ | assumption | refine qS ?_ _ | refine qA ?_ _ | refine qD ?_ | refine qN ?_ _))) (q.mono (by simp <;> omega))
 have hz0 : w.heap.size + 1 + 1 ≤ W1.heap.size := by have := q.size; simp at this; omega
 have hlow : w.heap.size + 1 + 1 ≤ (((w.alloc (.cells #[.int .i64 n, .slice A1 cs.length n1, .slice A2 pl.length n2, .slice A3 ds.length n3, .int .i64 m] 37)).alloc (.cells #[.int .i64 0, .slice none 0 0, .slice none 0 0, .slice none 0 0, .int .i64 0] 37))).heap.size := by first | exact Nat.le_refl _ | (simp; done) | (simp; omega) | omega
 have FK := Lib.hid (fresh_mono f1 hlow (Nat.le_refl _))
 have DK : Hid (∀ x ∈ S, x ∉ [w.heap.size, w.heap.size + 1]) := (fun x hx => by have := (FK.out.2 x hx).1; simp; omega)
 have OK := Lib.hid ow
 clear ow f1 hlow
 clear q
 go_upto_region 2 with (fail)
 replace Lc : Loc (W1.alloc (.cells #[.int .i64 n, .slice B1 cs.length k1, .slice B2 pl.length k2, .slice B3 ds.length k3, .int .i64 m] 37)) (w.heap.size) [.int .i64 n, .slice A1 cs.length n1, .slice A2 pl.length n2, .slice A3 ds.length n3, .int .i64 m] := Lc.alloc _
 replace Lr : Loc (W1.alloc (.cells #[.int .i64 n, .slice B1 cs.length k1, .slice B2 pl.length k2, .slice B3 ds.length k3, .int .i64 m] 37)) (w.heap.size + 1) [.int .i64 0, .slice none 0 0, .slice none 0 0, .slice none 0 0, .int .i64 0] := Lr.alloc _
 obtain ⟨go, hgo⟩ : ∃ g, W1.heap.size = g := ⟨_, rfl⟩
 have Lo : Loc (W1.alloc (.cells #[.int .i64 n, .slice B1 cs.length k1, .slice B2 pl.length k2, .slice B3 ds.length k3, .int .i64 m] 37)) W1.heap.size [.int .i64 n, .slice B1 cs.length k1, .slice B2 pl.length k2, .slice B3 ds.length k3, .int .i64 m] := Loc.new W1 #[.int .i64 n, .slice B1 cs.length k1, .slice B2 pl.length k2, .slice B3 ds.length k3, .int .i64 m] 37
 rw [hgo] at Lo
 replace OK := Lib.hid (OK.out.below (w' := (W1.alloc (.cells #[.int .i64 n, .slice B1 cs.length k1, .slice B2 pl.length k2, .slice B3 ds.length k3, .int .i64 m] 37))) ((Below.refl _ _).alloc (Nat.le_refl _) _))
 replace DK : Hid (∀ x ∈ S, x ∉ [w.heap.size, w.heap.size + 1, go]) := (fun x hx => by have := DK.out x hx; have := (FK.out.2 x hx).2; simp at *; omega)
 replace FK := Lib.hid (fresh_mono (w' := (W1.alloc (.cells #[.int .i64 n, .slice B1 cs.length k1, .slice B2 pl.length k2, .slice B3 ds.length k3, .int .i64 m] 37))) FK.out (Nat.le_refl _) (by simp))
 replace hb : Below w.heap.size w (W1.alloc (.cells #[.int .i64 n, .slice B1 cs.length k1, .slice B2 pl.length k2, .slice B3 ds.length k3, .int .i64 m] 37)) := hb.alloc hb.size _
 have hlto : go < (W1.alloc (.cells #[.int .i64 n, .slice B1 cs.length k1, .slice B2 pl.length k2, .slice B3 ds.length k3, .int .i64 m] 37)).heap.size := by simp; omega
 have hne_c_o : w.heap.size < go := by omega
 have hne_r_o : w.heap.size + 1 < go := by omega
 generalize W1.alloc (.cells #[.int .i64 n, .slice B1 cs.length k1, .slice B2 pl.length k2, .slice B3 ds.length k3, .int .i64 m] 37) = W2 at *
 rw [hgo]
 clear hgo
 obtain ⟨SK1, SK3, eK, oK, pK⟩ := OK.out
 have FKx := FK.out
 have DKx := DK.out
 rw [eK] at FKx DKx
 have OK1 := Lib.hid oK
 have OK3 := Lib.hid pK
 have FK1 := Lib.hid (fresh_left FKx)
 have FK3 := Lib.hid (fresh_right FKx)
 have DK1 : Hid (∀ x ∈ SK1, x ∉ [w.heap.size, w.heap.size + 1, go]) := (fun x hx => DKx x (List.mem_append_left _ hx))
 have DK3 : Hid (∀ x ∈ SK3, x ∉ [w.heap.size, w.heap.size + 1, go]) := (fun x hx => DKx x (List.mem_append_right _ hx))
 have JK : Hid (∀ x ∈ SK1, x ∉ SK3) := (nodup2 FKx.1).2.2.1
 clear OK FK DK FKx DKx oK pK
 have hU1 : ∀ x ∈ SK1, x < W2.heap.size := fun x hx => (FK1.out.2 x hx).2
 have o3 := (Lo 3 _ rfl).1
 go_wp2_with fail
 refine (implAddShow_any _ ds dy _ OK3.out.rd hszd).mono ?_
 rintro e W3 ⟨x4, SX, rfl, ox, fx, q⟩
 clear o3
 obtain ⟨C1, l1, rfl, _, _⟩ := ox.rd.form
 have hzq : W2.heap.size ≤ W3.heap.size := by have := q.size; (try simp at this); omega
 replace Lc := Lc.below q
 replace Lr := Lr.below q
 replace Lo := Lo.below q
 replace OK1 := Lib.hid (OK1.out.below q)
 replace FK1 := Lib.hid (fresh_mono (w' := W3) FK1.out (Nat.le_refl _) hzq)
 replace OK3 := Lib.hid (OK3.out.below q)
 replace FK3 := Lib.hid (fresh_mono (w' := W3) FK3.out (Nat.le_refl _) hzq)
 replace hb : Below w.heap.size w W3 := hb.trans (q.mono hb.size)
 have hlow : W2.heap.size ≤ W2.heap.size := by first | exact Nat.le_refl _ | (simp; done) | (simp; omega) | omega
 have FX := Lib.hid (fresh_mono fx hlow (Nat.le_refl _))
 have DX : Hid (∀ x ∈ SX, x ∉ [w.heap.size, w.heap.size + 1, go]) := (fun x hx => by have := (FX.out.2 x hx).1; simp; omega)
 have OX := Lib.hid ox
 clear ox fx hlow
 clear q
 generalize (addF ds dy).2 = okc at *
 generalize (addF ds dy).1 = ds' at *
 have J1X : Hid (∀ x ∈ SK1, x ∉ SX) := (fun x hx hx' => by have := (FX.out.2 x hx').1; have := hU1 x hx; omega)
 clear hU1
 clear OK3 FK3 DK3
 have o0 := (Lo 0 _ rfl).1
 have of0 := (Lo 0 _ rfl).2
 have o1 := (Lo 1 _ rfl).1
 have of1 := (Lo 1 _ rfl).2
 have o2 := (Lo 2 _ rfl).1
 have of2 := (Lo 2 _ rfl).2
 have o3 := (Lo 3 _ rfl).1
 have of3 := (Lo 3 _ rfl).2
 have o4 := (Lo 4 _ rfl).1
 have of4 := (Lo 4 _ rfl).2
 go_upto_region 4 with (fail)
 clear o0 of0 o1 of1 o2 of2 o3 of3 o4 of4
 replace Lc := Lc.far (g := go) (i := 3) (u := .slice C1 ds'.length l1) (by omega)
 replace Lr := Lr.far (g := go) (i := 3) (u := .slice C1 ds'.length l1) (by omega)
 replace Lo : Loc (W3.setCell ⟨go, 3, none⟩ (.slice C1 ds'.length l1)) (go) [.int .i64 n, .slice B1 cs.length k1, .slice B2 pl.length k2, .slice C1 ds'.length l1, .int .i64 m] := Lo.set (i := 3) (v := .slice B3 ds.length k3) rfl
 have hch : Chg [go] W3 (W3.setCell ⟨go, 3, none⟩ (.slice C1 ds'.length l1)) := chg_set (Chg.refl _ _) (by simp)
 replace OK1 := Lib.hid (OK1.out.chg hch (fun x hx hx' => DK1.out x hx (by simp at hx'; subst hx'; simp)))
 replace FK1 := Lib.hid (fresh_mono (w' := (W3.setCell ⟨go, 3, none⟩ (.slice C1 ds'.length l1))) FK1.out (Nat.le_refl _) hch.size)
 replace OX := Lib.hid (OX.out.chg hch (fun x hx hx' => DX.out x hx (by simp at hx'; subst hx'; simp)))
 replace FX := Lib.hid (fresh_mono (w' := (W3.setCell ⟨go, 3, none⟩ (.slice C1 ds'.length l1))) FX.out (Nat.le_refl _) hch.size)
 replace hb : Below w.heap.size w (W3.setCell ⟨go, 3, none⟩ (.slice C1 ds'.length l1)) := Below.chg hb hch hb.size (by simp; omega)
 have hzc := hch.size
 clear hch
 generalize W3.setCell ⟨go, 3, none⟩ (.slice C1 ds'.length l1) = W4 at *
 have o4 := (Lo 4 _ rfl).1
 have c4 := (Lc 4 _ rfl).1
 have of4 := (Lo 4 _ rfl).2
 go_upto_region 5 with (fail)
 clear o4 c4 of4
 replace Lc := Lc.far (g := go) (i := 4) (u := .int .i64 (wrap64 (m + 30))) (by omega)
 replace Lr := Lr.far (g := go) (i := 4) (u := .int .i64 (wrap64 (m + 30))) (by omega)
 replace Lo : Loc (W4.setCell ⟨go, 4, none⟩ (.int .i64 (wrap64 (m + 30)))) (go) [.int .i64 n, .slice B1 cs.length k1, .slice B2 pl.length k2, .slice C1 ds'.length l1, .int .i64 (wrap64 (m + 30))] := Lo.set (i := 4) (v := .int .i64 m) rfl
 have hch : Chg [go] W4 (W4.setCell ⟨go, 4, none⟩ (.int .i64 (wrap64 (m + 30)))) := chg_set (Chg.refl _ _) (by simp)
 replace OK1 := Lib.hid (OK1.out.chg hch (fun x hx hx' => DK1.out x hx (by simp at hx'; subst hx'; simp)))
 replace FK1 := Lib.hid (fresh_mono (w' := (W4.setCell ⟨go, 4, none⟩ (.int .i64 (wrap64 (m + 30))))) FK1.out (Nat.le_refl _) hch.size)
 replace OX := Lib.hid (OX.out.chg hch (fun x hx hx' => DX.out x hx (by simp at hx'; subst hx'; simp)))
 replace FX := Lib.hid (fresh_mono (w' := (W4.setCell ⟨go, 4, none⟩ (.int .i64 (wrap64 (m + 30))))) FX.out (Nat.le_refl _) hch.size)
 replace hb : Below w.heap.size w (W4.setCell ⟨go, 4, none⟩ (.int .i64 (wrap64 (m + 30)))) := Below.chg hb hch hb.size (by simp; omega)
 have hzc := hch.size
 clear hch
 generalize W4.setCell ⟨go, 4, none⟩ (.int .i64 (wrap64 (m + 30))) = W5 at *
 replace FX := Lib.hid (fresh_mono (B' := w.heap.size + 1 + 1) FX.out (by omega) (Nat.le_refl _))
 have OP : OwTheatre W5 (SK1 ++ SX) (.slice B1 cs.length k1) (.slice B2 pl.length k2) (.slice C1 ds'.length l1) cs pl ds' := ⟨_, _, rfl, OK1.out, OX.out⟩
 have FQ := Lib.hid (fresh_join FK1.out FX.out (J1X.out))
 have DQ : Hid (∀ x ∈ SK1 ++ SX, x ∉ [w.heap.size, w.heap.size + 1, go]) := (fun x hx => (List.mem_append.1 hx).elim (DK1.out x) (DX.out x))
 have OQ := Lib.hid (OP)
 clear OK1 FK1 DK1 OX FX DX
 obtain ⟨SQ, hSQ⟩ : ∃ T, SK1 ++ SX = T := ⟨_, rfl⟩
 rw [hSQ] at OQ FQ DQ
 clear hSQ
 clear OP
 have hWN : Hid (∀ w', RdCompany w' (.slice A1 cs.length n1) (.slice A2 pl.length n2) cs pl → Calls Tryz.prog 54 #[.agg #[.int .i64 n, .slice A1 cs.length n1, .slice A2 pl.length n2]] w' fun e w'' => e = .returned (.int .i64 (whyF n cs pl)) ∧ Below w'.heap.size w' w'') := fun w' hr => implWhyNot_any n _ _ cs pl w' hr
 have hrd : RdTheatre W5 (.slice A1 cs.length n1) (.slice A2 pl.length n2) (.slice A3 ds.length n3) cs pl ds := h.below hb
 have HRD := Lib.hid hrd
 clear hrd
 generalize whyF n cs pl = wy at *
 obtain ⟨wb, hwb⟩ : ∃ wb, (wy == 0) = wb := ⟨_, rfl⟩
 rw [hwb] at Hres
 have HWB := Lib.hid hwb
 clear hwb
 cases okc
 ·skip
  refine region_guardedL (n := 36) 12 (by kernel_rfl) rfl (by kernel_rfl) [3] (by kernel_rfl) (fun j => if j = 3 then false else false) (fun w' => Below W5.heap.size W5 w') (fun _ => 0) (pgs0 w n m A1 A2 A3 B1 B2 C1 cs pl ds ds' n1 n2 n3 k1 k2 l1 (w.heap.size) (go) wy wb rn rm rcs rpl rds rb (w.heap.size + 1 + 1)) ⟨fun _ _ _ h => h, trivial⟩ (Below.refl _ _).drew ?_ ?_ ?_
  ·intro i v gh gh' w1 w2 hp hJ hb' hg
   match i, hp with
   | 0, hp => exact hp
   | 1, hp => exact hp
   | 2, hp => exact hp
   | 3, hp => exact hp
   | 4, hp => exact hp
   | 5, hp => exact hp
   | 6, hp => exact hp
   | 7, hp => exact hp
   | 8, hp => exact hp
   | 9, ⟨Z1, e1, Z2, e2, Z3, e3, T, hv, ho, hf⟩ => exact ⟨Z1, e1, Z2, e2, Z3, e3, T, hv, ho.below hb', fresh_mono hf (Nat.le_refl _) hb'.size⟩
   | 10, ⟨Z1, e1, Z2, e2, Z3, e3, T, hv, ho, hf⟩ => exact ⟨Z1, e1, Z2, e2, Z3, e3, T, hv, ho.below hb', fresh_mono hf (Nat.le_refl _) hb'.size⟩
   | 11, hp => exact hp
   | _ + 12, _ => trivial
  ·refine ⟨?_, ?_, ?_, ?_, ?_, ?_, ?_, ?_, ?_, ?_, ?_, ?_, trivial⟩
   ·intro a gh w5 hag hJ hd
    dsimp only [bareO]
    have ag2 : a.tmps.getD 2 undef = .pointer (some ⟨w.heap.size, 0, none⟩) := hag.kept 2 (by kernel_rfl)
    clear hag
    have c0 := ((Lc.below hJ) 0 _ rfl).1
    have c1 := ((Lc.below hJ) 1 _ rfl).1
    have c2 := ((Lc.below hJ) 2 _ rfl).1
    have c3 := ((Lc.below hJ) 3 _ rfl).1
    have c4 := ((Lc.below hJ) 4 _ rfl).1
    go_wp2_with fail
    exact ⟨rfl, _, rfl, rfl, hJ, Below.refl _ _⟩
   ·intro a gh w5 hag hJ hd
    dsimp only [bareO]
    have ag6 : a.tmps.getD 6 undef = .pointer (some ⟨go, 0, none⟩) := hag.kept 6 (by kernel_rfl)
    clear hag
    have o0 := ((Lo.below hJ) 0 _ rfl).1
    have o1 := ((Lo.below hJ) 1 _ rfl).1
    have o2 := ((Lo.below hJ) 2 _ rfl).1
    have o3 := ((Lo.below hJ) 3 _ rfl).1
    have o4 := ((Lo.below hJ) 4 _ rfl).1
    go_wp2_with fail
    exact ⟨rfl, _, rfl, rfl, hJ, Below.refl _ _⟩
   ·intro a gh w5 hag hJ hd
    dsimp only [bareO]
    have ag8 : a.tmps.getD 8 undef = .bool false := hag.kept 8 (by kernel_rfl)
    clear hag
    go_wp2_with fail
    exact ⟨rfl, _, rfl, rfl, hJ, Below.refl _ _⟩
   ·intro a gh w5 hag hJ hd
    dsimp only [bareO]
    clear hag
    have e0 : a.tmps.getD 26 undef = .bool false := hd 2 (by kernel_rfl) _ rfl
    go_wp2_with fail
    exact ⟨rfl, _, rfl, rfl, hJ, Below.refl _ _⟩
   ·intro gh w5; trivial
   ·intro gh w5; trivial
   ·intro gh w5; trivial
   ·intro gh w5; trivial
   ·intro a gh w5 hag hJ hd
    dsimp only [bareO]
    clear hag
    have e0 : a.tmps.getD 27 undef = .bool false := hd 3 (by kernel_rfl) _ rfl
    go_wp2_with fail
    exact ⟨rfl, _, rfl, rfl, hJ, Below.refl _ _⟩
   ·intro a gh w5 hag hJ hd
    dsimp only [bareO]
    clear hag
    have e0 : a.tmps.getD 24 undef = .agg #[.int .i64 n, .slice A1 cs.length n1, .slice A2 pl.length n2, .slice A3 ds.length n3, .int .i64 m] := hd 0 (by kernel_rfl) _ rfl
    have e1 : a.tmps.getD 25 undef = .agg #[.int .i64 n, .slice B1 cs.length k1, .slice B2 pl.length k2, .slice C1 ds'.length l1, .int .i64 (wrap64 (m + 30))] := hd 1 (by kernel_rfl) _ rfl
    have e2 : a.tmps.getD 32 undef = .bool false := hd 8 (by kernel_rfl) _ rfl
    go_wp2_with fail
    refine (becomes_eq (B := w.heap.size + 1 + 1) (S := SQ) Hres.out (HRD.out.below hJ) hsz (OQ.out.below hJ) (fresh_mono FQ.out (Nat.le_refl _) hJ.size) (by have := hb.size; have := hJ.size; omega)).mono ?_
    rintro e w6 ⟨z1, z2, z3, T, rfl, owr, fr, hb6⟩
    obtain ⟨⟨Z1, e1, rfl⟩, ⟨Z2, e2, rfl⟩, ⟨Z3, e3, rfl⟩⟩ := owr.rd.forms
    go_wp2_with fail
    exact ⟨rfl, _, rfl, ⟨_, _, _, _, _, _, _, rfl, owr, fr⟩, bl_trans hJ hb6, hb6⟩
   ·intro a gh w5 hag hJ hd
    dsimp only [bareO]
    clear hag
    obtain ⟨Z1, e1, Z2, e2, Z3, e3, T, e0, ho, hf⟩ : ∃ Z1 e1 Z2 e2 Z3 e3 T, a.tmps.getD 33 undef = .tuple #[.agg #[.int .i64 rn, .slice Z1 rcs.length e1, .slice Z2 rpl.length e2, .slice Z3 rds.length e3, .int .i64 rm], .bool rb] ∧ OwTheatre w5 T (.slice Z1 rcs.length e1) (.slice Z2 rpl.length e2) (.slice Z3 rds.length e3) rcs rpl rds ∧ Fresh (w.heap.size + 1 + 1) w5 T := hd 9 (by kernel_rfl) _ rfl
    go_wp2_with fail
    exact ⟨rfl, _, rfl, ⟨_, _, _, _, _, _, _, rfl, ho, hf⟩, hJ, Below.refl _ _⟩
   ·intro a gh w5 hag hJ hd
    dsimp only [bareO]
    clear hag
    obtain ⟨Z1, e1, Z2, e2, Z3, e3, T, e0, ho, hf⟩ : ∃ Z1 e1 Z2 e2 Z3 e3 T, a.tmps.getD 33 undef = .tuple #[.agg #[.int .i64 rn, .slice Z1 rcs.length e1, .slice Z2 rpl.length e2, .slice Z3 rds.length e3, .int .i64 rm], .bool rb] ∧ OwTheatre w5 T (.slice Z1 rcs.length e1) (.slice Z2 rpl.length e2) (.slice Z3 rds.length e3) rcs rpl rds ∧ Fresh (w.heap.size + 1 + 1) w5 T := hd 9 (by kernel_rfl) _ rfl
    go_wp2_with fail
    exact ⟨rfl, _, rfl, rfl, hJ, Below.refl _ _⟩
  ·intro a gh w5 hag hJ hd
   obtain ⟨x0, x1, x2, x3, x4, x5, x6, x7, x8, x9, x10, x11, x12, x13, x14, x15, x16, x17, x18, x19, x20, x21, x22, x23, x24, x25, x26, x27, x28, x29, x30, x31, x32, x33, x34, x35, rfl⟩ := act36gs0 hag.size hag.defers
   have ag2 : x2 = .pointer (some ⟨w.heap.size, 0, none⟩) := hag.kept 2 (by kernel_rfl)
   have ag4 : x4 = .pointer (some ⟨w.heap.size + 1, 0, none⟩) := hag.kept 4 (by kernel_rfl)
   have ag6 : x6 = .pointer (some ⟨go, 0, none⟩) := hag.kept 6 (by kernel_rfl)
   have ag8 : x8 = .bool false := hag.kept 8 (by kernel_rfl)
   clear hag
   subst ag2 ag4 ag6 ag8
   obtain ⟨Z1, e1, Z2, e2, Z3, e3, T, e0, ho, hf⟩ : ∃ Z1 e1 Z2 e2 Z3 e3 T, x34 = .agg #[.int .i64 rn, .slice Z1 rcs.length e1, .slice Z2 rpl.length e2, .slice Z3 rds.length e3, .int .i64 rm] ∧ OwTheatre w5 T (.slice Z1 rcs.length e1) (.slice Z2 rpl.length e2) (.slice Z3 rds.length e3) rcs rpl rds ∧ Fresh (w.heap.size + 1 + 1) w5 T := hd 10 (by kernel_rfl) _ rfl
   have e35 : x35 = .bool rb := hd 11 (by kernel_rfl) _ rfl
   subst e0 e35
   clear hd
   change wpList _ _ _ [_, _] _ _
   have hzq : W5.heap.size ≤ w5.heap.size := by have := hJ.size; (try simp at this); omega
   replace Lc := Lc.below hJ
   replace Lr := Lr.below hJ
   replace Lo := Lo.below hJ
   replace OQ := Lib.hid (OQ.out.below hJ)
   replace FQ := Lib.hid (fresh_mono (w' := w5) FQ.out (Nat.le_refl _) hzq)
   replace hb : Below w.heap.size w w5 := hb.trans (hJ.mono hb.size)
   clear hJ
   have FR := Lib.hid hf
   have OR := Lib.hid ho
   clear ho hf Hres
   have r0 := (Lr 0 _ rfl).1
   have rf0 := (Lr 0 _ rfl).2
   have r1 := (Lr 1 _ rfl).1
   have rf1 := (Lr 1 _ rfl).2
   have r2 := (Lr 2 _ rfl).1
   have rf2 := (Lr 2 _ rfl).2
   have r3 := (Lr 3 _ rfl).1
   have rf3 := (Lr 3 _ rfl).2
   have r4 := (Lr 4 _ rfl).1
   have rf4 := (Lr 4 _ rfl).2
   go_wp2_with fail
   refine bodyPost_ret (v := .tuple #[.agg #[.int .i64 rn, .slice Z1 rcs.length e1, .slice Z2 rpl.length e2, .slice Z3 rds.length e3, .int .i64 rm], .bool rb]) (by simp [results, Tryz.results34, go_sem, *]) rfl ⟨_, _, _, T, rfl, ?_, ?_, ?_⟩
   ·exact OR.out.chg (T := [w.heap.size + 1]) (by repeat' (with_reducible first | exact Chg.refl _ _ | refine qC ?_)) (fun x hx hx' => by have := (FR.out.2 x hx).1; simp at hx'; omega)
   ·exact fresh_mono FR.out (by omega) (by simp)
   ·exact Below.chg hb (S := [w.heap.size + 1]) (by repeat' (with_reducible first | exact Chg.refl _ _ | refine qC ?_)) hb.size (fun x hx => by simp at hx; omega)
 ·skip
  refine region_guardedL (n := 36) 12 (by kernel_rfl) rfl (by kernel_rfl) [3] (by kernel_rfl) (fun j => if j = 3 then true else false) (fun w' => Below W5.heap.size W5 w') (fun _ => 0) (pgs1 w n m A1 A2 A3 B1 B2 C1 cs pl ds ds' n1 n2 n3 k1 k2 l1 (w.heap.size) (go) wy wb rn rm rcs rpl rds rb (w.heap.size + 1 + 1)) ⟨fun _ _ _ h => h, trivial⟩ (Below.refl _ _).drew ?_ ?_ ?_
  ·intro i v gh gh' w1 w2 hp hJ hb' hg
   match i, hp with
   | 0, hp => exact hp
   | 1, hp => exact hp
   | 2, hp => exact hp
   | 3, hp => exact hp
   | 4, hp => exact hp
   | 5, hp => exact hp
   | 6, hp => exact hp
   | 7, hp => exact hp
   | 8, hp => exact hp
   | 9, ⟨Z1, e1, Z2, e2, Z3, e3, T, hv, ho, hf⟩ => exact ⟨Z1, e1, Z2, e2, Z3, e3, T, hv, ho.below hb', fresh_mono hf (Nat.le_refl _) hb'.size⟩
   | 10, ⟨Z1, e1, Z2, e2, Z3, e3, T, hv, ho, hf⟩ => exact ⟨Z1, e1, Z2, e2, Z3, e3, T, hv, ho.below hb', fresh_mono hf (Nat.le_refl _) hb'.size⟩
   | 11, hp => exact hp
   | _ + 12, _ => trivial
  ·refine ⟨?_, ?_, ?_, ?_, ?_, ?_, ?_, ?_, ?_, ?_, ?_, ?_, trivial⟩
   ·intro a gh w5 hag hJ hd
    dsimp only [bareO]
    have ag2 : a.tmps.getD 2 undef = .pointer (some ⟨w.heap.size, 0, none⟩) := hag.kept 2 (by kernel_rfl)
    clear hag
    have c0 := ((Lc.below hJ) 0 _ rfl).1
    have c1 := ((Lc.below hJ) 1 _ rfl).1
    have c2 := ((Lc.below hJ) 2 _ rfl).1
    have c3 := ((Lc.below hJ) 3 _ rfl).1
    have c4 := ((Lc.below hJ) 4 _ rfl).1
    go_wp2_with fail
    exact ⟨rfl, _, rfl, rfl, hJ, Below.refl _ _⟩
   ·intro a gh w5 hag hJ hd
    dsimp only [bareO]
    have ag6 : a.tmps.getD 6 undef = .pointer (some ⟨go, 0, none⟩) := hag.kept 6 (by kernel_rfl)
    clear hag
    have o0 := ((Lo.below hJ) 0 _ rfl).1
    have o1 := ((Lo.below hJ) 1 _ rfl).1
    have o2 := ((Lo.below hJ) 2 _ rfl).1
    have o3 := ((Lo.below hJ) 3 _ rfl).1
    have o4 := ((Lo.below hJ) 4 _ rfl).1
    go_wp2_with fail
    exact ⟨rfl, _, rfl, rfl, hJ, Below.refl _ _⟩
   ·intro a gh w5 hag hJ hd
    dsimp only [bareO]
    have ag8 : a.tmps.getD 8 undef = .bool true := hag.kept 8 (by kernel_rfl)
    clear hag
    go_wp2_with fail
    exact ⟨rfl, _, rfl, rfl, hJ, Below.refl _ _⟩
   ·intro a gh w5 hag hJ hd
    dsimp only [bareO]
    clear hag
    have e0 : a.tmps.getD 26 undef = .bool true := hd 2 (by kernel_rfl) _ rfl
    go_wp2_with fail
    exact ⟨rfl, _, rfl, rfl, hJ, Below.refl _ _⟩
   ·intro a gh w5 hag hJ hd
    dsimp only [bareO]
    have ag2 : a.tmps.getD 2 undef = .pointer (some ⟨w.heap.size, 0, none⟩) := hag.kept 2 (by kernel_rfl)
    clear hag
    go_wp2_with fail
    exact ⟨rfl, _, rfl, rfl, hJ, Below.refl _ _⟩
   ·intro a gh w5 hag hJ hd
    dsimp only [bareO]
    clear hag
    have e0 : a.tmps.getD 28 undef = .pointer (some ⟨w.heap.size, 0, none⟩) := hd 4 (by kernel_rfl) _ rfl
    have c0 := ((Lc.below hJ) 0 _ rfl).1
    have c1 := ((Lc.below hJ) 1 _ rfl).1
    have c2 := ((Lc.below hJ) 2 _ rfl).1
    have c3 := ((Lc.below hJ) 3 _ rfl).1
    have c4 := ((Lc.below hJ) 4 _ rfl).1
    go_wp2_with fail
    exact ⟨rfl, _, rfl, rfl, hJ, Below.refl _ _⟩
   ·intro a gh w5 hag hJ hd
    dsimp only [bareO]
    clear hag
    have e0 : a.tmps.getD 29 undef = .agg #[.int .i64 n, .slice A1 cs.length n1, .slice A2 pl.length n2] := hd 5 (by kernel_rfl) _ rfl
    go_wp2_with fail
    refine (hWN.out w5 ((HRD.out.below hJ).1)).mono ?_
    rintro e w6 ⟨rfl, hb6⟩
    go_wp2_with fail
    exact ⟨rfl, _, rfl, rfl, bl_trans hJ hb6, hb6⟩
   ·intro a gh w5 hag hJ hd
    dsimp only [bareO]
    clear hag
    have e0 : a.tmps.getD 30 undef = .int .i64 wy := hd 6 (by kernel_rfl) _ rfl
    go_wp2_with fail
    exact ⟨rfl, _, rfl, by first | exact congrArg Value.bool HWB.out | (rw [HWB.out]), hJ, Below.refl _ _⟩
   ·intro a gh w5 hag hJ hd
    dsimp only [bareO]
    clear hag
    have e0 : a.tmps.getD 27 undef = .bool true := hd 3 (by kernel_rfl) _ rfl
    have e1 : a.tmps.getD 31 undef = .bool wb := hd 7 (by kernel_rfl) _ rfl
    go_wp2_with fail
    exact ⟨rfl, _, rfl, rfl, hJ, Below.refl _ _⟩
   ·intro a gh w5 hag hJ hd
    dsimp only [bareO]
    clear hag
    have e0 : a.tmps.getD 24 undef = .agg #[.int .i64 n, .slice A1 cs.length n1, .slice A2 pl.length n2, .slice A3 ds.length n3, .int .i64 m] := hd 0 (by kernel_rfl) _ rfl
    have e1 : a.tmps.getD 25 undef = .agg #[.int .i64 n, .slice B1 cs.length k1, .slice B2 pl.length k2, .slice C1 ds'.length l1, .int .i64 (wrap64 (m + 30))] := hd 1 (by kernel_rfl) _ rfl
    have e2 : a.tmps.getD 32 undef = .bool wb := hd 8 (by kernel_rfl) _ rfl
    go_wp2_with fail
    refine (becomes_eq (B := w.heap.size + 1 + 1) (S := SQ) Hres.out (HRD.out.below hJ) hsz (OQ.out.below hJ) (fresh_mono FQ.out (Nat.le_refl _) hJ.size) (by have := hb.size; have := hJ.size; omega)).mono ?_
    rintro e w6 ⟨z1, z2, z3, T, rfl, owr, fr, hb6⟩
    obtain ⟨⟨Z1, e1, rfl⟩, ⟨Z2, e2, rfl⟩, ⟨Z3, e3, rfl⟩⟩ := owr.rd.forms
    go_wp2_with fail
    exact ⟨rfl, _, rfl, ⟨_, _, _, _, _, _, _, rfl, owr, fr⟩, bl_trans hJ hb6, hb6⟩
   ·intro a gh w5 hag hJ hd
    dsimp only [bareO]
    clear hag
    obtain ⟨Z1, e1, Z2, e2, Z3, e3, T, e0, ho, hf⟩ : ∃ Z1 e1 Z2 e2 Z3 e3 T, a.tmps.getD 33 undef = .tuple #[.agg #[.int .i64 rn, .slice Z1 rcs.length e1, .slice Z2 rpl.length e2, .slice Z3 rds.length e3, .int .i64 rm], .bool rb] ∧ OwTheatre w5 T (.slice Z1 rcs.length e1) (.slice Z2 rpl.length e2) (.slice Z3 rds.length e3) rcs rpl rds ∧ Fresh (w.heap.size + 1 + 1) w5 T := hd 9 (by kernel_rfl) _ rfl
    go_wp2_with fail
    exact ⟨rfl, _, rfl, ⟨_, _, _, _, _, _, _, rfl, ho, hf⟩, hJ, Below.refl _ _⟩
   ·intro a gh w5 hag hJ hd
    dsimp only [bareO]
    clear hag
    obtain ⟨Z1, e1, Z2, e2, Z3, e3, T, e0, ho, hf⟩ : ∃ Z1 e1 Z2 e2 Z3 e3 T, a.tmps.getD 33 undef = .tuple #[.agg #[.int .i64 rn, .slice Z1 rcs.length e1, .slice Z2 rpl.length e2, .slice Z3 rds.length e3, .int .i64 rm], .bool rb] ∧ OwTheatre w5 T (.slice Z1 rcs.length e1) (.slice Z2 rpl.length e2) (.slice Z3 rds.length e3) rcs rpl rds ∧ Fresh (w.heap.size + 1 + 1) w5 T := hd 9 (by kernel_rfl) _ rfl
    go_wp2_with fail
    exact ⟨rfl, _, rfl, rfl, hJ, Below.refl _ _⟩
  ·intro a gh w5 hag hJ hd
   obtain ⟨x0, x1, x2, x3, x4, x5, x6, x7, x8, x9, x10, x11, x12, x13, x14, x15, x16, x17, x18, x19, x20, x21, x22, x23, x24, x25, x26, x27, x28, x29, x30, x31, x32, x33, x34, x35, rfl⟩ := act36gs1 hag.size hag.defers
   have ag2 : x2 = .pointer (some ⟨w.heap.size, 0, none⟩) := hag.kept 2 (by kernel_rfl)
   have ag4 : x4 = .pointer (some ⟨w.heap.size + 1, 0, none⟩) := hag.kept 4 (by kernel_rfl)
   have ag6 : x6 = .pointer (some ⟨go, 0, none⟩) := hag.kept 6 (by kernel_rfl)
   have ag8 : x8 = .bool true := hag.kept 8 (by kernel_rfl)
   clear hag
   subst ag2 ag4 ag6 ag8
   obtain ⟨Z1, e1, Z2, e2, Z3, e3, T, e0, ho, hf⟩ : ∃ Z1 e1 Z2 e2 Z3 e3 T, x34 = .agg #[.int .i64 rn, .slice Z1 rcs.length e1, .slice Z2 rpl.length e2, .slice Z3 rds.length e3, .int .i64 rm] ∧ OwTheatre w5 T (.slice Z1 rcs.length e1) (.slice Z2 rpl.length e2) (.slice Z3 rds.length e3) rcs rpl rds ∧ Fresh (w.heap.size + 1 + 1) w5 T := hd 10 (by kernel_rfl) _ rfl
   have e35 : x35 = .bool rb := hd 11 (by kernel_rfl) _ rfl
   subst e0 e35
   clear hd
   change wpList _ _ _ [_, _] _ _
   have hzq : W5.heap.size ≤ w5.heap.size := by have := hJ.size; (try simp at this); omega
   replace Lc := Lc.below hJ
   replace Lr := Lr.below hJ
   replace Lo := Lo.below hJ
   replace OQ := Lib.hid (OQ.out.below hJ)
   replace FQ := Lib.hid (fresh_mono (w' := w5) FQ.out (Nat.le_refl _) hzq)
   replace hb : Below w.heap.size w w5 := hb.trans (hJ.mono hb.size)
   clear hJ
   have FR := Lib.hid hf
   have OR := Lib.hid ho
   clear ho hf Hres
   have r0 := (Lr 0 _ rfl).1
   have rf0 := (Lr 0 _ rfl).2
   have r1 := (Lr 1 _ rfl).1
   have rf1 := (Lr 1 _ rfl).2
   have r2 := (Lr 2 _ rfl).1
   have rf2 := (Lr 2 _ rfl).2
   have r3 := (Lr 3 _ rfl).1
   have rf3 := (Lr 3 _ rfl).2
   have r4 := (Lr 4 _ rfl).1
   have rf4 := (Lr 4 _ rfl).2
   go_wp2_with fail
   refine bodyPost_ret (v := .tuple #[.agg #[.int .i64 rn, .slice Z1 rcs.length e1, .slice Z2 rpl.length e2, .slice Z3 rds.length e3, .int .i64 rm], .bool rb]) (by simp [results, Tryz.results34, go_sem, *]) rfl ⟨_, _, _, T, rfl, ?_, ?_, ?_⟩
   ·exact OR.out.chg (T := [w.heap.size + 1]) (by repeat' (with_reducible first | exact Chg.refl _ _ | refine qC ?_)) (fun x hx hx' => by have := (FR.out.2 x hx).1; simp at hx'; omega)
   ·exact fresh_mono FR.out (by omega) (by simp)
   ·exact Below.chg hb (S := [w.heap.size + 1]) (by repeat' (with_reducible first | exact Chg.refl _ _ | refine qC ?_)) hb.size (fun x hx => by simp at hx; omega)
set_option maxHeartbeats 8000000 in
set_option maxRecDepth 100000 in
theorem specGiveShow_any (n m dy : Int) (v1 v2 v3 : Value) (cs : List RCross) (pl : List RPl) (ds : List Int) (w : World) (h : RdTheatre w v1 v2 v3 cs pl ds) (hsz : szTheatre cs pl ds ≤ 1048576) :
  Calls Tryz.prog 64 #[.agg #[.int .i64 n, v1, v2, v3, .int .i64 m], .int .i64 dy] w (RetTh w.heap.size (showF ⟨n, m, cs, pl, ds⟩ dy) w) := by
 obtain ⟨⟨A1, n1, rfl⟩, ⟨A2, n2, rfl⟩, ⟨A3, n3, rfl⟩⟩ := h.forms
 have hszd : ds.length ≤ 1048576 := by unfold szTheatre at hsz; omega
 unfold showF
 go_enter Tryz.func64, Tryz.ntmps64
 go_wp2_with fail
 refine (l38Copy_any n m _ _ _ cs pl ds _ (h.below (by (repeat' (with_reducible first | exact Below.refl _ _ | assumption | refine qS ?_ _ | refine qA ?_ _ | refine qD ?_ | refine qN ?_ _)))) hsz).mono ?_
 rintro e W1 ⟨x1, x2, x3, S, rfl, ow, f1, q⟩
 obtain ⟨⟨B1, k1, rfl⟩, ⟨B2, k2, rfl⟩, ⟨B3, k3, rfl⟩⟩ := ow.rd.forms
 have Lc : Loc W1 (w.heap.size) [.int .i64 n, .slice A1 cs.length n1, .slice A2 pl.length n2, .slice A3 ds.length n3, .int .i64 m] := by have := ((Loc.new w #[.int .i64 n, .slice A1 cs.length n1, .slice A2 pl.length n2, .slice A3 ds.length n3, .int .i64 m] 37).alloc _).below q; simpa using this
 have Lr : Loc W1 (w.heap.size + 1) [.int .i64 0, .slice none 0 0, .slice none 0 0, .slice none 0 0, .int .i64 0] := by have := (Loc.new (w.alloc (.cells #[.int .i64 n, .slice A1 cs.length n1, .slice A2 pl.length n2, .slice A3 ds.length n3, .int .i64 m] 37)) #[.int .i64 0, .slice none 0 0, .slice none 0 0, .slice none 0 0, .int .i64 0] 37).below q; simpa using this
 have hb : Below w.heap.size w W1 := Below.trans (by (repeat' (with_reducible first | exact Below.refl _ _ | assumption | refine qS ?_ _ | refine qA ?_ _ | refine qD ?_ | refine qN ?_ _))) (q.mono (by simp <;> omega))
 have hz0 : w.heap.size + 1 + 1 ≤ W1.heap.size := by have := q.size; simp at this; omega
 have hlow : w.heap.size + 1 + 1 ≤ (((w.alloc (.cells #[.int .i64 n, .slice A1 cs.length n1, .slice A2 pl.length n2, .slice A3 ds.length n3, .int .i64 m] 37)).alloc (.cells #[.int .i64 0, .slice none 0 0, .slice none 0 0, .slice none 0 0, .int .i64 0] 37))).heap.size := by first | exact Nat.le_refl _ | (simp; done) | (simp; omega) | omega
 have FK := Lib.hid (fresh_mono f1 hlow (Nat.le_refl _))
 have DK : Hid (∀ x ∈ S, x ∉ [w.heap.size, w.heap.size + 1]) := (fun x hx => by have := (FK.out.2 x hx).1; simp; omega)
 have OK := Lib.hid ow
 clear ow f1 hlow
 clear q
 go_upto_region 2 with (fail)
 replace Lc : Loc (W1.alloc (.cells #[.int .i64 n, .slice B1 cs.length k1, .slice B2 pl.length k2, .slice B3 ds.length k3, .int .i64 m] 37)) (w.heap.size) [.int .i64 n, .slice A1 cs.length n1, .slice A2 pl.length n2, .slice A3 ds.length n3, .int .i64 m] := Lc.alloc _
 replace Lr : Loc (W1.alloc (.cells #[.int .i64 n, .slice B1 cs.length k1, .slice B2 pl.length k2, .slice B3 ds.length k3, .int .i64 m] 37)) (w.heap.size + 1) [.int .i64 0, .slice none 0 0, .slice none 0 0, .slice none 0 0, .int .i64 0] := Lr.alloc _
 obtain ⟨go, hgo⟩ : ∃ g, W1.heap.size = g := ⟨_, rfl⟩
 have Lo : Loc (W1.alloc (.cells #[.int .i64 n, .slice B1 cs.length k1, .slice B2 pl.length k2, .slice B3 ds.length k3, .int .i64 m] 37)) W1.heap.size [.int .i64 n, .slice B1 cs.length k1, .slice B2 pl.length k2, .slice B3 ds.length k3, .int .i64 m] := Loc.new W1 #[.int .i64 n, .slice B1 cs.length k1, .slice B2 pl.length k2, .slice B3 ds.length k3, .int .i64 m] 37
 rw [hgo] at Lo
 replace OK := Lib.hid (OK.out.below (w' := (W1.alloc (.cells #[.int .i64 n, .slice B1 cs.length k1, .slice B2 pl.length k2, .slice B3 ds.length k3, .int .i64 m] 37))) ((Below.refl _ _).alloc (Nat.le_refl _) _))
 replace DK : Hid (∀ x ∈ S, x ∉ [w.heap.size, w.heap.size + 1, go]) := (fun x hx => by have := DK.out x hx; have := (FK.out.2 x hx).2; simp at *; omega)
 replace FK := Lib.hid (fresh_mono (w' := (W1.alloc (.cells #[.int .i64 n, .slice B1 cs.length k1, .slice B2 pl.length k2, .slice B3 ds.length k3, .int .i64 m] 37))) FK.out (Nat.le_refl _) (by simp))
 replace hb : Below w.heap.size w (W1.alloc (.cells #[.int .i64 n, .slice B1 cs.length k1, .slice B2 pl.length k2, .slice B3 ds.length k3, .int .i64 m] 37)) := hb.alloc hb.size _
 have hlto : go < (W1.alloc (.cells #[.int .i64 n, .slice B1 cs.length k1, .slice B2 pl.length k2, .slice B3 ds.length k3, .int .i64 m] 37)).heap.size := by simp; omega
 have hne_c_o : w.heap.size < go := by omega
 have hne_r_o : w.heap.size + 1 < go := by omega
 generalize W1.alloc (.cells #[.int .i64 n, .slice B1 cs.length k1, .slice B2 pl.length k2, .slice B3 ds.length k3, .int .i64 m] 37) = W2 at *
 rw [hgo]
 clear hgo
 have c0 := (Lc 0 _ rfl).1
 have c1 := (Lc 1 _ rfl).1
 have c2 := (Lc 2 _ rfl).1
 have c3 := (Lc 3 _ rfl).1
 have c4 := (Lc 4 _ rfl).1
 go_wp2_with fail
 refine twoB (specTheatreOk_any n m _ _ _ cs pl ds _ (h.below hb)) (fun W3 hq q => ?_) (fun W3 hq q => ?_)
 ·skip
  clear c0 c1 c2 c3 c4
  have hzq : W2.heap.size ≤ W3.heap.size := by have := q.size; (try simp at this); omega
  replace Lc := Lc.below q
  replace Lr := Lr.below q
  replace Lo := Lo.below q
  replace OK := Lib.hid (OK.out.below q)
  replace FK := Lib.hid (fresh_mono (w' := W3) FK.out (Nat.le_refl _) hzq)
  replace hb : Below w.heap.size w W3 := hb.trans (q.mono hb.size)
  clear q
  have c0 := (Lc 0 _ rfl).1
  have c1 := (Lc 1 _ rfl).1
  have c2 := (Lc 2 _ rfl).1
  have c3 := (Lc 3 _ rfl).1
  have c4 := (Lc 4 _ rfl).1
  go_wp2_with fail
  refine (specWhyNot_any n _ _ cs pl _ ((h.below hb).1)).mono ?_
  rintro e W4 ⟨rfl, q⟩
  clear c0 c1 c2 c3 c4
  have hzq : W3.heap.size ≤ W4.heap.size := by have := q.size; (try simp at this); omega
  replace Lc := Lc.below q
  replace Lr := Lr.below q
  replace Lo := Lo.below q
  replace OK := Lib.hid (OK.out.below q)
  replace FK := Lib.hid (fresh_mono (w' := W4) FK.out (Nat.le_refl _) hzq)
  replace hb : Below w.heap.size w W4 := hb.trans (q.mono hb.size)
  clear q
  generalize whyF n cs pl = wy at *
  by_cases hwy : wy = 0
  ·skip
   subst hwy
   have c0 := (Lc 0 _ rfl).1
   have c1 := (Lc 1 _ rfl).1
   have c2 := (Lc 2 _ rfl).1
   have c3 := (Lc 3 _ rfl).1
   have c4 := (Lc 4 _ rfl).1
   have hU : ∀ x ∈ S, x < W4.heap.size := fun x hx => (FK.out.2 x hx).2
   go_wp2_with fail
   refine (specAddShow_any _ ds dy _ ((h.below hb).2) hszd).mono ?_
   rintro e W5 ⟨x4, SX, rfl, ox, fx, q⟩
   clear c0 c1 c2 c3 c4
   obtain ⟨C1, l1, rfl, _, _⟩ := ox.rd.form
   have hzq : W4.heap.size ≤ W5.heap.size := by have := q.size; (try simp at this); omega
   replace Lc := Lc.below q
   replace Lr := Lr.below q
   replace Lo := Lo.below q
   replace OK := Lib.hid (OK.out.below q)
   replace FK := Lib.hid (fresh_mono (w' := W5) FK.out (Nat.le_refl _) hzq)
   replace hb : Below w.heap.size w W5 := hb.trans (q.mono hb.size)
   have hlow : W4.heap.size ≤ W4.heap.size := by first | exact Nat.le_refl _ | (simp; done) | (simp; omega) | omega
   have FX := Lib.hid (fresh_mono fx hlow (Nat.le_refl _))
   have DX : Hid (∀ x ∈ SX, x ∉ [w.heap.size, w.heap.size + 1, go]) := (fun x hx => by have := (FX.out.2 x hx).1; simp; omega)
   have OX := Lib.hid ox
   clear ox fx hlow
   clear q
   generalize (addF ds dy).2 = okc at *
   generalize (addF ds dy).1 = ds' at *
   have HJX : Hid (∀ x ∈ S, x ∉ SX) := (fun x hx hx' => by have := (FX.out.2 x hx').1; have := hU x hx; omega)
   clear hU
   cases okc
   ·skip
    have o0 := (Lo 0 _ rfl).1
    have o1 := (Lo 1 _ rfl).1
    have o2 := (Lo 2 _ rfl).1
    have o3 := (Lo 3 _ rfl).1
    have o4 := (Lo 4 _ rfl).1
    have r0 := (Lr 0 _ rfl).1
    have rf0 := (Lr 0 _ rfl).2
    have r1 := (Lr 1 _ rfl).1
    have rf1 := (Lr 1 _ rfl).2
    have r2 := (Lr 2 _ rfl).1
    have rf2 := (Lr 2 _ rfl).2
    have r3 := (Lr 3 _ rfl).1
    have rf3 := (Lr 3 _ rfl).2
    have r4 := (Lr 4 _ rfl).1
    have rf4 := (Lr 4 _ rfl).2
    go_wp2_with fail
    refine bodyPost_ret (v := .tuple #[.agg #[.int .i64 n, .slice B1 cs.length k1, .slice B2 pl.length k2, .slice B3 ds.length k3, .int .i64 m], .bool false]) (by simp [results, Tryz.results64, go_sem, *]) rfl (bec_f (by simp) ⟨_, _, _, S, rfl, ?_, ?_, ?_⟩)
    ·exact OK.out.chg (T := [w.heap.size + 1]) (by repeat' (with_reducible first | exact Chg.refl _ _ | refine qC ?_)) (fun x hx hx' => DK.out x hx (by simp at hx'; subst hx'; simp))
    ·exact fresh_mono FK.out (by omega) (by simp)
    ·exact Below.chg hb (S := [w.heap.size + 1]) (by repeat' (with_reducible first | exact Chg.refl _ _ | refine qC ?_)) hb.size (fun x hx => by simp at hx; omega)
   ·skip
    obtain ⟨SK1, SK3, eK, oK, pK⟩ := OK.out
    have FKx := FK.out
    have DKx := DK.out
    rw [eK] at FKx DKx
    have OK1 := Lib.hid oK
    have OK3 := Lib.hid pK
    have FK1 := Lib.hid (fresh_left FKx)
    have FK3 := Lib.hid (fresh_right FKx)
    have DK1 : Hid (∀ x ∈ SK1, x ∉ [w.heap.size, w.heap.size + 1, go]) := (fun x hx => DKx x (List.mem_append_left _ hx))
    have DK3 : Hid (∀ x ∈ SK3, x ∉ [w.heap.size, w.heap.size + 1, go]) := (fun x hx => DKx x (List.mem_append_right _ hx))
    have JK : Hid (∀ x ∈ SK1, x ∉ SK3) := (nodup2 FKx.1).2.2.1
    clear OK FK DK FKx DKx oK pK
    clear OK3 FK3 DK3
    have o0 := (Lo 0 _ rfl).1
    have of0 := (Lo 0 _ rfl).2
    have o1 := (Lo 1 _ rfl).1
    have of1 := (Lo 1 _ rfl).2
    have o2 := (Lo 2 _ rfl).1
    have of2 := (Lo 2 _ rfl).2
    have o3 := (Lo 3 _ rfl).1
    have of3 := (Lo 3 _ rfl).2
    have o4 := (Lo 4 _ rfl).1
    have of4 := (Lo 4 _ rfl).2
    go_upto_region 8 with (fail)
    clear o0 of0 o1 of1 o2 of2 o3 of3 o4 of4
    replace Lc := Lc.far (g := go) (i := 3) (u := .slice C1 ds'.length l1) (by omega)
    replace Lr := Lr.far (g := go) (i := 3) (u := .slice C1 ds'.length l1) (by omega)
    replace Lo : Loc (W5.setCell ⟨go, 3, none⟩ (.slice C1 ds'.length l1)) (go) [.int .i64 n, .slice B1 cs.length k1, .slice B2 pl.length k2, .slice C1 ds'.length l1, .int .i64 m] := Lo.set (i := 3) (v := .slice B3 ds.length k3) rfl
    have hch : Chg [go] W5 (W5.setCell ⟨go, 3, none⟩ (.slice C1 ds'.length l1)) := chg_set (Chg.refl _ _) (by simp)
    replace OX := Lib.hid (OX.out.chg hch (fun x hx hx' => DX.out x hx (by simp at hx'; subst hx'; simp)))
    replace FX := Lib.hid (fresh_mono (w' := (W5.setCell ⟨go, 3, none⟩ (.slice C1 ds'.length l1))) FX.out (Nat.le_refl _) hch.size)
    replace OK1 := Lib.hid (OK1.out.chg hch (fun x hx hx' => DK1.out x hx (by simp at hx'; subst hx'; simp)))
    replace FK1 := Lib.hid (fresh_mono (w' := (W5.setCell ⟨go, 3, none⟩ (.slice C1 ds'.length l1))) FK1.out (Nat.le_refl _) hch.size)
    replace hb : Below w.heap.size w (W5.setCell ⟨go, 3, none⟩ (.slice C1 ds'.length l1)) := Below.chg hb hch hb.size (by simp; omega)
    have hzc := hch.size
    clear hch
    generalize W5.setCell ⟨go, 3, none⟩ (.slice C1 ds'.length l1) = W6 at *
    have o4 := (Lo 4 _ rfl).1
    have c4 := (Lc 4 _ rfl).1
    have of4 := (Lo 4 _ rfl).2
    go_upto_region 9 with (fail)
    clear o4 c4 of4
    replace Lc := Lc.far (g := go) (i := 4) (u := .int .i64 (wrap64 (m + 30))) (by omega)
    replace Lr := Lr.far (g := go) (i := 4) (u := .int .i64 (wrap64 (m + 30))) (by omega)
    replace Lo : Loc (W6.setCell ⟨go, 4, none⟩ (.int .i64 (wrap64 (m + 30)))) (go) [.int .i64 n, .slice B1 cs.length k1, .slice B2 pl.length k2, .slice C1 ds'.length l1, .int .i64 (wrap64 (m + 30))] := Lo.set (i := 4) (v := .int .i64 m) rfl
    have hch : Chg [go] W6 (W6.setCell ⟨go, 4, none⟩ (.int .i64 (wrap64 (m + 30)))) := chg_set (Chg.refl _ _) (by simp)
    replace OX := Lib.hid (OX.out.chg hch (fun x hx hx' => DX.out x hx (by simp at hx'; subst hx'; simp)))
    replace FX := Lib.hid (fresh_mono (w' := (W6.setCell ⟨go, 4, none⟩ (.int .i64 (wrap64 (m + 30))))) FX.out (Nat.le_refl _) hch.size)
    replace OK1 := Lib.hid (OK1.out.chg hch (fun x hx hx' => DK1.out x hx (by simp at hx'; subst hx'; simp)))
    replace FK1 := Lib.hid (fresh_mono (w' := (W6.setCell ⟨go, 4, none⟩ (.int .i64 (wrap64 (m + 30))))) FK1.out (Nat.le_refl _) hch.size)
    replace hb : Below w.heap.size w (W6.setCell ⟨go, 4, none⟩ (.int .i64 (wrap64 (m + 30)))) := Below.chg hb hch hb.size (by simp; omega)
    have hzc := hch.size
    clear hch
    generalize W6.setCell ⟨go, 4, none⟩ (.int .i64 (wrap64 (m + 30))) = W7 at *
    replace FX := Lib.hid (fresh_mono (B' := w.heap.size + 1 + 1) FX.out (by omega) (Nat.le_refl _))
    have OP : OwTheatre W7 (SK1 ++ SX) (.slice B1 cs.length k1) (.slice B2 pl.length k2) (.slice C1 ds'.length l1) cs pl ds' := ⟨_, _, rfl, OK1.out, OX.out⟩
    have FQ := Lib.hid (fresh_join FK1.out FX.out (fun x hx => HJX.out x (by rw [eK]; exact List.mem_append_left _ hx)))
    have DQ : Hid (∀ x ∈ SK1 ++ SX, x ∉ [w.heap.size, w.heap.size + 1, go]) := (fun x hx => (List.mem_append.1 hx).elim (DK1.out x) (DX.out x))
    have OQ := Lib.hid (OP)
    clear OK1 FK1 DK1 OX FX DX
    obtain ⟨SQ, hSQ⟩ : ∃ T, SK1 ++ SX = T := ⟨_, rfl⟩
    rw [hSQ] at OQ FQ DQ
    clear hSQ
    clear OP
    have o0 := (Lo 0 _ rfl).1
    have o1 := (Lo 1 _ rfl).1
    have o2 := (Lo 2 _ rfl).1
    have o3 := (Lo 3 _ rfl).1
    have o4 := (Lo 4 _ rfl).1
    go_wp2_with fail
    refine twoB (specTheatreOk_any n (wrap64 (m + 30)) _ _ _ cs pl ds' _ OQ.out.rd) (fun W8 hq' q => ?_) (fun W8 hq' q => ?_)
    ·skip
     clear o0 o1 o2 o3 o4
     have hzq : W7.heap.size ≤ W8.heap.size := by have := q.size; (try simp at this); omega
     replace Lc := Lc.below q
     replace Lr := Lr.below q
     replace Lo := Lo.below q
     replace OQ := Lib.hid (OQ.out.below q)
     replace FQ := Lib.hid (fresh_mono (w' := W8) FQ.out (Nat.le_refl _) hzq)
     replace hb : Below w.heap.size w W8 := hb.trans (q.mono hb.size)
     clear q
     have o0 := (Lo 0 _ rfl).1
     have o1 := (Lo 1 _ rfl).1
     have o2 := (Lo 2 _ rfl).1
     have o3 := (Lo 3 _ rfl).1
     have o4 := (Lo 4 _ rfl).1
     have r0 := (Lr 0 _ rfl).1
     have rf0 := (Lr 0 _ rfl).2
     have r1 := (Lr 1 _ rfl).1
     have rf1 := (Lr 1 _ rfl).2
     have r2 := (Lr 2 _ rfl).1
     have rf2 := (Lr 2 _ rfl).2
     have r3 := (Lr 3 _ rfl).1
     have rf3 := (Lr 3 _ rfl).2
     have r4 := (Lr 4 _ rfl).1
     have rf4 := (Lr 4 _ rfl).2
     go_wp2_with fail
     refine bodyPost_ret (v := .tuple #[.agg #[.int .i64 n, .slice B1 cs.length k1, .slice B2 pl.length k2, .slice C1 ds'.length l1, .int .i64 (wrap64 (m + 30))], .bool true]) (by simp [results, Tryz.results64, go_sem, *]) rfl (bec_t ⟨hq.out, rfl, hq'.out⟩ ⟨_, _, _, SQ, rfl, ?_, ?_, ?_⟩)
     ·exact OQ.out.chg (T := [w.heap.size + 1]) (by repeat' (with_reducible first | exact Chg.refl _ _ | refine qC ?_)) (fun x hx hx' => DQ.out x hx (by simp at hx'; subst hx'; simp))
     ·exact fresh_mono FQ.out (by omega) (by simp)
     ·exact Below.chg hb (S := [w.heap.size + 1]) (by repeat' (with_reducible first | exact Chg.refl _ _ | refine qC ?_)) hb.size (fun x hx => by simp at hx; omega)
    ·skip
     clear o0 o1 o2 o3 o4
     have hzq : W7.heap.size ≤ W8.heap.size := by have := q.size; (try simp at this); omega
     replace Lc := Lc.below q
     replace Lr := Lr.below q
     replace Lo := Lo.below q
     replace OQ := Lib.hid (OQ.out.below q)
     replace FQ := Lib.hid (fresh_mono (w' := W8) FQ.out (Nat.le_refl _) hzq)
     replace hb : Below w.heap.size w W8 := hb.trans (q.mono hb.size)
     clear q
     have c0 := (Lc 0 _ rfl).1
     have c1 := (Lc 1 _ rfl).1
     have c2 := (Lc 2 _ rfl).1
     have c3 := (Lc 3 _ rfl).1
     have c4 := (Lc 4 _ rfl).1
     go_wp2_with fail
     refine (l38Copy_any n m _ _ _ cs pl ds _ (h.below hb) hsz).mono ?_
     rintro e W9 ⟨y1, y2, y3, T, rfl, ow6, f6, q⟩
     clear c0 c1 c2 c3 c4
     obtain ⟨⟨D1, e1, rfl⟩, ⟨D2, e2, rfl⟩, ⟨D3, e3, rfl⟩⟩ := ow6.rd.forms
     have hzq : W8.heap.size ≤ W9.heap.size := by have := q.size; (try simp at this); omega
     replace Lc := Lc.below q
     replace Lr := Lr.below q
     replace Lo := Lo.below q
     replace OQ := Lib.hid (OQ.out.below q)
     replace FQ := Lib.hid (fresh_mono (w' := W9) FQ.out (Nat.le_refl _) hzq)
     replace hb : Below w.heap.size w W9 := hb.trans (q.mono hb.size)
     have hlow : W8.heap.size ≤ W8.heap.size := by first | exact Nat.le_refl _ | (simp; done) | (simp; omega) | omega
     have FZ := Lib.hid (fresh_mono f6 hlow (Nat.le_refl _))
     have DZ : Hid (∀ x ∈ T, x ∉ [w.heap.size, w.heap.size + 1, go]) := (fun x hx => by have := (FZ.out.2 x hx).1; simp; omega)
     have OZ := Lib.hid ow6
     clear ow6 f6 hlow
     clear q
     have r0 := (Lr 0 _ rfl).1
     have rf0 := (Lr 0 _ rfl).2
     have r1 := (Lr 1 _ rfl).1
     have rf1 := (Lr 1 _ rfl).2
     have r2 := (Lr 2 _ rfl).1
     have rf2 := (Lr 2 _ rfl).2
     have r3 := (Lr 3 _ rfl).1
     have rf3 := (Lr 3 _ rfl).2
     have r4 := (Lr 4 _ rfl).1
     have rf4 := (Lr 4 _ rfl).2
     go_wp2_with fail
     refine bodyPost_ret (v := .tuple #[.agg #[.int .i64 n, .slice D1 cs.length e1, .slice D2 pl.length e2, .slice D3 ds.length e3, .int .i64 m], .bool false]) (by simp [results, Tryz.results64, go_sem, *]) rfl (bec_f (fun hh => absurd (show theatreB n (wrap64 (m + 30)) cs pl ds' = true from hh.2.2) (by rw [hq'.out]; simp)) ⟨_, _, _, T, rfl, ?_, ?_, ?_⟩)
     ·exact OZ.out.chg (T := [w.heap.size + 1]) (by repeat' (with_reducible first | exact Chg.refl _ _ | refine qC ?_)) (fun x hx hx' => DZ.out x hx (by simp at hx'; subst hx'; simp))
     ·exact fresh_mono FZ.out (by omega) (by simp)
     ·exact Below.chg hb (S := [w.heap.size + 1]) (by repeat' (with_reducible first | exact Chg.refl _ _ | refine qC ?_)) hb.size (fun x hx => by simp at hx; omega)
  ·skip
   have hwb : (wy == 0) = false := by rw [beq_eq_false_iff_ne]; exact hwy
   have hwn : (wy != 0) = true := by rw [bne_iff_ne]; exact hwy
   have HWB := Lib.hid hwb
   clear hwb hwy
   have o0 := (Lo 0 _ rfl).1
   have o1 := (Lo 1 _ rfl).1
   have o2 := (Lo 2 _ rfl).1
   have o3 := (Lo 3 _ rfl).1
   have o4 := (Lo 4 _ rfl).1
   have r0 := (Lr 0 _ rfl).1
   have rf0 := (Lr 0 _ rfl).2
   have r1 := (Lr 1 _ rfl).1
   have rf1 := (Lr 1 _ rfl).2
   have r2 := (Lr 2 _ rfl).1
   have rf2 := (Lr 2 _ rfl).2
   have r3 := (Lr 3 _ rfl).1
   have rf3 := (Lr 3 _ rfl).2
   have r4 := (Lr 4 _ rfl).1
   have rf4 := (Lr 4 _ rfl).2
   go_wp2_with fail
   refine bodyPost_ret (v := .tuple #[.agg #[.int .i64 n, .slice B1 cs.length k1, .slice B2 pl.length k2, .slice B3 ds.length k3, .int .i64 m], .bool false]) (by simp [results, Tryz.results64, go_sem, *]) rfl (bec_f (fun hh => absurd hh.2.1 (by rw [HWB.out, Bool.and_false]; simp)) ⟨_, _, _, S, rfl, ?_, ?_, ?_⟩)
   ·exact OK.out.chg (T := [w.heap.size + 1]) (by repeat' (with_reducible first | exact Chg.refl _ _ | refine qC ?_)) (fun x hx hx' => DK.out x hx (by simp at hx'; subst hx'; simp))
   ·exact fresh_mono FK.out (by omega) (by simp)
   ·exact Below.chg hb (S := [w.heap.size + 1]) (by repeat' (with_reducible first | exact Chg.refl _ _ | refine qC ?_)) hb.size (fun x hx => by simp at hx; omega)
 ·skip
  clear c0 c1 c2 c3 c4
  have hzq : W2.heap.size ≤ W3.heap.size := by have := q.size; (try simp at this); omega
  replace Lc := Lc.below q
  replace Lr := Lr.below q
  replace Lo := Lo.below q
  replace OK := Lib.hid (OK.out.below q)
  replace FK := Lib.hid (fresh_mono (w' := W3) FK.out (Nat.le_refl _) hzq)
  replace hb : Below w.heap.size w W3 := hb.trans (q.mono hb.size)
  clear q
  have o0 := (Lo 0 _ rfl).1
  have o1 := (Lo 1 _ rfl).1
  have o2 := (Lo 2 _ rfl).1
  have o3 := (Lo 3 _ rfl).1
  have o4 := (Lo 4 _ rfl).1
  have r0 := (Lr 0 _ rfl).1
  have rf0 := (Lr 0 _ rfl).2
  have r1 := (Lr 1 _ rfl).1
  have rf1 := (Lr 1 _ rfl).2
  have r2 := (Lr 2 _ rfl).1
  have rf2 := (Lr 2 _ rfl).2
  have r3 := (Lr 3 _ rfl).1
  have rf3 := (Lr 3 _ rfl).2
  have r4 := (Lr 4 _ rfl).1
  have rf4 := (Lr 4 _ rfl).2
  go_wp2_with fail
  refine bodyPost_ret (v := .tuple #[.agg #[.int .i64 n, .slice B1 cs.length k1, .slice B2 pl.length k2, .slice B3 ds.length k3, .int .i64 m], .bool false]) (by simp [results, Tryz.results64, go_sem, *]) rfl (bec_f (fun hh => absurd (show theatreB n m cs pl ds = true from hh.1) (by rw [hq.out]; simp)) ⟨_, _, _, S, rfl, ?_, ?_, ?_⟩)
  ·exact OK.out.chg (T := [w.heap.size + 1]) (by repeat' (with_reducible first | exact Chg.refl _ _ | refine qC ?_)) (fun x hx hx' => DK.out x hx (by simp at hx'; subst hx'; simp))
  ·exact fresh_mono FK.out (by omega) (by simp)
  ·exact Below.chg hb (S := [w.heap.size + 1]) (by repeat' (with_reducible first | exact Chg.refl _ _ | refine qC ?_)) hb.size (fun x hx => by simp at hx; omega)
open Go.RowKit
def putC (n : Int) (cs : List RCross) (pl : List RPl) : List RCross := tidyC n (untC n (goC n cs pl) pl) pl
def putT (t : Th) : Th × Bool := becF t ⟨t.n, t.m, putC t.n t.cs t.pl, t.pl, t.ds⟩ (goB t.n t.cs t.pl && untB t.n (goC t.n t.cs t.pl) t.pl)
theorem with_company {n : Int} {cs l : List RCross} {pl : List RPl} (h : withB n cs pl l = true) : companyB n (withC n cs pl l) pl = true := by
 rw [withC, if_pos h]
 rw [withB, Bool.and_eq_true] at h
 exact h.2
theorem unt_company {n : Int} {cs : List RCross} {pl : List RPl} (h : untB n cs pl = true) : companyB n (untC n cs pl) pl = true := by
 rw [untC, if_pos h]
 rw [untB, Bool.and_eq_true] at h
 have := with_company h.2
 rwa [withC, if_pos h.2] at this
theorem tidy_company {n : Int} {cs : List RCross} {pl : List RPl} (h : companyB n cs pl = true) : companyB n (tidyC n cs pl) pl = true := by
 rw [tidyC, if_pos h]
 obtain ⟨h1, h2⟩ := company_n h
 obtain ⟨hn, _, _⟩ := crosses_len h1
 obtain ⟨m, rfl⟩ := Int.eq_ofNat_of_zero_le (show 0 ≤ n by omega)
 rw [companyB, Bool.and_eq_true]
 refine ⟨?_, h2⟩
 unfold redL
 rw [if_pos h1]
 exact redF_valid h1
theorem put_ok {n m : Int} {cs : List RCross} {pl : List RPl} {ds : List Int} (h : theatreB n m cs pl ds = true) (h2 : untB n (goC n cs pl) pl = true) : theatreB n m (putC n cs pl) pl ds = true := by
 unfold theatreB at h ⊢
 rw [Bool.and_eq_true, Bool.and_eq_true] at h ⊢
 exact ⟨⟨tidy_company (unt_company h2), h.1.2⟩, h.2⟩
set_option maxHeartbeats 8000000 in
set_option maxRecDepth 100000 in
theorem implPutInOrder_any (n m : Int) (v1 v2 v3 : Value) (cs : List RCross) (pl : List RPl) (ds : List Int) (w : World) (h : RdTheatre w v1 v2 v3 cs pl ds) (hsz : szTheatre cs pl ds ≤ 1048576) :
  Calls Tryz.prog 43 #[.agg #[.int .i64 n, v1, v2, v3, .int .i64 m]] w (RetTh w.heap.size (putT ⟨n, m, cs, pl, ds⟩) w) := by
 obtain ⟨⟨A1, n1, rfl⟩, ⟨A2, n2, rfl⟩, ⟨A3, n3, rfl⟩⟩ := h.forms
 have hszc : szCompany cs pl ≤ 1048576 := by unfold szTheatre at hsz; omega
 have hs1 := go_sz n cs pl
 have hs2 := unt_sz n (goC n cs pl) pl
 unfold putT
 have HG : Hid (∀ W v1 v2, RdCompany W v1 v2 cs pl → Calls Tryz.prog 90 #[.agg #[.int .i64 n, v1, v2]] W (RetCompany n (goB n cs pl) (goC n cs pl) pl W)) := fun W v1 v2 hr => implGoHome_any n v1 v2 cs pl W hr (by omega)
 have HU : Hid (∀ W v1 v2, RdCompany W v1 v2 (goC n cs pl) pl → Calls Tryz.prog 91 #[.agg #[.int .i64 n, v1, v2]] W (RetCompany n (untB n (goC n cs pl) pl) (untC n (goC n cs pl) pl) pl W)) := fun W v1 v2 hr => implUntwist_any n v1 v2 (goC n cs pl) pl W hr (by omega)
 have HT : Hid (∀ W v1 v2, RdCompany W v1 v2 (untC n (goC n cs pl) pl) pl → Calls Tryz.prog 92 #[.agg #[.int .i64 n, v1, v2]] W (ToCompany n (putC n cs pl) pl W)) := fun W v1 v2 hr => implTidy_any n v1 v2 (untC n (goC n cs pl) pl) pl W hr (by omega)
 have HOK : Hid (theatreB n m cs pl ds = true → untB n (goC n cs pl) pl = true → theatreB n m (putC n cs pl) pl ds = true) := fun h h2 => put_ok h h2
 clear hs1 hs2
 generalize putC n cs pl = c3 at *
 generalize untC n (goC n cs pl) pl = c2 at *
 generalize untB n (goC n cs pl) pl = b2 at *
 generalize goC n cs pl = c1 at *
 generalize goB n cs pl = b1 at *
 obtain ⟨⟨⟨rn, rm, rcs, rpl, rds⟩, rb⟩, hres⟩ : ∃ res, becF ⟨n, m, cs, pl, ds⟩ ⟨n, m, c3, pl, ds⟩ (b1 && b2) = res := ⟨_, rfl⟩
 rw [hres]
 change Calls _ _ _ _ (RetT w.heap.size rn rm rb rcs rpl rds w)
 have Hres := Lib.hid hres
 clear hres
 go_enter Tryz.func43, Tryz.ntmps43
 go_wp2_with fail
 refine (theatreCopied_any n m _ _ _ cs pl ds _ (h.below (by (repeat' (with_reducible first | exact Below.refl _ _ | assumption | refine qS ?_ _ | refine qA ?_ _ | refine qD ?_ | refine qN ?_ _)))) hsz).mono ?_
 rintro e W1 ⟨x1, x2, x3, S, rfl, ow, f1, q⟩
 obtain ⟨⟨B1, k1, rfl⟩, ⟨B2, k2, rfl⟩, ⟨B3, k3, rfl⟩⟩ := ow.rd.forms
 have Lc : Loc W1 (w.heap.size) [.int .i64 n, .slice A1 cs.length n1, .slice A2 pl.length n2, .slice A3 ds.length n3, .int .i64 m] := by have := ((Loc.new w #[.int .i64 n, .slice A1 cs.length n1, .slice A2 pl.length n2, .slice A3 ds.length n3, .int .i64 m] 37).alloc _).below q; simpa using this
 have Lr : Loc W1 (w.heap.size + 1) [.int .i64 0, .slice none 0 0, .slice none 0 0, .slice none 0 0, .int .i64 0] := by have := (Loc.new (w.alloc (.cells #[.int .i64 n, .slice A1 cs.length n1, .slice A2 pl.length n2, .slice A3 ds.length n3, .int .i64 m] 37)) #[.int .i64 0, .slice none 0 0, .slice none 0 0, .slice none 0 0, .int .i64 0] 37).below q; simpa using this
 have hb : Below w.heap.size w W1 := Below.trans (by (repeat' (with_reducible first | exact Below.refl _ _ | assumption | refine qS ?_ _ | refine qA ?_ _ | refine qD ?_ | refine qN ?_ _))) (q.mono (by simp <;> omega))
 have hz0 : w.heap.size + 1 + 1 ≤ W1.heap.size := by have := q.size; simp at this; omega
 have hlow : w.heap.size + 1 + 1 ≤ (((w.alloc (.cells #[.int .i64 n, .slice A1 cs.length n1, .slice A2 pl.length n2, .slice A3 ds.length n3, .int .i64 m] 37)).alloc (.cells #[.int .i64 0, .slice none 0 0, .slice none 0 0, .slice none 0 0, .int .i64 0] 37))).heap.size := by first | exact Nat.le_refl _ | (simp; done) | (simp; omega) | omega
 have FK := Lib.hid (fresh_mono f1 hlow (Nat.le_refl _))
 have DK : Hid (∀ x ∈ S, x ∉ [w.heap.size, w.heap.size + 1]) := (fun x hx => by have := (FK.out.2 x hx).1; simp; omega)
 have OK := Lib.hid ow
 clear ow f1 hlow
 clear q
 go_upto_region 2 with (fail)
 replace Lc : Loc (W1.alloc (.cells #[.int .i64 n, .slice B1 cs.length k1, .slice B2 pl.length k2, .slice B3 ds.length k3, .int .i64 m] 37)) (w.heap.size) [.int .i64 n, .slice A1 cs.length n1, .slice A2 pl.length n2, .slice A3 ds.length n3, .int .i64 m] := Lc.alloc _
 replace Lr : Loc (W1.alloc (.cells #[.int .i64 n, .slice B1 cs.length k1, .slice B2 pl.length k2, .slice B3 ds.length k3, .int .i64 m] 37)) (w.heap.size + 1) [.int .i64 0, .slice none 0 0, .slice none 0 0, .slice none 0 0, .int .i64 0] := Lr.alloc _
 obtain ⟨go, hgo⟩ : ∃ g, W1.heap.size = g := ⟨_, rfl⟩
 have Lo : Loc (W1.alloc (.cells #[.int .i64 n, .slice B1 cs.length k1, .slice B2 pl.length k2, .slice B3 ds.length k3, .int .i64 m] 37)) W1.heap.size [.int .i64 n, .slice B1 cs.length k1, .slice B2 pl.length k2, .slice B3 ds.length k3, .int .i64 m] := Loc.new W1 #[.int .i64 n, .slice B1 cs.length k1, .slice B2 pl.length k2, .slice B3 ds.length k3, .int .i64 m] 37
 rw [hgo] at Lo
 replace OK := Lib.hid (OK.out.below (w' := (W1.alloc (.cells #[.int .i64 n, .slice B1 cs.length k1, .slice B2 pl.length k2, .slice B3 ds.length k3, .int .i64 m] 37))) ((Below.refl _ _).alloc (Nat.le_refl _) _))
 replace DK : Hid (∀ x ∈ S, x ∉ [w.heap.size, w.heap.size + 1, go]) := (fun x hx => by have := DK.out x hx; have := (FK.out.2 x hx).2; simp at *; omega)
 replace FK := Lib.hid (fresh_mono (w' := (W1.alloc (.cells #[.int .i64 n, .slice B1 cs.length k1, .slice B2 pl.length k2, .slice B3 ds.length k3, .int .i64 m] 37))) FK.out (Nat.le_refl _) (by simp))
 replace hb : Below w.heap.size w (W1.alloc (.cells #[.int .i64 n, .slice B1 cs.length k1, .slice B2 pl.length k2, .slice B3 ds.length k3, .int .i64 m] 37)) := hb.alloc hb.size _
 have hlto : go < (W1.alloc (.cells #[.int .i64 n, .slice B1 cs.length k1, .slice B2 pl.length k2, .slice B3 ds.length k3, .int .i64 m] 37)).heap.size := by simp; omega
 have hne_c_o : w.heap.size < go := by omega
 have hne_r_o : w.heap.size + 1 < go := by omega
 generalize W1.alloc (.cells #[.int .i64 n, .slice B1 cs.length k1, .slice B2 pl.length k2, .slice B3 ds.length k3, .int .i64 m] 37) = W2 at *
 rw [hgo]
 clear hgo
 have o0 := (Lo 0 _ rfl).1
 have o1 := (Lo 1 _ rfl).1
 have o2 := (Lo 2 _ rfl).1
 go_wp2_with fail
 refine (HG.out _ _ _ (OK.out.rd.1)).mono ?_
 rintro e W3 ⟨x4, x5, SX, rfl, oX, fX, q⟩
 clear o0 o1 o2
 obtain ⟨⟨C1, l1, rfl⟩, ⟨C2, l2, rfl⟩⟩ := oX.rd.forms
 have hzq : W2.heap.size ≤ W3.heap.size := by have := q.size; (try simp at this); omega
 replace Lc := Lc.below q
 replace Lr := Lr.below q
 replace Lo := Lo.below q
 replace OK := Lib.hid (OK.out.below q)
 replace FK := Lib.hid (fresh_mono (w' := W3) FK.out (Nat.le_refl _) hzq)
 replace hb : Below w.heap.size w W3 := hb.trans (q.mono hb.size)
 have hlow : W2.heap.size ≤ W2.heap.size := by first | exact Nat.le_refl _ | (simp; done) | (simp; omega) | omega
 have FX := Lib.hid (fresh_mono fX hlow (Nat.le_refl _))
 have DX : Hid (∀ x ∈ SX, x ∉ [w.heap.size, w.heap.size + 1, go]) := (fun x hx => by have := (FX.out.2 x hx).1; simp; omega)
 have OX := Lib.hid oX
 clear oX fX hlow
 clear q
 go_upto_region 3 with (fail)
 replace Lc : Loc (W3.alloc (.cells #[.int .i64 n, .slice C1 c1.length l1, .slice C2 pl.length l2] 35)) (w.heap.size) [.int .i64 n, .slice A1 cs.length n1, .slice A2 pl.length n2, .slice A3 ds.length n3, .int .i64 m] := Lc.alloc _
 replace Lr : Loc (W3.alloc (.cells #[.int .i64 n, .slice C1 c1.length l1, .slice C2 pl.length l2] 35)) (w.heap.size + 1) [.int .i64 0, .slice none 0 0, .slice none 0 0, .slice none 0 0, .int .i64 0] := Lr.alloc _
 replace Lo : Loc (W3.alloc (.cells #[.int .i64 n, .slice C1 c1.length l1, .slice C2 pl.length l2] 35)) (go) [.int .i64 n, .slice B1 cs.length k1, .slice B2 pl.length k2, .slice B3 ds.length k3, .int .i64 m] := Lo.alloc _
 obtain ⟨gp, hgp⟩ : ∃ g, W3.heap.size = g := ⟨_, rfl⟩
 have Lp : Loc (W3.alloc (.cells #[.int .i64 n, .slice C1 c1.length l1, .slice C2 pl.length l2] 35)) W3.heap.size [.int .i64 n, .slice C1 c1.length l1, .slice C2 pl.length l2] := Loc.new W3 #[.int .i64 n, .slice C1 c1.length l1, .slice C2 pl.length l2] 35
 rw [hgp] at Lp
 replace OK := Lib.hid (OK.out.below (w' := (W3.alloc (.cells #[.int .i64 n, .slice C1 c1.length l1, .slice C2 pl.length l2] 35))) ((Below.refl _ _).alloc (Nat.le_refl _) _))
 replace OX := Lib.hid (OX.out.below (w' := (W3.alloc (.cells #[.int .i64 n, .slice C1 c1.length l1, .slice C2 pl.length l2] 35))) ((Below.refl _ _).alloc (Nat.le_refl _) _))
 replace DK : Hid (∀ x ∈ S, x ∉ [w.heap.size, w.heap.size + 1, go, gp]) := (fun x hx => by have := DK.out x hx; have := (FK.out.2 x hx).2; simp at *; omega)
 replace FK := Lib.hid (fresh_mono (w' := (W3.alloc (.cells #[.int .i64 n, .slice C1 c1.length l1, .slice C2 pl.length l2] 35))) FK.out (Nat.le_refl _) (by simp))
 replace DX : Hid (∀ x ∈ SX, x ∉ [w.heap.size, w.heap.size + 1, go, gp]) := (fun x hx => by have := DX.out x hx; have := (FX.out.2 x hx).2; simp at *; omega)
 replace FX := Lib.hid (fresh_mono (w' := (W3.alloc (.cells #[.int .i64 n, .slice C1 c1.length l1, .slice C2 pl.length l2] 35))) FX.out (Nat.le_refl _) (by simp))
 replace hb : Below w.heap.size w (W3.alloc (.cells #[.int .i64 n, .slice C1 c1.length l1, .slice C2 pl.length l2] 35)) := hb.alloc hb.size _
 have hltp : gp < (W3.alloc (.cells #[.int .i64 n, .slice C1 c1.length l1, .slice C2 pl.length l2] 35)).heap.size := by simp; omega
 have hne_c_p : w.heap.size < gp := by omega
 have hne_r_p : w.heap.size + 1 < gp := by omega
 have hne_o_p : go < gp := by omega
 generalize W3.alloc (.cells #[.int .i64 n, .slice C1 c1.length l1, .slice C2 pl.length l2] 35) = W4 at *
 rw [hgp]
 clear hgp
 have p0 := (Lp 0 _ rfl).1
 have p1 := (Lp 1 _ rfl).1
 have p2 := (Lp 2 _ rfl).1
 go_wp2_with fail
 refine (HU.out _ _ _ (OX.out.rd)).mono ?_
 rintro e W5 ⟨y4, y5, SY, rfl, oY, fY, q⟩
 clear p0 p1 p2
 obtain ⟨⟨D1, j1, rfl⟩, ⟨D2, j2, rfl⟩⟩ := oY.rd.forms
 have hzq : W4.heap.size ≤ W5.heap.size := by have := q.size; (try simp at this); omega
 replace Lc := Lc.below q
 replace Lr := Lr.below q
 replace Lo := Lo.below q
 replace Lp := Lp.below q
 replace OK := Lib.hid (OK.out.below q)
 replace FK := Lib.hid (fresh_mono (w' := W5) FK.out (Nat.le_refl _) hzq)
 replace OX := Lib.hid (OX.out.below q)
 replace FX := Lib.hid (fresh_mono (w' := W5) FX.out (Nat.le_refl _) hzq)
 replace hb : Below w.heap.size w W5 := hb.trans (q.mono hb.size)
 have hlow : W4.heap.size ≤ W4.heap.size := by first | exact Nat.le_refl _ | (simp; done) | (simp; omega) | omega
 have FY := Lib.hid (fresh_mono fY hlow (Nat.le_refl _))
 have DY : Hid (∀ x ∈ SY, x ∉ [w.heap.size, w.heap.size + 1, go, gp]) := (fun x hx => by have := (FY.out.2 x hx).1; simp; omega)
 have OY := Lib.hid oY
 clear oY fY hlow
 clear q
 clear OX FX DX
 go_upto_region 4 with (fail)
 replace Lc : Loc (W5.alloc (.cells #[.int .i64 n, .slice D1 c2.length j1, .slice D2 pl.length j2] 35)) (w.heap.size) [.int .i64 n, .slice A1 cs.length n1, .slice A2 pl.length n2, .slice A3 ds.length n3, .int .i64 m] := Lc.alloc _
 replace Lr : Loc (W5.alloc (.cells #[.int .i64 n, .slice D1 c2.length j1, .slice D2 pl.length j2] 35)) (w.heap.size + 1) [.int .i64 0, .slice none 0 0, .slice none 0 0, .slice none 0 0, .int .i64 0] := Lr.alloc _
 replace Lo : Loc (W5.alloc (.cells #[.int .i64 n, .slice D1 c2.length j1, .slice D2 pl.length j2] 35)) (go) [.int .i64 n, .slice B1 cs.length k1, .slice B2 pl.length k2, .slice B3 ds.length k3, .int .i64 m] := Lo.alloc _
 replace Lp : Loc (W5.alloc (.cells #[.int .i64 n, .slice D1 c2.length j1, .slice D2 pl.length j2] 35)) (gp) [.int .i64 n, .slice C1 c1.length l1, .slice C2 pl.length l2] := Lp.alloc _
 obtain ⟨gq, hgq⟩ : ∃ g, W5.heap.size = g := ⟨_, rfl⟩
 have Lq : Loc (W5.alloc (.cells #[.int .i64 n, .slice D1 c2.length j1, .slice D2 pl.length j2] 35)) W5.heap.size [.int .i64 n, .slice D1 c2.length j1, .slice D2 pl.length j2] := Loc.new W5 #[.int .i64 n, .slice D1 c2.length j1, .slice D2 pl.length j2] 35
 rw [hgq] at Lq
 replace OK := Lib.hid (OK.out.below (w' := (W5.alloc (.cells #[.int .i64 n, .slice D1 c2.length j1, .slice D2 pl.length j2] 35))) ((Below.refl _ _).alloc (Nat.le_refl _) _))
 replace OY := Lib.hid (OY.out.below (w' := (W5.alloc (.cells #[.int .i64 n, .slice D1 c2.length j1, .slice D2 pl.length j2] 35))) ((Below.refl _ _).alloc (Nat.le_refl _) _))
 replace DK : Hid (∀ x ∈ S, x ∉ [w.heap.size, w.heap.size + 1, go, gp, gq]) := (fun x hx => by have := DK.out x hx; have := (FK.out.2 x hx).2; simp at *; omega)
 replace FK := Lib.hid (fresh_mono (w' := (W5.alloc (.cells #[.int .i64 n, .slice D1 c2.length j1, .slice D2 pl.length j2] 35))) FK.out (Nat.le_refl _) (by simp))
 replace DY : Hid (∀ x ∈ SY, x ∉ [w.heap.size, w.heap.size + 1, go, gp, gq]) := (fun x hx => by have := DY.out x hx; have := (FY.out.2 x hx).2; simp at *; omega)
 replace FY := Lib.hid (fresh_mono (w' := (W5.alloc (.cells #[.int .i64 n, .slice D1 c2.length j1, .slice D2 pl.length j2] 35))) FY.out (Nat.le_refl _) (by simp))
 replace hb : Below w.heap.size w (W5.alloc (.cells #[.int .i64 n, .slice D1 c2.length j1, .slice D2 pl.length j2] 35)) := hb.alloc hb.size _
 have hltq : gq < (W5.alloc (.cells #[.int .i64 n, .slice D1 c2.length j1, .slice D2 pl.length j2] 35)).heap.size := by simp; omega
 have hne_c_q : w.heap.size < gq := by omega
 have hne_r_q : w.heap.size + 1 < gq := by omega
 have hne_o_q : go < gq := by omega
 have hne_p_q : gp < gq := by omega
 generalize W5.alloc (.cells #[.int .i64 n, .slice D1 c2.length j1, .slice D2 pl.length j2] 35) = W6 at *
 rw [hgq]
 clear hgq
 have q0 := (Lq 0 _ rfl).1
 have q1 := (Lq 1 _ rfl).1
 have q2 := (Lq 2 _ rfl).1
 have hU : ∀ x ∈ S, x < W6.heap.size := fun x hx => (FK.out.2 x hx).2
 go_wp2_with fail
 refine (HT.out _ _ _ (OY.out.rd)).mono ?_
 rintro e W7 ⟨z4, z5, SZ, rfl, oZ, fZ, q⟩
 clear q0 q1 q2
 obtain ⟨⟨E1, i1, rfl⟩, ⟨E2, i2, rfl⟩⟩ := oZ.rd.forms
 have hzq : W6.heap.size ≤ W7.heap.size := by have := q.size; (try simp at this); omega
 replace Lc := Lc.below q
 replace Lr := Lr.below q
 replace Lo := Lo.below q
 replace Lp := Lp.below q
 replace Lq := Lq.below q
 replace OK := Lib.hid (OK.out.below q)
 replace FK := Lib.hid (fresh_mono (w' := W7) FK.out (Nat.le_refl _) hzq)
 replace OY := Lib.hid (OY.out.below q)
 replace FY := Lib.hid (fresh_mono (w' := W7) FY.out (Nat.le_refl _) hzq)
 replace hb : Below w.heap.size w W7 := hb.trans (q.mono hb.size)
 have hlow : W6.heap.size ≤ W6.heap.size := by first | exact Nat.le_refl _ | (simp; done) | (simp; omega) | omega
 have FZ := Lib.hid (fresh_mono fZ hlow (Nat.le_refl _))
 have DZ : Hid (∀ x ∈ SZ, x ∉ [w.heap.size, w.heap.size + 1, go, gp, gq]) := (fun x hx => by have := (FZ.out.2 x hx).1; simp; omega)
 have OZ := Lib.hid oZ
 clear oZ fZ hlow
 clear q
 clear OY FY DY
 have HJZ : Hid (∀ x ∈ SZ, x ∉ S) := (fun x hx hx' => by have := (FZ.out.2 x hx).1; have := hU x hx'; omega)
 clear hU
 obtain ⟨SK1, SK3, eK, oK, pK⟩ := OK.out
 have FKx := FK.out
 have DKx := DK.out
 rw [eK] at FKx DKx
 have OK1 := Lib.hid oK
 have OK3 := Lib.hid pK
 have FK1 := Lib.hid (fresh_left FKx)
 have FK3 := Lib.hid (fresh_right FKx)
 have DK1 : Hid (∀ x ∈ SK1, x ∉ [w.heap.size, w.heap.size + 1, go, gp, gq]) := (fun x hx => DKx x (List.mem_append_left _ hx))
 have DK3 : Hid (∀ x ∈ SK3, x ∉ [w.heap.size, w.heap.size + 1, go, gp, gq]) := (fun x hx => DKx x (List.mem_append_right _ hx))
 have JK : Hid (∀ x ∈ SK1, x ∉ SK3) := (nodup2 FKx.1).2.2.1
 clear OK FK DK FKx DKx oK pK
 clear OK1 FK1 DK1
 have o0 := (Lo 0 _ rfl).1
 have of0 := (Lo 0 _ rfl).2
 have o1 := (Lo 1 _ rfl).1
 have of1 := (Lo 1 _ rfl).2
 have o2 := (Lo 2 _ rfl).1
 have of2 := (Lo 2 _ rfl).2
 have o3 := (Lo 3 _ rfl).1
 have of3 := (Lo 3 _ rfl).2
 have o4 := (Lo 4 _ rfl).1
 have of4 := (Lo 4 _ rfl).2
 go_upto_region 5 with (fail)
 clear o0 of0 o1 of1 o2 of2 o3 of3 o4 of4
 replace Lc := Lc.far (g := go) (i := 0) (u := .int .i64 n) (by omega)
 replace Lr := Lr.far (g := go) (i := 0) (u := .int .i64 n) (by omega)
 replace Lp := Lp.far (g := go) (i := 0) (u := .int .i64 n) (by omega)
 replace Lq := Lq.far (g := go) (i := 0) (u := .int .i64 n) (by omega)
 replace Lo : Loc (W7.setCell ⟨go, 0, none⟩ (.int .i64 n)) (go) [.int .i64 n, .slice B1 cs.length k1, .slice B2 pl.length k2, .slice B3 ds.length k3, .int .i64 m] := Lo.set (i := 0) (v := .int .i64 n) rfl
 have hch : Chg [go] W7 (W7.setCell ⟨go, 0, none⟩ (.int .i64 n)) := chg_set (Chg.refl _ _) (by simp)
 replace OZ := Lib.hid (OZ.out.chg hch (fun x hx hx' => DZ.out x hx (by simp at hx'; subst hx'; simp)))
 replace FZ := Lib.hid (fresh_mono (w' := (W7.setCell ⟨go, 0, none⟩ (.int .i64 n))) FZ.out (Nat.le_refl _) hch.size)
 replace OK3 := Lib.hid (OK3.out.chg hch (fun x hx hx' => DK3.out x hx (by simp at hx'; subst hx'; simp)))
 replace FK3 := Lib.hid (fresh_mono (w' := (W7.setCell ⟨go, 0, none⟩ (.int .i64 n))) FK3.out (Nat.le_refl _) hch.size)
 replace hb : Below w.heap.size w (W7.setCell ⟨go, 0, none⟩ (.int .i64 n)) := Below.chg hb hch hb.size (by simp; omega)
 have hzc := hch.size
 clear hch
 generalize W7.setCell ⟨go, 0, none⟩ (.int .i64 n) = W8 at *
 replace Lc := Lc.far (g := go) (i := 1) (u := .slice E1 c3.length i1) (by omega)
 replace Lr := Lr.far (g := go) (i := 1) (u := .slice E1 c3.length i1) (by omega)
 replace Lp := Lp.far (g := go) (i := 1) (u := .slice E1 c3.length i1) (by omega)
 replace Lq := Lq.far (g := go) (i := 1) (u := .slice E1 c3.length i1) (by omega)
 replace Lo : Loc (W8.setCell ⟨go, 1, none⟩ (.slice E1 c3.length i1)) (go) [.int .i64 n, .slice E1 c3.length i1, .slice B2 pl.length k2, .slice B3 ds.length k3, .int .i64 m] := Lo.set (i := 1) (v := .slice B1 cs.length k1) rfl
 have hch : Chg [go] W8 (W8.setCell ⟨go, 1, none⟩ (.slice E1 c3.length i1)) := chg_set (Chg.refl _ _) (by simp)
 replace OZ := Lib.hid (OZ.out.chg hch (fun x hx hx' => DZ.out x hx (by simp at hx'; subst hx'; simp)))
 replace FZ := Lib.hid (fresh_mono (w' := (W8.setCell ⟨go, 1, none⟩ (.slice E1 c3.length i1))) FZ.out (Nat.le_refl _) hch.size)
 replace OK3 := Lib.hid (OK3.out.chg hch (fun x hx hx' => DK3.out x hx (by simp at hx'; subst hx'; simp)))
 replace FK3 := Lib.hid (fresh_mono (w' := (W8.setCell ⟨go, 1, none⟩ (.slice E1 c3.length i1))) FK3.out (Nat.le_refl _) hch.size)
 replace hb : Below w.heap.size w (W8.setCell ⟨go, 1, none⟩ (.slice E1 c3.length i1)) := Below.chg hb hch hb.size (by simp; omega)
 have hzc := hch.size
 clear hch
 generalize W8.setCell ⟨go, 1, none⟩ (.slice E1 c3.length i1) = W9 at *
 replace Lc := Lc.far (g := go) (i := 2) (u := .slice E2 pl.length i2) (by omega)
 replace Lr := Lr.far (g := go) (i := 2) (u := .slice E2 pl.length i2) (by omega)
 replace Lp := Lp.far (g := go) (i := 2) (u := .slice E2 pl.length i2) (by omega)
 replace Lq := Lq.far (g := go) (i := 2) (u := .slice E2 pl.length i2) (by omega)
 replace Lo : Loc (W9.setCell ⟨go, 2, none⟩ (.slice E2 pl.length i2)) (go) [.int .i64 n, .slice E1 c3.length i1, .slice E2 pl.length i2, .slice B3 ds.length k3, .int .i64 m] := Lo.set (i := 2) (v := .slice B2 pl.length k2) rfl
 have hch : Chg [go] W9 (W9.setCell ⟨go, 2, none⟩ (.slice E2 pl.length i2)) := chg_set (Chg.refl _ _) (by simp)
 replace OZ := Lib.hid (OZ.out.chg hch (fun x hx hx' => DZ.out x hx (by simp at hx'; subst hx'; simp)))
 replace FZ := Lib.hid (fresh_mono (w' := (W9.setCell ⟨go, 2, none⟩ (.slice E2 pl.length i2))) FZ.out (Nat.le_refl _) hch.size)
 replace OK3 := Lib.hid (OK3.out.chg hch (fun x hx hx' => DK3.out x hx (by simp at hx'; subst hx'; simp)))
 replace FK3 := Lib.hid (fresh_mono (w' := (W9.setCell ⟨go, 2, none⟩ (.slice E2 pl.length i2))) FK3.out (Nat.le_refl _) hch.size)
 replace hb : Below w.heap.size w (W9.setCell ⟨go, 2, none⟩ (.slice E2 pl.length i2)) := Below.chg hb hch hb.size (by simp; omega)
 have hzc := hch.size
 clear hch
 generalize W9.setCell ⟨go, 2, none⟩ (.slice E2 pl.length i2) = W10 at *
 replace FZ := Lib.hid (fresh_mono (B' := w.heap.size + 1 + 1) FZ.out (by have := hb.size; omega) (Nat.le_refl _))
 have OP : OwTheatre W10 (SZ ++ SK3) (.slice E1 c3.length i1) (.slice E2 pl.length i2) (.slice B3 ds.length k3) c3 pl ds := ⟨_, _, rfl, OZ.out, OK3.out⟩
 have FQ := Lib.hid (fresh_join FZ.out FK3.out (fun x hx hx' => HJZ.out x hx (by rw [eK]; exact List.mem_append_right _ hx')))
 have DQ : Hid (∀ x ∈ SZ ++ SK3, x ∉ [w.heap.size, w.heap.size + 1, go, gp, gq]) := (fun x hx => (List.mem_append.1 hx).elim (DZ.out x) (DK3.out x))
 have OQ := Lib.hid (OP)
 clear OZ FZ DZ OK3 FK3 DK3
 obtain ⟨SQ, hSQ⟩ : ∃ T, SZ ++ SK3 = T := ⟨_, rfl⟩
 rw [hSQ] at OQ FQ DQ
 clear hSQ
 clear OP
 cases b1
 ·skip
  have c0 := (Lc 0 _ rfl).1
  have c1 := (Lc 1 _ rfl).1
  have c2 := (Lc 2 _ rfl).1
  have c3 := (Lc 3 _ rfl).1
  have c4 := (Lc 4 _ rfl).1
  have o0 := (Lo 0 _ rfl).1
  have o1 := (Lo 1 _ rfl).1
  have o2 := (Lo 2 _ rfl).1
  have o3 := (Lo 3 _ rfl).1
  have o4 := (Lo 4 _ rfl).1
  go_wp2_with fail
  refine (becomes_eq (B := w.heap.size + 1 + 1) (S := SQ) Hres.out (h.below hb) hsz OQ.out FQ.out (by have := hb.size; omega)).mono ?_
  rintro e W11 ⟨z1, z2, z3, T, rfl, owr, fr, q⟩
  clear c0 c1 c2 c3 c4 o0 o1 o2 o3 o4
  obtain ⟨⟨Z1, e1, rfl⟩, ⟨Z2, e2, rfl⟩, ⟨Z3, e3, rfl⟩⟩ := owr.rd.forms
  have hzq : W10.heap.size ≤ W11.heap.size := by have := q.size; (try simp at this); omega
  replace Lc := Lc.below q
  replace Lr := Lr.below q
  replace Lo := Lo.below q
  replace Lp := Lp.below q
  replace Lq := Lq.below q
  replace OQ := Lib.hid (OQ.out.below q)
  replace FQ := Lib.hid (fresh_mono (w' := W11) FQ.out (Nat.le_refl _) hzq)
  replace hb : Below w.heap.size w W11 := hb.trans (q.mono hb.size)
  clear q
  have FR := Lib.hid fr
  have OR := Lib.hid owr
  clear fr owr Hres
  have r0 := (Lr 0 _ rfl).1
  have rf0 := (Lr 0 _ rfl).2
  have r1 := (Lr 1 _ rfl).1
  have rf1 := (Lr 1 _ rfl).2
  have r2 := (Lr 2 _ rfl).1
  have rf2 := (Lr 2 _ rfl).2
  have r3 := (Lr 3 _ rfl).1
  have rf3 := (Lr 3 _ rfl).2
  have r4 := (Lr 4 _ rfl).1
  have rf4 := (Lr 4 _ rfl).2
  go_wp2_with fail
  refine bodyPost_ret (v := .tuple #[.agg #[.int .i64 rn, .slice Z1 rcs.length e1, .slice Z2 rpl.length e2, .slice Z3 rds.length e3, .int .i64 rm], .bool rb]) (by simp [results, Tryz.results43, go_sem, *]) rfl ⟨_, _, _, T, rfl, ?_, ?_, ?_⟩
  ·exact OR.out.chg (T := [w.heap.size + 1]) (by repeat' (with_reducible first | exact Chg.refl _ _ | refine qC ?_)) (fun x hx hx' => by have := (FR.out.2 x hx).1; simp at hx'; omega)
  ·exact fresh_mono FR.out (by omega) (by simp)
  ·exact Below.chg hb (S := [w.heap.size + 1]) (by repeat' (with_reducible first | exact Chg.refl _ _ | refine qC ?_)) hb.size (fun x hx => by simp at hx; omega)
 ·skip
  have c0 := (Lc 0 _ rfl).1
  have c1 := (Lc 1 _ rfl).1
  have c2 := (Lc 2 _ rfl).1
  have c3 := (Lc 3 _ rfl).1
  have c4 := (Lc 4 _ rfl).1
  have o0 := (Lo 0 _ rfl).1
  have o1 := (Lo 1 _ rfl).1
  have o2 := (Lo 2 _ rfl).1
  have o3 := (Lo 3 _ rfl).1
  have o4 := (Lo 4 _ rfl).1
  go_wp2_with fail
  refine (becomes_eq (B := w.heap.size + 1 + 1) (S := SQ) Hres.out (h.below hb) hsz OQ.out FQ.out (by have := hb.size; omega)).mono ?_
  rintro e W11 ⟨z1, z2, z3, T, rfl, owr, fr, q⟩
  clear c0 c1 c2 c3 c4 o0 o1 o2 o3 o4
  obtain ⟨⟨Z1, e1, rfl⟩, ⟨Z2, e2, rfl⟩, ⟨Z3, e3, rfl⟩⟩ := owr.rd.forms
  have hzq : W10.heap.size ≤ W11.heap.size := by have := q.size; (try simp at this); omega
  replace Lc := Lc.below q
  replace Lr := Lr.below q
  replace Lo := Lo.below q
  replace Lp := Lp.below q
  replace Lq := Lq.below q
  replace OQ := Lib.hid (OQ.out.below q)
  replace FQ := Lib.hid (fresh_mono (w' := W11) FQ.out (Nat.le_refl _) hzq)
  replace hb : Below w.heap.size w W11 := hb.trans (q.mono hb.size)
  clear q
  have FR := Lib.hid fr
  have OR := Lib.hid owr
  clear fr owr Hres
  have r0 := (Lr 0 _ rfl).1
  have rf0 := (Lr 0 _ rfl).2
  have r1 := (Lr 1 _ rfl).1
  have rf1 := (Lr 1 _ rfl).2
  have r2 := (Lr 2 _ rfl).1
  have rf2 := (Lr 2 _ rfl).2
  have r3 := (Lr 3 _ rfl).1
  have rf3 := (Lr 3 _ rfl).2
  have r4 := (Lr 4 _ rfl).1
  have rf4 := (Lr 4 _ rfl).2
  go_wp2_with fail
  refine bodyPost_ret (v := .tuple #[.agg #[.int .i64 rn, .slice Z1 rcs.length e1, .slice Z2 rpl.length e2, .slice Z3 rds.length e3, .int .i64 rm], .bool rb]) (by simp [results, Tryz.results43, go_sem, *]) rfl ⟨_, _, _, T, rfl, ?_, ?_, ?_⟩
  ·exact OR.out.chg (T := [w.heap.size + 1]) (by repeat' (with_reducible first | exact Chg.refl _ _ | refine qC ?_)) (fun x hx hx' => by have := (FR.out.2 x hx).1; simp at hx'; omega)
  ·exact fresh_mono FR.out (by omega) (by simp)
  ·exact Below.chg hb (S := [w.heap.size + 1]) (by repeat' (with_reducible first | exact Chg.refl _ _ | refine qC ?_)) hb.size (fun x hx => by simp at hx; omega)
set_option maxHeartbeats 8000000 in
set_option maxRecDepth 100000 in
theorem specPutInOrder_any (n m : Int) (v1 v2 v3 : Value) (cs : List RCross) (pl : List RPl) (ds : List Int) (w : World) (h : RdTheatre w v1 v2 v3 cs pl ds) (hsz : szTheatre cs pl ds ≤ 1048576) :
  Calls Tryz.prog 63 #[.agg #[.int .i64 n, v1, v2, v3, .int .i64 m]] w (RetTh w.heap.size (putT ⟨n, m, cs, pl, ds⟩) w) := by
 obtain ⟨⟨A1, n1, rfl⟩, ⟨A2, n2, rfl⟩, ⟨A3, n3, rfl⟩⟩ := h.forms
 have hszc : szCompany cs pl ≤ 1048576 := by unfold szTheatre at hsz; omega
 have hs1 := go_sz n cs pl
 have hs2 := unt_sz n (goC n cs pl) pl
 unfold putT
 have HG : Hid (∀ W v1 v2, RdCompany W v1 v2 cs pl → Calls Tryz.prog 113 #[.agg #[.int .i64 n, v1, v2]] W (RetCompany n (goB n cs pl) (goC n cs pl) pl W)) := fun W v1 v2 hr => specGoHome_any n v1 v2 cs pl W hr (by omega)
 have HU : Hid (∀ W v1 v2, RdCompany W v1 v2 (goC n cs pl) pl → Calls Tryz.prog 114 #[.agg #[.int .i64 n, v1, v2]] W (RetCompany n (untB n (goC n cs pl) pl) (untC n (goC n cs pl) pl) pl W)) := fun W v1 v2 hr => specUntwist_any n v1 v2 (goC n cs pl) pl W hr (by omega)
 have HT : Hid (∀ W v1 v2, RdCompany W v1 v2 (untC n (goC n cs pl) pl) pl → Calls Tryz.prog 115 #[.agg #[.int .i64 n, v1, v2]] W (ToCompany n (putC n cs pl) pl W)) := fun W v1 v2 hr => specTidy_any n v1 v2 (untC n (goC n cs pl) pl) pl W hr (by omega)
 have HOK : Hid (theatreB n m cs pl ds = true → untB n (goC n cs pl) pl = true → theatreB n m (putC n cs pl) pl ds = true) := fun h h2 => put_ok h h2
 clear hs1 hs2
 generalize putC n cs pl = c3 at *
 generalize untC n (goC n cs pl) pl = c2 at *
 generalize untB n (goC n cs pl) pl = b2 at *
 generalize goC n cs pl = c1 at *
 generalize goB n cs pl = b1 at *
 go_enter Tryz.func63, Tryz.ntmps63
 go_wp2_with fail
 refine (l38Copy_any n m _ _ _ cs pl ds _ (h.below (by (repeat' (with_reducible first | exact Below.refl _ _ | assumption | refine qS ?_ _ | refine qA ?_ _ | refine qD ?_ | refine qN ?_ _)))) hsz).mono ?_
 rintro e W1 ⟨x1, x2, x3, S, rfl, ow, f1, q⟩
 obtain ⟨⟨B1, k1, rfl⟩, ⟨B2, k2, rfl⟩, ⟨B3, k3, rfl⟩⟩ := ow.rd.forms
 have Lc : Loc W1 (w.heap.size) [.int .i64 n, .slice A1 cs.length n1, .slice A2 pl.length n2, .slice A3 ds.length n3, .int .i64 m] := by have := ((Loc.new w #[.int .i64 n, .slice A1 cs.length n1, .slice A2 pl.length n2, .slice A3 ds.length n3, .int .i64 m] 37).alloc _).below q; simpa using this
 have Lr : Loc W1 (w.heap.size + 1) [.int .i64 0, .slice none 0 0, .slice none 0 0, .slice none 0 0, .int .i64 0] := by have := (Loc.new (w.alloc (.cells #[.int .i64 n, .slice A1 cs.length n1, .slice A2 pl.length n2, .slice A3 ds.length n3, .int .i64 m] 37)) #[.int .i64 0, .slice none 0 0, .slice none 0 0, .slice none 0 0, .int .i64 0] 37).below q; simpa using this
 have hb : Below w.heap.size w W1 := Below.trans (by (repeat' (with_reducible first | exact Below.refl _ _ | assumption | refine qS ?_ _ | refine qA ?_ _ | refine qD ?_ | refine qN ?_ _))) (q.mono (by simp <;> omega))
 have hz0 : w.heap.size + 1 + 1 ≤ W1.heap.size := by have := q.size; simp at this; omega
 have hlow : w.heap.size + 1 + 1 ≤ (((w.alloc (.cells #[.int .i64 n, .slice A1 cs.length n1, .slice A2 pl.length n2, .slice A3 ds.length n3, .int .i64 m] 37)).alloc (.cells #[.int .i64 0, .slice none 0 0, .slice none 0 0, .slice none 0 0, .int .i64 0] 37))).heap.size := by first | exact Nat.le_refl _ | (simp; done) | (simp; omega) | omega
 have FK := Lib.hid (fresh_mono f1 hlow (Nat.le_refl _))
 have DK : Hid (∀ x ∈ S, x ∉ [w.heap.size, w.heap.size + 1]) := (fun x hx => by have := (FK.out.2 x hx).1; simp; omega)
 have OK := Lib.hid ow
 clear ow f1 hlow
 clear q
 go_upto_region 2 with (fail)
 replace Lc : Loc (W1.alloc (.cells #[.int .i64 n, .slice B1 cs.length k1, .slice B2 pl.length k2, .slice B3 ds.length k3, .int .i64 m] 37)) (w.heap.size) [.int .i64 n, .slice A1 cs.length n1, .slice A2 pl.length n2, .slice A3 ds.length n3, .int .i64 m] := Lc.alloc _
 replace Lr : Loc (W1.alloc (.cells #[.int .i64 n, .slice B1 cs.length k1, .slice B2 pl.length k2, .slice B3 ds.length k3, .int .i64 m] 37)) (w.heap.size + 1) [.int .i64 0, .slice none 0 0, .slice none 0 0, .slice none 0 0, .int .i64 0] := Lr.alloc _
 obtain ⟨go, hgo⟩ : ∃ g, W1.heap.size = g := ⟨_, rfl⟩
 have Lo : Loc (W1.alloc (.cells #[.int .i64 n, .slice B1 cs.length k1, .slice B2 pl.length k2, .slice B3 ds.length k3, .int .i64 m] 37)) W1.heap.size [.int .i64 n, .slice B1 cs.length k1, .slice B2 pl.length k2, .slice B3 ds.length k3, .int .i64 m] := Loc.new W1 #[.int .i64 n, .slice B1 cs.length k1, .slice B2 pl.length k2, .slice B3 ds.length k3, .int .i64 m] 37
 rw [hgo] at Lo
 replace OK := Lib.hid (OK.out.below (w' := (W1.alloc (.cells #[.int .i64 n, .slice B1 cs.length k1, .slice B2 pl.length k2, .slice B3 ds.length k3, .int .i64 m] 37))) ((Below.refl _ _).alloc (Nat.le_refl _) _))
 replace DK : Hid (∀ x ∈ S, x ∉ [w.heap.size, w.heap.size + 1, go]) := (fun x hx => by have := DK.out x hx; have := (FK.out.2 x hx).2; simp at *; omega)
 replace FK := Lib.hid (fresh_mono (w' := (W1.alloc (.cells #[.int .i64 n, .slice B1 cs.length k1, .slice B2 pl.length k2, .slice B3 ds.length k3, .int .i64 m] 37))) FK.out (Nat.le_refl _) (by simp))
 replace hb : Below w.heap.size w (W1.alloc (.cells #[.int .i64 n, .slice B1 cs.length k1, .slice B2 pl.length k2, .slice B3 ds.length k3, .int .i64 m] 37)) := hb.alloc hb.size _
 have hlto : go < (W1.alloc (.cells #[.int .i64 n, .slice B1 cs.length k1, .slice B2 pl.length k2, .slice B3 ds.length k3, .int .i64 m] 37)).heap.size := by simp; omega
 have hne_c_o : w.heap.size < go := by omega
 have hne_r_o : w.heap.size + 1 < go := by omega
 generalize W1.alloc (.cells #[.int .i64 n, .slice B1 cs.length k1, .slice B2 pl.length k2, .slice B3 ds.length k3, .int .i64 m] 37) = W2 at *
 rw [hgo]
 clear hgo
 have c0 := (Lc 0 _ rfl).1
 have c1 := (Lc 1 _ rfl).1
 have c2 := (Lc 2 _ rfl).1
 have c3 := (Lc 3 _ rfl).1
 have c4 := (Lc 4 _ rfl).1
 go_wp2_with fail
 refine twoB (specTheatreOk_any n m _ _ _ cs pl ds _ (h.below hb)) (fun W3 hq q => ?_) (fun W3 hq q => ?_)
 ·skip
  clear c0 c1 c2 c3 c4
  have hzq : W2.heap.size ≤ W3.heap.size := by have := q.size; (try simp at this); omega
  replace Lc := Lc.below q
  replace Lr := Lr.below q
  replace Lo := Lo.below q
  replace OK := Lib.hid (OK.out.below q)
  replace FK := Lib.hid (fresh_mono (w' := W3) FK.out (Nat.le_refl _) hzq)
  replace hb : Below w.heap.size w W3 := hb.trans (q.mono hb.size)
  clear q
  have c0 := (Lc 0 _ rfl).1
  have c1 := (Lc 1 _ rfl).1
  have c2 := (Lc 2 _ rfl).1
  go_wp2_with fail
  refine (HG.out _ _ _ ((h.below hb).1)).mono ?_
  rintro e W4 ⟨x4, x5, SX, rfl, oX, fX, q⟩
  clear c0 c1 c2
  obtain ⟨⟨C1, l1, rfl⟩, ⟨C2, l2, rfl⟩⟩ := oX.rd.forms
  have hzq : W3.heap.size ≤ W4.heap.size := by have := q.size; (try simp at this); omega
  replace Lc := Lc.below q
  replace Lr := Lr.below q
  replace Lo := Lo.below q
  replace OK := Lib.hid (OK.out.below q)
  replace FK := Lib.hid (fresh_mono (w' := W4) FK.out (Nat.le_refl _) hzq)
  replace hb : Below w.heap.size w W4 := hb.trans (q.mono hb.size)
  have hlow : W3.heap.size ≤ W3.heap.size := by first | exact Nat.le_refl _ | (simp; done) | (simp; omega) | omega
  have FX := Lib.hid (fresh_mono fX hlow (Nat.le_refl _))
  have DX : Hid (∀ x ∈ SX, x ∉ [w.heap.size, w.heap.size + 1, go]) := (fun x hx => by have := (FX.out.2 x hx).1; simp; omega)
  have OX := Lib.hid oX
  clear oX fX hlow
  clear q
  go_upto_region 5 with (fail)
  replace Lc : Loc (W4.alloc (.cells #[.int .i64 n, .slice C1 c1.length l1, .slice C2 pl.length l2] 35)) (w.heap.size) [.int .i64 n, .slice A1 cs.length n1, .slice A2 pl.length n2, .slice A3 ds.length n3, .int .i64 m] := Lc.alloc _
  replace Lr : Loc (W4.alloc (.cells #[.int .i64 n, .slice C1 c1.length l1, .slice C2 pl.length l2] 35)) (w.heap.size + 1) [.int .i64 0, .slice none 0 0, .slice none 0 0, .slice none 0 0, .int .i64 0] := Lr.alloc _
  replace Lo : Loc (W4.alloc (.cells #[.int .i64 n, .slice C1 c1.length l1, .slice C2 pl.length l2] 35)) (go) [.int .i64 n, .slice B1 cs.length k1, .slice B2 pl.length k2, .slice B3 ds.length k3, .int .i64 m] := Lo.alloc _
  obtain ⟨gp, hgp⟩ : ∃ g, W4.heap.size = g := ⟨_, rfl⟩
  have Lp : Loc (W4.alloc (.cells #[.int .i64 n, .slice C1 c1.length l1, .slice C2 pl.length l2] 35)) W4.heap.size [.int .i64 n, .slice C1 c1.length l1, .slice C2 pl.length l2] := Loc.new W4 #[.int .i64 n, .slice C1 c1.length l1, .slice C2 pl.length l2] 35
  rw [hgp] at Lp
  replace OK := Lib.hid (OK.out.below (w' := (W4.alloc (.cells #[.int .i64 n, .slice C1 c1.length l1, .slice C2 pl.length l2] 35))) ((Below.refl _ _).alloc (Nat.le_refl _) _))
  replace OX := Lib.hid (OX.out.below (w' := (W4.alloc (.cells #[.int .i64 n, .slice C1 c1.length l1, .slice C2 pl.length l2] 35))) ((Below.refl _ _).alloc (Nat.le_refl _) _))
  replace DK : Hid (∀ x ∈ S, x ∉ [w.heap.size, w.heap.size + 1, go, gp]) := (fun x hx => by have := DK.out x hx; have := (FK.out.2 x hx).2; simp at *; omega)
  replace FK := Lib.hid (fresh_mono (w' := (W4.alloc (.cells #[.int .i64 n, .slice C1 c1.length l1, .slice C2 pl.length l2] 35))) FK.out (Nat.le_refl _) (by simp))
  replace DX : Hid (∀ x ∈ SX, x ∉ [w.heap.size, w.heap.size + 1, go, gp]) := (fun x hx => by have := DX.out x hx; have := (FX.out.2 x hx).2; simp at *; omega)
  replace FX := Lib.hid (fresh_mono (w' := (W4.alloc (.cells #[.int .i64 n, .slice C1 c1.length l1, .slice C2 pl.length l2] 35))) FX.out (Nat.le_refl _) (by simp))
  replace hb : Below w.heap.size w (W4.alloc (.cells #[.int .i64 n, .slice C1 c1.length l1, .slice C2 pl.length l2] 35)) := hb.alloc hb.size _
  have hltp : gp < (W4.alloc (.cells #[.int .i64 n, .slice C1 c1.length l1, .slice C2 pl.length l2] 35)).heap.size := by simp; omega
  have hne_c_p : w.heap.size < gp := by omega
  have hne_r_p : w.heap.size + 1 < gp := by omega
  have hne_o_p : go < gp := by omega
  generalize W4.alloc (.cells #[.int .i64 n, .slice C1 c1.length l1, .slice C2 pl.length l2] 35) = W5 at *
  rw [hgp]
  clear hgp
  have p0 := (Lp 0 _ rfl).1
  have p1 := (Lp 1 _ rfl).1
  have p2 := (Lp 2 _ rfl).1
  go_wp2_with fail
  refine (HU.out _ _ _ (OX.out.rd)).mono ?_
  rintro e W6 ⟨y4, y5, SY, rfl, oY, fY, q⟩
  clear p0 p1 p2
  obtain ⟨⟨D1, j1, rfl⟩, ⟨D2, j2, rfl⟩⟩ := oY.rd.forms
  have hzq : W5.heap.size ≤ W6.heap.size := by have := q.size; (try simp at this); omega
  replace Lc := Lc.below q
  replace Lr := Lr.below q
  replace Lo := Lo.below q
  replace Lp := Lp.below q
  replace OK := Lib.hid (OK.out.below q)
  replace FK := Lib.hid (fresh_mono (w' := W6) FK.out (Nat.le_refl _) hzq)
  replace OX := Lib.hid (OX.out.below q)
  replace FX := Lib.hid (fresh_mono (w' := W6) FX.out (Nat.le_refl _) hzq)
  replace hb : Below w.heap.size w W6 := hb.trans (q.mono hb.size)
  have hlow : W5.heap.size ≤ W5.heap.size := by first | exact Nat.le_refl _ | (simp; done) | (simp; omega) | omega
  have FY := Lib.hid (fresh_mono fY hlow (Nat.le_refl _))
  have DY : Hid (∀ x ∈ SY, x ∉ [w.heap.size, w.heap.size + 1, go, gp]) := (fun x hx => by have := (FY.out.2 x hx).1; simp; omega)
  have OY := Lib.hid oY
  clear oY fY hlow
  clear q
  clear OX FX DX
  go_upto_region 6 with (fail)
  replace Lc : Loc (W6.alloc (.cells #[.int .i64 n, .slice D1 c2.length j1, .slice D2 pl.length j2] 35)) (w.heap.size) [.int .i64 n, .slice A1 cs.length n1, .slice A2 pl.length n2, .slice A3 ds.length n3, .int .i64 m] := Lc.alloc _
  replace Lr : Loc (W6.alloc (.cells #[.int .i64 n, .slice D1 c2.length j1, .slice D2 pl.length j2] 35)) (w.heap.size + 1) [.int .i64 0, .slice none 0 0, .slice none 0 0, .slice none 0 0, .int .i64 0] := Lr.alloc _
  replace Lo : Loc (W6.alloc (.cells #[.int .i64 n, .slice D1 c2.length j1, .slice D2 pl.length j2] 35)) (go) [.int .i64 n, .slice B1 cs.length k1, .slice B2 pl.length k2, .slice B3 ds.length k3, .int .i64 m] := Lo.alloc _
  replace Lp : Loc (W6.alloc (.cells #[.int .i64 n, .slice D1 c2.length j1, .slice D2 pl.length j2] 35)) (gp) [.int .i64 n, .slice C1 c1.length l1, .slice C2 pl.length l2] := Lp.alloc _
  obtain ⟨gq, hgq⟩ : ∃ g, W6.heap.size = g := ⟨_, rfl⟩
  have Lq : Loc (W6.alloc (.cells #[.int .i64 n, .slice D1 c2.length j1, .slice D2 pl.length j2] 35)) W6.heap.size [.int .i64 n, .slice D1 c2.length j1, .slice D2 pl.length j2] := Loc.new W6 #[.int .i64 n, .slice D1 c2.length j1, .slice D2 pl.length j2] 35
  rw [hgq] at Lq
  replace OK := Lib.hid (OK.out.below (w' := (W6.alloc (.cells #[.int .i64 n, .slice D1 c2.length j1, .slice D2 pl.length j2] 35))) ((Below.refl _ _).alloc (Nat.le_refl _) _))
  replace OY := Lib.hid (OY.out.below (w' := (W6.alloc (.cells #[.int .i64 n, .slice D1 c2.length j1, .slice D2 pl.length j2] 35))) ((Below.refl _ _).alloc (Nat.le_refl _) _))
  replace DK : Hid (∀ x ∈ S, x ∉ [w.heap.size, w.heap.size + 1, go, gp, gq]) := (fun x hx => by have := DK.out x hx; have := (FK.out.2 x hx).2; simp at *; omega)
  replace FK := Lib.hid (fresh_mono (w' := (W6.alloc (.cells #[.int .i64 n, .slice D1 c2.length j1, .slice D2 pl.length j2] 35))) FK.out (Nat.le_refl _) (by simp))
  replace DY : Hid (∀ x ∈ SY, x ∉ [w.heap.size, w.heap.size + 1, go, gp, gq]) := (fun x hx => by have := DY.out x hx; have := (FY.out.2 x hx).2; simp at *; omega)
  replace FY := Lib.hid (fresh_mono (w' := (W6.alloc (.cells #[.int .i64 n, .slice D1 c2.length j1, .slice D2 pl.length j2] 35))) FY.out (Nat.le_refl _) (by simp))
  replace hb : Below w.heap.size w (W6.alloc (.cells #[.int .i64 n, .slice D1 c2.length j1, .slice D2 pl.length j2] 35)) := hb.alloc hb.size _
  have hltq : gq < (W6.alloc (.cells #[.int .i64 n, .slice D1 c2.length j1, .slice D2 pl.length j2] 35)).heap.size := by simp; omega
  have hne_c_q : w.heap.size < gq := by omega
  have hne_r_q : w.heap.size + 1 < gq := by omega
  have hne_o_q : go < gq := by omega
  have hne_p_q : gp < gq := by omega
  generalize W6.alloc (.cells #[.int .i64 n, .slice D1 c2.length j1, .slice D2 pl.length j2] 35) = W7 at *
  rw [hgq]
  clear hgq
  cases b1
  ·skip
   have o0 := (Lo 0 _ rfl).1
   have o1 := (Lo 1 _ rfl).1
   have o2 := (Lo 2 _ rfl).1
   have o3 := (Lo 3 _ rfl).1
   have o4 := (Lo 4 _ rfl).1
   have r0 := (Lr 0 _ rfl).1
   have rf0 := (Lr 0 _ rfl).2
   have r1 := (Lr 1 _ rfl).1
   have rf1 := (Lr 1 _ rfl).2
   have r2 := (Lr 2 _ rfl).1
   have rf2 := (Lr 2 _ rfl).2
   have r3 := (Lr 3 _ rfl).1
   have rf3 := (Lr 3 _ rfl).2
   have r4 := (Lr 4 _ rfl).1
   have rf4 := (Lr 4 _ rfl).2
   go_wp2_with fail
   refine bodyPost_ret (v := .tuple #[.agg #[.int .i64 n, .slice B1 cs.length k1, .slice B2 pl.length k2, .slice B3 ds.length k3, .int .i64 m], .bool false]) (by simp [results, Tryz.results63, go_sem, *]) rfl (bec_f (by simp) ⟨_, _, _, S, rfl, ?_, ?_, ?_⟩)
   ·exact OK.out.chg (T := [w.heap.size + 1]) (by repeat' (with_reducible first | exact Chg.refl _ _ | refine qC ?_)) (fun x hx hx' => DK.out x hx (by simp at hx'; subst hx'; simp))
   ·exact fresh_mono FK.out (by omega) (by simp)
   ·exact Below.chg hb (S := [w.heap.size + 1]) (by repeat' (with_reducible first | exact Chg.refl _ _ | refine qC ?_)) hb.size (fun x hx => by simp at hx; omega)
  ·skip
   cases b2
   ·skip
    have o0 := (Lo 0 _ rfl).1
    have o1 := (Lo 1 _ rfl).1
    have o2 := (Lo 2 _ rfl).1
    have o3 := (Lo 3 _ rfl).1
    have o4 := (Lo 4 _ rfl).1
    have r0 := (Lr 0 _ rfl).1
    have rf0 := (Lr 0 _ rfl).2
    have r1 := (Lr 1 _ rfl).1
    have rf1 := (Lr 1 _ rfl).2
    have r2 := (Lr 2 _ rfl).1
    have rf2 := (Lr 2 _ rfl).2
    have r3 := (Lr 3 _ rfl).1
    have rf3 := (Lr 3 _ rfl).2
    have r4 := (Lr 4 _ rfl).1
    have rf4 := (Lr 4 _ rfl).2
    go_wp2_with fail
    refine bodyPost_ret (v := .tuple #[.agg #[.int .i64 n, .slice B1 cs.length k1, .slice B2 pl.length k2, .slice B3 ds.length k3, .int .i64 m], .bool false]) (by simp [results, Tryz.results63, go_sem, *]) rfl (bec_f (by simp) ⟨_, _, _, S, rfl, ?_, ?_, ?_⟩)
    ·exact OK.out.chg (T := [w.heap.size + 1]) (by repeat' (with_reducible first | exact Chg.refl _ _ | refine qC ?_)) (fun x hx hx' => DK.out x hx (by simp at hx'; subst hx'; simp))
    ·exact fresh_mono FK.out (by omega) (by simp)
    ·exact Below.chg hb (S := [w.heap.size + 1]) (by repeat' (with_reducible first | exact Chg.refl _ _ | refine qC ?_)) hb.size (fun x hx => by simp at hx; omega)
   ·skip
    go_upto_region 8 with (fail)
    have q0 := (Lq 0 _ rfl).1
    have q1 := (Lq 1 _ rfl).1
    have q2 := (Lq 2 _ rfl).1
    have hU : ∀ x ∈ S, x < W7.heap.size := fun x hx => (FK.out.2 x hx).2
    go_wp2_with fail
    refine (HT.out _ _ _ (OY.out.rd)).mono ?_
    rintro e W8 ⟨z4, z5, SZ, rfl, oZ, fZ, q⟩
    clear q0 q1 q2
    obtain ⟨⟨E1, i1, rfl⟩, ⟨E2, i2, rfl⟩⟩ := oZ.rd.forms
    have hzq : W7.heap.size ≤ W8.heap.size := by have := q.size; (try simp at this); omega
    replace Lc := Lc.below q
    replace Lr := Lr.below q
    replace Lo := Lo.below q
    replace Lp := Lp.below q
    replace Lq := Lq.below q
    replace OK := Lib.hid (OK.out.below q)
    replace FK := Lib.hid (fresh_mono (w' := W8) FK.out (Nat.le_refl _) hzq)
    replace OY := Lib.hid (OY.out.below q)
    replace FY := Lib.hid (fresh_mono (w' := W8) FY.out (Nat.le_refl _) hzq)
    replace hb : Below w.heap.size w W8 := hb.trans (q.mono hb.size)
    have hlow : W7.heap.size ≤ W7.heap.size := by first | exact Nat.le_refl _ | (simp; done) | (simp; omega) | omega
    have FZ := Lib.hid (fresh_mono fZ hlow (Nat.le_refl _))
    have DZ : Hid (∀ x ∈ SZ, x ∉ [w.heap.size, w.heap.size + 1, go, gp, gq]) := (fun x hx => by have := (FZ.out.2 x hx).1; simp; omega)
    have OZ := Lib.hid oZ
    clear oZ fZ hlow
    clear q
    clear OY FY DY
    have HJZ : Hid (∀ x ∈ SZ, x ∉ S) := (fun x hx hx' => by have := (FZ.out.2 x hx).1; have := hU x hx'; omega)
    clear hU
    obtain ⟨SK1, SK3, eK, oK, pK⟩ := OK.out
    have FKx := FK.out
    have DKx := DK.out
    rw [eK] at FKx DKx
    have OK1 := Lib.hid oK
    have OK3 := Lib.hid pK
    have FK1 := Lib.hid (fresh_left FKx)
    have FK3 := Lib.hid (fresh_right FKx)
    have DK1 : Hid (∀ x ∈ SK1, x ∉ [w.heap.size, w.heap.size + 1, go, gp, gq]) := (fun x hx => DKx x (List.mem_append_left _ hx))
    have DK3 : Hid (∀ x ∈ SK3, x ∉ [w.heap.size, w.heap.size + 1, go, gp, gq]) := (fun x hx => DKx x (List.mem_append_right _ hx))
    have JK : Hid (∀ x ∈ SK1, x ∉ SK3) := (nodup2 FKx.1).2.2.1
    clear OK FK DK FKx DKx oK pK
    clear OK1 FK1 DK1
    have o0 := (Lo 0 _ rfl).1
    have of0 := (Lo 0 _ rfl).2
    have o1 := (Lo 1 _ rfl).1
    have of1 := (Lo 1 _ rfl).2
    have o2 := (Lo 2 _ rfl).1
    have of2 := (Lo 2 _ rfl).2
    have o3 := (Lo 3 _ rfl).1
    have of3 := (Lo 3 _ rfl).2
    have o4 := (Lo 4 _ rfl).1
    have of4 := (Lo 4 _ rfl).2
    go_upto_region 9 with (fail)
    clear o0 of0 o1 of1 o2 of2 o3 of3 o4 of4
    replace Lc := Lc.far (g := go) (i := 0) (u := .int .i64 n) (by omega)
    replace Lr := Lr.far (g := go) (i := 0) (u := .int .i64 n) (by omega)
    replace Lp := Lp.far (g := go) (i := 0) (u := .int .i64 n) (by omega)
    replace Lq := Lq.far (g := go) (i := 0) (u := .int .i64 n) (by omega)
    replace Lo : Loc (W8.setCell ⟨go, 0, none⟩ (.int .i64 n)) (go) [.int .i64 n, .slice B1 cs.length k1, .slice B2 pl.length k2, .slice B3 ds.length k3, .int .i64 m] := Lo.set (i := 0) (v := .int .i64 n) rfl
    have hch : Chg [go] W8 (W8.setCell ⟨go, 0, none⟩ (.int .i64 n)) := chg_set (Chg.refl _ _) (by simp)
    replace OZ := Lib.hid (OZ.out.chg hch (fun x hx hx' => DZ.out x hx (by simp at hx'; subst hx'; simp)))
    replace FZ := Lib.hid (fresh_mono (w' := (W8.setCell ⟨go, 0, none⟩ (.int .i64 n))) FZ.out (Nat.le_refl _) hch.size)
    replace OK3 := Lib.hid (OK3.out.chg hch (fun x hx hx' => DK3.out x hx (by simp at hx'; subst hx'; simp)))
    replace FK3 := Lib.hid (fresh_mono (w' := (W8.setCell ⟨go, 0, none⟩ (.int .i64 n))) FK3.out (Nat.le_refl _) hch.size)
    replace hb : Below w.heap.size w (W8.setCell ⟨go, 0, none⟩ (.int .i64 n)) := Below.chg hb hch hb.size (by simp; omega)
    have hzc := hch.size
    clear hch
    generalize W8.setCell ⟨go, 0, none⟩ (.int .i64 n) = W9 at *
    replace Lc := Lc.far (g := go) (i := 1) (u := .slice E1 c3.length i1) (by omega)
    replace Lr := Lr.far (g := go) (i := 1) (u := .slice E1 c3.length i1) (by omega)
    replace Lp := Lp.far (g := go) (i := 1) (u := .slice E1 c3.length i1) (by omega)
    replace Lq := Lq.far (g := go) (i := 1) (u := .slice E1 c3.length i1) (by omega)
    replace Lo : Loc (W9.setCell ⟨go, 1, none⟩ (.slice E1 c3.length i1)) (go) [.int .i64 n, .slice E1 c3.length i1, .slice B2 pl.length k2, .slice B3 ds.length k3, .int .i64 m] := Lo.set (i := 1) (v := .slice B1 cs.length k1) rfl
    have hch : Chg [go] W9 (W9.setCell ⟨go, 1, none⟩ (.slice E1 c3.length i1)) := chg_set (Chg.refl _ _) (by simp)
    replace OZ := Lib.hid (OZ.out.chg hch (fun x hx hx' => DZ.out x hx (by simp at hx'; subst hx'; simp)))
    replace FZ := Lib.hid (fresh_mono (w' := (W9.setCell ⟨go, 1, none⟩ (.slice E1 c3.length i1))) FZ.out (Nat.le_refl _) hch.size)
    replace OK3 := Lib.hid (OK3.out.chg hch (fun x hx hx' => DK3.out x hx (by simp at hx'; subst hx'; simp)))
    replace FK3 := Lib.hid (fresh_mono (w' := (W9.setCell ⟨go, 1, none⟩ (.slice E1 c3.length i1))) FK3.out (Nat.le_refl _) hch.size)
    replace hb : Below w.heap.size w (W9.setCell ⟨go, 1, none⟩ (.slice E1 c3.length i1)) := Below.chg hb hch hb.size (by simp; omega)
    have hzc := hch.size
    clear hch
    generalize W9.setCell ⟨go, 1, none⟩ (.slice E1 c3.length i1) = W10 at *
    replace Lc := Lc.far (g := go) (i := 2) (u := .slice E2 pl.length i2) (by omega)
    replace Lr := Lr.far (g := go) (i := 2) (u := .slice E2 pl.length i2) (by omega)
    replace Lp := Lp.far (g := go) (i := 2) (u := .slice E2 pl.length i2) (by omega)
    replace Lq := Lq.far (g := go) (i := 2) (u := .slice E2 pl.length i2) (by omega)
    replace Lo : Loc (W10.setCell ⟨go, 2, none⟩ (.slice E2 pl.length i2)) (go) [.int .i64 n, .slice E1 c3.length i1, .slice E2 pl.length i2, .slice B3 ds.length k3, .int .i64 m] := Lo.set (i := 2) (v := .slice B2 pl.length k2) rfl
    have hch : Chg [go] W10 (W10.setCell ⟨go, 2, none⟩ (.slice E2 pl.length i2)) := chg_set (Chg.refl _ _) (by simp)
    replace OZ := Lib.hid (OZ.out.chg hch (fun x hx hx' => DZ.out x hx (by simp at hx'; subst hx'; simp)))
    replace FZ := Lib.hid (fresh_mono (w' := (W10.setCell ⟨go, 2, none⟩ (.slice E2 pl.length i2))) FZ.out (Nat.le_refl _) hch.size)
    replace OK3 := Lib.hid (OK3.out.chg hch (fun x hx hx' => DK3.out x hx (by simp at hx'; subst hx'; simp)))
    replace FK3 := Lib.hid (fresh_mono (w' := (W10.setCell ⟨go, 2, none⟩ (.slice E2 pl.length i2))) FK3.out (Nat.le_refl _) hch.size)
    replace hb : Below w.heap.size w (W10.setCell ⟨go, 2, none⟩ (.slice E2 pl.length i2)) := Below.chg hb hch hb.size (by simp; omega)
    have hzc := hch.size
    clear hch
    generalize W10.setCell ⟨go, 2, none⟩ (.slice E2 pl.length i2) = W11 at *
    replace FZ := Lib.hid (fresh_mono (B' := w.heap.size + 1 + 1) FZ.out (by have := hb.size; omega) (Nat.le_refl _))
    have OP : OwTheatre W11 (SZ ++ SK3) (.slice E1 c3.length i1) (.slice E2 pl.length i2) (.slice B3 ds.length k3) c3 pl ds := ⟨_, _, rfl, OZ.out, OK3.out⟩
    have FQ := Lib.hid (fresh_join FZ.out FK3.out (fun x hx hx' => HJZ.out x hx (by rw [eK]; exact List.mem_append_right _ hx')))
    have DQ : Hid (∀ x ∈ SZ ++ SK3, x ∉ [w.heap.size, w.heap.size + 1, go, gp, gq]) := (fun x hx => (List.mem_append.1 hx).elim (DZ.out x) (DK3.out x))
    have OQ := Lib.hid (OP)
    clear OZ FZ DZ OK3 FK3 DK3
    obtain ⟨SQ, hSQ⟩ : ∃ T, SZ ++ SK3 = T := ⟨_, rfl⟩
    rw [hSQ] at OQ FQ DQ
    clear hSQ
    clear OP
    have o0 := (Lo 0 _ rfl).1
    have o1 := (Lo 1 _ rfl).1
    have o2 := (Lo 2 _ rfl).1
    have o3 := (Lo 3 _ rfl).1
    have o4 := (Lo 4 _ rfl).1
    have r0 := (Lr 0 _ rfl).1
    have rf0 := (Lr 0 _ rfl).2
    have r1 := (Lr 1 _ rfl).1
    have rf1 := (Lr 1 _ rfl).2
    have r2 := (Lr 2 _ rfl).1
    have rf2 := (Lr 2 _ rfl).2
    have r3 := (Lr 3 _ rfl).1
    have rf3 := (Lr 3 _ rfl).2
    have r4 := (Lr 4 _ rfl).1
    have rf4 := (Lr 4 _ rfl).2
    go_wp2_with fail
    refine bodyPost_ret (v := .tuple #[.agg #[.int .i64 n, .slice E1 c3.length i1, .slice E2 pl.length i2, .slice B3 ds.length k3, .int .i64 m], .bool true]) (by simp [results, Tryz.results63, go_sem, *]) rfl (bec_t ⟨hq.out, rfl, HOK.out hq.out (by simp)⟩ ⟨_, _, _, SQ, rfl, ?_, ?_, ?_⟩)
    ·exact OQ.out.chg (T := [w.heap.size + 1]) (by repeat' (with_reducible first | exact Chg.refl _ _ | refine qC ?_)) (fun x hx hx' => DQ.out x hx (by simp at hx'; subst hx'; simp))
    ·exact fresh_mono FQ.out (by omega) (by simp)
    ·exact Below.chg hb (S := [w.heap.size + 1]) (by repeat' (with_reducible first | exact Chg.refl _ _ | refine qC ?_)) hb.size (fun x hx => by simp at hx; omega)
 ·skip
  clear c0 c1 c2 c3 c4
  have hzq : W2.heap.size ≤ W3.heap.size := by have := q.size; (try simp at this); omega
  replace Lc := Lc.below q
  replace Lr := Lr.below q
  replace Lo := Lo.below q
  replace OK := Lib.hid (OK.out.below q)
  replace FK := Lib.hid (fresh_mono (w' := W3) FK.out (Nat.le_refl _) hzq)
  replace hb : Below w.heap.size w W3 := hb.trans (q.mono hb.size)
  clear q
  have o0 := (Lo 0 _ rfl).1
  have o1 := (Lo 1 _ rfl).1
  have o2 := (Lo 2 _ rfl).1
  have o3 := (Lo 3 _ rfl).1
  have o4 := (Lo 4 _ rfl).1
  have r0 := (Lr 0 _ rfl).1
  have rf0 := (Lr 0 _ rfl).2
  have r1 := (Lr 1 _ rfl).1
  have rf1 := (Lr 1 _ rfl).2
  have r2 := (Lr 2 _ rfl).1
  have rf2 := (Lr 2 _ rfl).2
  have r3 := (Lr 3 _ rfl).1
  have rf3 := (Lr 3 _ rfl).2
  have r4 := (Lr 4 _ rfl).1
  have rf4 := (Lr 4 _ rfl).2
  go_wp2_with fail
  refine bodyPost_ret (v := .tuple #[.agg #[.int .i64 n, .slice B1 cs.length k1, .slice B2 pl.length k2, .slice B3 ds.length k3, .int .i64 m], .bool false]) (by simp [results, Tryz.results63, go_sem, *]) rfl (bec_f (fun hh => absurd (show theatreB n m cs pl ds = true from hh.1) (by rw [hq.out]; simp)) ⟨_, _, _, S, rfl, ?_, ?_, ?_⟩)
  ·exact OK.out.chg (T := [w.heap.size + 1]) (by repeat' (with_reducible first | exact Chg.refl _ _ | refine qC ?_)) (fun x hx hx' => DK.out x hx (by simp at hx'; subst hx'; simp))
  ·exact fresh_mono FK.out (by omega) (by simp)
  ·exact Below.chg hb (S := [w.heap.size + 1]) (by repeat' (with_reducible first | exact Chg.refl _ _ | refine qC ?_)) hb.size (fun x hx => by simp at hx; omega)
open Go.RowKit
def numB (b : Bool) : Int := if b = true then 1 else 0
def stepF (t : Th) (a : RAct) : Th × Int :=
 if a.1 = 1 then ((hireF t a.2.1).1, numB (hireF t a.2.1).2)
 else if a.1 = 2 then ((teachT t a.2.1 a.2.2).1, numB (teachT t a.2.1 a.2.2).2)
 else if a.1 = 3 then ((moveF t a.2.1 true).1, numB (moveF t a.2.1 true).2)
 else if a.1 = 4 then ((moveF t a.2.1 false).1, numB (moveF t a.2.1 false).2)
 else if a.1 = 5 then ((putT t).1, numB (putT t).2)
 else if a.1 = 6 then ((showF t a.2.1).1, numB (showF t a.2.1).2)
 else (t, whyF t.n t.cs t.pl)
def doF (t : Th) (a : RAct) : Th × Int := if t.ok = true ∧ actB a.1 a.2.1 a.2.2 = true then stepF t a else (t, -1)
theorem act_kinds {k a b : Int} (h : actB k a b = true) : k = 1 ∨ k = 2 ∨ k = 3 ∨ k = 4 ∨ k = 5 ∨ k = 6 ∨ k = 7 := by
 apply Classical.byContradiction
 intro hn
 unfold actB at h
 rw [if_neg (by omega), if_neg (by omega), if_neg (by omega), if_neg (by omega), if_neg (by omega), if_neg (by omega), if_neg (by omega)] at h
 cases h
theorem step_sz (t : Th) (a : RAct) : (stepF t a).1.sz ≤ t.sz ∨ (stepF t a).1.sz ≤ 148 := by
 unfold stepF
 repeat' split
 all_goals first | exact bec_sz _ _ _ | exact .inl (Nat.le_refl _)
theorem do_sz (t : Th) (a : RAct) : (doF t a).1.sz ≤ t.sz ∨ (doF t a).1.sz ≤ 148 := by
 unfold doF
 split
 ·exact step_sz t a
 ·exact .inl (Nat.le_refl _)
def RetTN (B : Nat) (n m k : Int) (cs : List RCross) (pl : List RPl) (ds : List Int) (w : World) (e : Ending) (w' : World) : Prop :=
 ∃ x1 x2 x3 S, e = .returned (.tuple #[.agg #[.int .i64 n, x1, x2, x3, .int .i64 m], .int .i64 k]) ∧ OwTheatre w' S x1 x2 x3 cs pl ds ∧ Fresh B w' S ∧ Below w.heap.size w w'
def RetDo (B : Nat) (r : Th × Int) : World → Ending → World → Prop := RetTN B r.1.n r.1.m r.2 r.1.cs r.1.pl r.1.ds
theorem do_eq {B : Nat} {t : Th} {a : RAct} {n m k : Int} {cs : List RCross} {pl : List RPl} {ds : List Int} {w w' : World} {e : Ending} (h : doF t a = (⟨n, m, cs, pl, ds⟩, k)) (hr : RetTN B n m k cs pl ds w e w') : RetDo B (doF t a) w e w' := by rw [h]; exact hr
theorem do_f {t : Th} {a : RAct} (h : ¬ (t.ok = true ∧ actB a.1 a.2.1 a.2.2 = true)) : doF t a = (t, -1) := if_neg h
theorem do_t {t : Th} {k a b : Int} (h1 : t.ok = true) (h2 : actB k a b = true) : doF t (k, a, b) = stepF t (k, a, b) := if_pos ⟨h1, h2⟩
theorem step_1 (t : Th) (a b : Int) : stepF t (1, a, b) = ((hireF t a).1, numB (hireF t a).2) := rfl
theorem step_2 (t : Th) (a b : Int) : stepF t (2, a, b) = ((teachT t a b).1, numB (teachT t a b).2) := rfl
theorem step_3 (t : Th) (a b : Int) : stepF t (3, a, b) = ((moveF t a true).1, numB (moveF t a true).2) := rfl
theorem step_4 (t : Th) (a b : Int) : stepF t (4, a, b) = ((moveF t a false).1, numB (moveF t a false).2) := rfl
theorem step_5 (t : Th) (a b : Int) : stepF t (5, a, b) = ((putT t).1, numB (putT t).2) := rfl
theorem step_6 (t : Th) (a b : Int) : stepF t (6, a, b) = ((showF t a).1, numB (showF t a).2) := rfl
theorem step_7 (t : Th) (a b : Int) : stepF t (7, a, b) = (t, whyF t.n t.cs t.pl) := rfl
theorem act78dwi {a : Act} (h : a.tmps.size = 78) (hd : a.defers = []) : ∃ x0 x1 x2 x3 x4 x5 x6 x7 x8 x9 x10 x11 x12 x13 x14 x15 x16 x17 x18 x19 x20 x21 x22 x23 x24 x25 x26 x27 x28 x29 x30 x31 x32 x33 x34 x35 x36 x37 x38 x39 x40 x41 x42 x43 x44 x45 x46 x47 x48 x49 x50 x51 x52 x53 x54 x55 x56 x57 x58 x59 x60 x61 x62 x63 x64 x65 x66 x67 x68 x69 x70 x71 x72 x73 x74 x75 x76 x77 : Value, a = ⟨#[x0, x1, x2, x3, x4, x5, x6, x7, x8, x9, x10, x11, x12, x13, x14, x15, x16, x17, x18, x19, x20, x21, x22, x23, x24, x25, x26, x27, x28, x29, x30, x31, x32, x33, x34, x35, x36, x37, x38, x39, x40, x41, x42, x43, x44, x45, x46, x47, x48, x49, x50, x51, x52, x53, x54, x55, x56, x57, x58, x59, x60, x61, x62, x63, x64, x65, x66, x67, x68, x69, x70, x71, x72, x73, x74, x75, x76, x77], []⟩ := by
 obtain ⟨⟨l⟩, d⟩ := a
 subst hd
 match l, h with
 | x0 :: x1 :: x2 :: x3 :: x4 :: x5 :: x6 :: x7 :: x8 :: x9 :: x10 :: x11 :: x12 :: x13 :: x14 :: x15 :: x16 :: x17 :: x18 :: x19 :: x20 :: x21 :: x22 :: x23 :: x24 :: x25 :: x26 :: x27 :: x28 :: x29 :: x30 :: x31 :: x32 :: x33 :: x34 :: x35 :: x36 :: x37 :: x38 :: x39 :: x40 :: x41 :: x42 :: x43 :: x44 :: x45 :: x46 :: x47 :: x48 :: x49 :: x50 :: x51 :: x52 :: x53 :: x54 :: x55 :: x56 :: x57 :: x58 :: x59 :: x60 :: x61 :: x62 :: x63 :: x64 :: x65 :: x66 :: x67 :: x68 :: x69 :: x70 :: x71 :: x72 :: x73 :: x74 :: x75 :: x76 :: x77 :: [], _ => exact ⟨x0, x1, x2, x3, x4, x5, x6, x7, x8, x9, x10, x11, x12, x13, x14, x15, x16, x17, x18, x19, x20, x21, x22, x23, x24, x25, x26, x27, x28, x29, x30, x31, x32, x33, x34, x35, x36, x37, x38, x39, x40, x41, x42, x43, x44, x45, x46, x47, x48, x49, x50, x51, x52, x53, x54, x55, x56, x57, x58, x59, x60, x61, x62, x63, x64, x65, x66, x67, x68, x69, x70, x71, x72, x73, x74, x75, x76, x77, rfl⟩
def pdwi (_w : World) (n m : Int) (A1 A2 B1 B2 B3 : Option Addr) (csn pln dsn n1 n2 k1 k2 k3 gc _gr _go : Nat) (wy : Int) (i : Nat) (v : Value) (_ : Nat → Nat) (_ : World) : Prop :=
 match i with
 | 0 => v = .agg #[.int .i64 n, .slice B1 csn k1, .slice B2 pln k2, .slice B3 dsn k3, .int .i64 m]
 | 1 => v = .pointer (some ⟨gc, 0, none⟩)
 | 2 => v = .agg #[.int .i64 n, .slice A1 csn n1, .slice A2 pln n2]
 | 3 => v = .int .i64 wy
 | _ => True
set_option maxHeartbeats 8000000 in
set_option maxRecDepth 100000 in
theorem implDoAct_any (n m ka aa ba : Int) (v1 v2 v3 : Value) (cs : List RCross) (pl : List RPl) (ds : List Int) (w : World) (h : RdTheatre w v1 v2 v3 cs pl ds) (hsz : szTheatre cs pl ds ≤ 1048576) :
  Calls Tryz.prog 14 #[.agg #[.int .i64 n, v1, v2, v3, .int .i64 m], .agg #[.int .i64 ka, .int .i64 aa, .int .i64 ba]] w (RetDo w.heap.size (doF ⟨n, m, cs, pl, ds⟩ (ka, aa, ba)) w) := by
 obtain ⟨⟨A1, n1, rfl⟩, ⟨A2, n2, rfl⟩, ⟨A3, n3, rfl⟩⟩ := h.forms
 go_enter Tryz.func14, Tryz.ntmps14
 go_wp2_with fail
 refine twoB (implTheatreOk_any n m _ _ _ cs pl ds _ (h.below (by (repeat' (with_reducible first | exact Below.refl _ _ | assumption | refine qS ?_ _ | refine qA ?_ _ | refine qD ?_ | refine qN ?_ _))))) (fun W1 hq q => ?_) (fun W1 hq q => ?_)
 ·skip
  have Lc : Loc W1 (w.heap.size) [.int .i64 n, .slice A1 cs.length n1, .slice A2 pl.length n2, .slice A3 ds.length n3, .int .i64 m] := by have := (((Loc.new w #[.int .i64 n, .slice A1 cs.length n1, .slice A2 pl.length n2, .slice A3 ds.length n3, .int .i64 m] 37).alloc _).alloc _).below q; simpa using this
  have La : Loc W1 (w.heap.size + 1) [.int .i64 ka, .int .i64 aa, .int .i64 ba] := by have := ((Loc.new (w.alloc (.cells #[.int .i64 n, .slice A1 cs.length n1, .slice A2 pl.length n2, .slice A3 ds.length n3, .int .i64 m] 37)) #[.int .i64 ka, .int .i64 aa, .int .i64 ba] 41).alloc _).below q; simpa using this
  have Lr : Loc W1 (w.heap.size + 1 + 1) [.int .i64 0, .slice none 0 0, .slice none 0 0, .slice none 0 0, .int .i64 0] := by have := (Loc.new ((w.alloc (.cells #[.int .i64 n, .slice A1 cs.length n1, .slice A2 pl.length n2, .slice A3 ds.length n3, .int .i64 m] 37)).alloc (.cells #[.int .i64 ka, .int .i64 aa, .int .i64 ba] 41)) #[.int .i64 0, .slice none 0 0, .slice none 0 0, .slice none 0 0, .int .i64 0] 37).below q; simpa using this
  have hb : Below w.heap.size w W1 := Below.trans (by (repeat' (with_reducible first | exact Below.refl _ _ | assumption | refine qS ?_ _ | refine qA ?_ _ | refine qD ?_ | refine qN ?_ _))) (q.mono (by simp <;> omega))
  have hz0 : w.heap.size + 1 + 1 + 1 ≤ W1.heap.size := by have := q.size; simp at this; omega
  clear q
  have HQ := hq
  have a0 := (La 0 _ rfl).1
  have a1 := (La 1 _ rfl).1
  have a2 := (La 2 _ rfl).1
  go_wp2_with fail
  refine twoB (implActOk_any ka aa ba _) (fun W2 HA q => ?_) (fun W2 HA q => ?_)
  ·skip
   clear a0 a1 a2
   have hzq : W1.heap.size ≤ W2.heap.size := by have := q.size; (try simp at this); omega
   replace Lc := Lc.below q
   replace La := La.below q
   replace Lr := Lr.below q
   replace hb : Below w.heap.size w W2 := hb.trans (q.mono hb.size)
   clear q
   have c0 := (Lc 0 _ rfl).1
   have c1 := (Lc 1 _ rfl).1
   have c2 := (Lc 2 _ rfl).1
   have c3 := (Lc 3 _ rfl).1
   have c4 := (Lc 4 _ rfl).1
   go_wp2_with fail
   refine (theatreCopied_any n m _ _ _ cs pl ds _ (h.below hb) hsz).mono ?_
   rintro e W3 ⟨x1, x2, x3, S, rfl, ow, f1, q⟩
   clear c0 c1 c2 c3 c4
   obtain ⟨⟨B1, k1, rfl⟩, ⟨B2, k2, rfl⟩, ⟨B3, k3, rfl⟩⟩ := ow.rd.forms
   have hzq : W2.heap.size ≤ W3.heap.size := by have := q.size; (try simp at this); omega
   replace Lc := Lc.below q
   replace La := La.below q
   replace Lr := Lr.below q
   replace hb : Below w.heap.size w W3 := hb.trans (q.mono hb.size)
   have hlow : W2.heap.size ≤ W2.heap.size := by first | exact Nat.le_refl _ | (simp; done) | (simp; omega) | omega
   have FK := Lib.hid (fresh_mono f1 hlow (Nat.le_refl _))
   have DK : Hid (∀ x ∈ S, x ∉ [w.heap.size, w.heap.size + 1, w.heap.size + 1 + 1]) := (fun x hx => by have := (FK.out.2 x hx).1; simp; omega)
   have OK := Lib.hid ow
   clear ow f1 hlow
   clear q
   go_upto_region 4 with (fail)
   replace Lc : Loc (W3.alloc (.cells #[.int .i64 n, .slice B1 cs.length k1, .slice B2 pl.length k2, .slice B3 ds.length k3, .int .i64 m] 37)) (w.heap.size) [.int .i64 n, .slice A1 cs.length n1, .slice A2 pl.length n2, .slice A3 ds.length n3, .int .i64 m] := Lc.alloc _
   replace La : Loc (W3.alloc (.cells #[.int .i64 n, .slice B1 cs.length k1, .slice B2 pl.length k2, .slice B3 ds.length k3, .int .i64 m] 37)) (w.heap.size + 1) [.int .i64 ka, .int .i64 aa, .int .i64 ba] := La.alloc _
   replace Lr : Loc (W3.alloc (.cells #[.int .i64 n, .slice B1 cs.length k1, .slice B2 pl.length k2, .slice B3 ds.length k3, .int .i64 m] 37)) (w.heap.size + 1 + 1) [.int .i64 0, .slice none 0 0, .slice none 0 0, .slice none 0 0, .int .i64 0] := Lr.alloc _
   obtain ⟨go, hgo⟩ : ∃ g, W3.heap.size = g := ⟨_, rfl⟩
   have Lo : Loc (W3.alloc (.cells #[.int .i64 n, .slice B1 cs.length k1, .slice B2 pl.length k2, .slice B3 ds.length k3, .int .i64 m] 37)) W3.heap.size [.int .i64 n, .slice B1 cs.length k1, .slice B2 pl.length k2, .slice B3 ds.length k3, .int .i64 m] := Loc.new W3 #[.int .i64 n, .slice B1 cs.length k1, .slice B2 pl.length k2, .slice B3 ds.length k3, .int .i64 m] 37
   rw [hgo] at Lo
   replace OK := Lib.hid (OK.out.below (w' := (W3.alloc (.cells #[.int .i64 n, .slice B1 cs.length k1, .slice B2 pl.length k2, .slice B3 ds.length k3, .int .i64 m] 37))) ((Below.refl _ _).alloc (Nat.le_refl _) _))
   replace DK : Hid (∀ x ∈ S, x ∉ [w.heap.size, w.heap.size + 1, w.heap.size + 1 + 1, go]) := (fun x hx => by have := DK.out x hx; have := (FK.out.2 x hx).2; simp at *; omega)
   replace FK := Lib.hid (fresh_mono (w' := (W3.alloc (.cells #[.int .i64 n, .slice B1 cs.length k1, .slice B2 pl.length k2, .slice B3 ds.length k3, .int .i64 m] 37))) FK.out (Nat.le_refl _) (by simp))
   replace hb : Below w.heap.size w (W3.alloc (.cells #[.int .i64 n, .slice B1 cs.length k1, .slice B2 pl.length k2, .slice B3 ds.length k3, .int .i64 m] 37)) := hb.alloc hb.size _
   have hlto : go < (W3.alloc (.cells #[.int .i64 n, .slice B1 cs.length k1, .slice B2 pl.length k2, .slice B3 ds.length k3, .int .i64 m] 37)).heap.size := by simp; omega
   have hne_c_o : w.heap.size < go := by omega
   have hne_a_o : w.heap.size + 1 < go := by omega
   have hne_r_o : w.heap.size + 1 + 1 < go := by omega
   generalize W3.alloc (.cells #[.int .i64 n, .slice B1 cs.length k1, .slice B2 pl.length k2, .slice B3 ds.length k3, .int .i64 m] 37) = W4 at *
   rw [hgo]
   clear hgo
   rcases act_kinds HA.out with rfl | rfl | rfl | rfl | rfl | rfl | rfl
   obtain ⟨⟨⟨rn, rm, rcs, rpl, rds⟩, rb⟩, hres⟩ : ∃ res, hireF ⟨n, m, cs, pl, ds⟩ aa = res := ⟨_, rfl⟩
   have hX : Hid (∀ W, RdTheatre W (.slice A1 cs.length n1) (.slice A2 pl.length n2) (.slice A3 ds.length n3) cs pl ds → Calls Tryz.prog 39 #[.agg #[.int .i64 n, .slice A1 cs.length n1, .slice A2 pl.length n2, .slice A3 ds.length n3, .int .i64 m], .int .i64 aa] W (RetT W.heap.size rn rm rb rcs rpl rds W)) := fun W hr => by
    have := implHirePlayer_any n m aa _ _ _ cs pl ds W hr hsz
    rw [hres] at this
    exact this
   have HD : Hid (doF ⟨n, m, cs, pl, ds⟩ (1, aa, ba) = (⟨rn, rm, rcs, rpl, rds⟩, numB rb)) := by show _ = _; rw [do_t (t := ⟨n, m, cs, pl, ds⟩) HQ.out HA.out, step_1, hres]
   clear hres
   have a0 := (La 0 _ rfl).1
   have a1 := (La 1 _ rfl).1
   have a2 := (La 2 _ rfl).1
   clear La
   rotate_left
   obtain ⟨⟨⟨rn, rm, rcs, rpl, rds⟩, rb⟩, hres⟩ : ∃ res, teachT ⟨n, m, cs, pl, ds⟩ aa ba = res := ⟨_, rfl⟩
   have hX : Hid (∀ W, RdTheatre W (.slice A1 cs.length n1) (.slice A2 pl.length n2) (.slice A3 ds.length n3) cs pl ds → Calls Tryz.prog 40 #[.agg #[.int .i64 n, .slice A1 cs.length n1, .slice A2 pl.length n2, .slice A3 ds.length n3, .int .i64 m], .int .i64 aa, .int .i64 ba] W (RetT W.heap.size rn rm rb rcs rpl rds W)) := fun W hr => by
    have := implTeachPlayer_any n m aa ba _ _ _ cs pl ds W hr hsz
    rw [hres] at this
    exact this
   have HD : Hid (doF ⟨n, m, cs, pl, ds⟩ (2, aa, ba) = (⟨rn, rm, rcs, rpl, rds⟩, numB rb)) := by show _ = _; rw [do_t (t := ⟨n, m, cs, pl, ds⟩) HQ.out HA.out, step_2, hres]
   clear hres
   have a0 := (La 0 _ rfl).1
   have a1 := (La 1 _ rfl).1
   have a2 := (La 2 _ rfl).1
   clear La
   rotate_left
   obtain ⟨⟨⟨rn, rm, rcs, rpl, rds⟩, rb⟩, hres⟩ : ∃ res, moveF ⟨n, m, cs, pl, ds⟩ aa true = res := ⟨_, rfl⟩
   have hX : Hid (∀ W, RdTheatre W (.slice A1 cs.length n1) (.slice A2 pl.length n2) (.slice A3 ds.length n3) cs pl ds → Calls Tryz.prog 42 #[.agg #[.int .i64 n, .slice A1 cs.length n1, .slice A2 pl.length n2, .slice A3 ds.length n3, .int .i64 m], .int .i64 aa, .bool true] W (RetT W.heap.size rn rm rb rcs rpl rds W)) := fun W hr => by
    have := implMovePuppet_any n m aa true _ _ _ cs pl ds W hr hsz
    rw [hres] at this
    exact this
   have HD : Hid (doF ⟨n, m, cs, pl, ds⟩ (3, aa, ba) = (⟨rn, rm, rcs, rpl, rds⟩, numB rb)) := by show _ = _; rw [do_t (t := ⟨n, m, cs, pl, ds⟩) HQ.out HA.out, step_3, hres]
   clear hres
   have a0 := (La 0 _ rfl).1
   have a1 := (La 1 _ rfl).1
   have a2 := (La 2 _ rfl).1
   clear La
   rotate_left
   obtain ⟨⟨⟨rn, rm, rcs, rpl, rds⟩, rb⟩, hres⟩ : ∃ res, moveF ⟨n, m, cs, pl, ds⟩ aa false = res := ⟨_, rfl⟩
   have hX : Hid (∀ W, RdTheatre W (.slice A1 cs.length n1) (.slice A2 pl.length n2) (.slice A3 ds.length n3) cs pl ds → Calls Tryz.prog 42 #[.agg #[.int .i64 n, .slice A1 cs.length n1, .slice A2 pl.length n2, .slice A3 ds.length n3, .int .i64 m], .int .i64 aa, .bool false] W (RetT W.heap.size rn rm rb rcs rpl rds W)) := fun W hr => by
    have := implMovePuppet_any n m aa false _ _ _ cs pl ds W hr hsz
    rw [hres] at this
    exact this
   have HD : Hid (doF ⟨n, m, cs, pl, ds⟩ (4, aa, ba) = (⟨rn, rm, rcs, rpl, rds⟩, numB rb)) := by show _ = _; rw [do_t (t := ⟨n, m, cs, pl, ds⟩) HQ.out HA.out, step_4, hres]
   clear hres
   have a0 := (La 0 _ rfl).1
   have a1 := (La 1 _ rfl).1
   have a2 := (La 2 _ rfl).1
   clear La
   rotate_left
   obtain ⟨⟨⟨rn, rm, rcs, rpl, rds⟩, rb⟩, hres⟩ : ∃ res, putT ⟨n, m, cs, pl, ds⟩ = res := ⟨_, rfl⟩
   have hX : Hid (∀ W, RdTheatre W (.slice A1 cs.length n1) (.slice A2 pl.length n2) (.slice A3 ds.length n3) cs pl ds → Calls Tryz.prog 43 #[.agg #[.int .i64 n, .slice A1 cs.length n1, .slice A2 pl.length n2, .slice A3 ds.length n3, .int .i64 m]] W (RetT W.heap.size rn rm rb rcs rpl rds W)) := fun W hr => by
    have := implPutInOrder_any n m  _ _ _ cs pl ds W hr hsz
    rw [hres] at this
    exact this
   have HD : Hid (doF ⟨n, m, cs, pl, ds⟩ (5, aa, ba) = (⟨rn, rm, rcs, rpl, rds⟩, numB rb)) := by show _ = _; rw [do_t (t := ⟨n, m, cs, pl, ds⟩) HQ.out HA.out, step_5, hres]
   clear hres
   have a0 := (La 0 _ rfl).1
   have a1 := (La 1 _ rfl).1
   have a2 := (La 2 _ rfl).1
   clear La
   rotate_left
   obtain ⟨⟨⟨rn, rm, rcs, rpl, rds⟩, rb⟩, hres⟩ : ∃ res, showF ⟨n, m, cs, pl, ds⟩ aa = res := ⟨_, rfl⟩
   have hX : Hid (∀ W, RdTheatre W (.slice A1 cs.length n1) (.slice A2 pl.length n2) (.slice A3 ds.length n3) cs pl ds → Calls Tryz.prog 34 #[.agg #[.int .i64 n, .slice A1 cs.length n1, .slice A2 pl.length n2, .slice A3 ds.length n3, .int .i64 m], .int .i64 aa] W (RetT W.heap.size rn rm rb rcs rpl rds W)) := fun W hr => by
    have := implGiveShow_any n m aa _ _ _ cs pl ds W hr hsz
    rw [hres] at this
    exact this
   have HD : Hid (doF ⟨n, m, cs, pl, ds⟩ (6, aa, ba) = (⟨rn, rm, rcs, rpl, rds⟩, numB rb)) := by show _ = _; rw [do_t (t := ⟨n, m, cs, pl, ds⟩) HQ.out HA.out, step_6, hres]
   clear hres
   have a0 := (La 0 _ rfl).1
   have a1 := (La 1 _ rfl).1
   have a2 := (La 2 _ rfl).1
   clear La
   rotate_left
   ·skip
    have HD : Hid (doF ⟨n, m, cs, pl, ds⟩ (7, aa, ba) = (⟨n, m, cs, pl, ds⟩, whyF n cs pl)) := by show _ = _; rw [do_t (t := ⟨n, m, cs, pl, ds⟩) HQ.out HA.out, step_7]
    have hWN : Hid (∀ w', RdCompany w' (.slice A1 cs.length n1) (.slice A2 pl.length n2) cs pl → Calls Tryz.prog 54 #[.agg #[.int .i64 n, .slice A1 cs.length n1, .slice A2 pl.length n2]] w' fun e w'' => e = .returned (.int .i64 (whyF n cs pl)) ∧ Below w'.heap.size w' w'') := fun w' hr => implWhyNot_any n _ _ cs pl w' hr
    generalize whyF n cs pl = wy at *
    have a0 := (La 0 _ rfl).1
    have a1 := (La 1 _ rfl).1
    have a2 := (La 2 _ rfl).1
    go_upto_region 5 with (fail)
    clear a0 a1 a2
    refine region_made (n := 78) 4 (by kernel_rfl) rfl (by kernel_rfl) (fun w' => Below W4.heap.size W4 w') (fun _ => 0) (pdwi w n m A1 A2 B1 B2 B3 cs.length pl.length ds.length n1 n2 k1 k2 k3 (w.heap.size) (w.heap.size + 1 + 1) (go) wy) (Below.refl _ _).drew ?_ ?_ ?_
    ·intro i v gh gh' w1 w2 hp hJ hb' hg
     match i, hp with
     | 0, hp => exact hp
     | 1, hp => exact hp
     | 2, hp => exact hp
     | 3, hp => exact hp
     | _ + 4, _ => trivial
    ·refine ⟨?_, ?_, ?_, ?_, trivial⟩
     ·intro a gh w5 hag hJ hd
      have ag6 : a.tmps.getD 6 undef = .pointer (some ⟨go, 0, none⟩) := hag.kept 6 (by kernel_rfl)
      clear hag
      have o0 := ((Lo.below hJ) 0 _ rfl).1
      have o1 := ((Lo.below hJ) 1 _ rfl).1
      have o2 := ((Lo.below hJ) 2 _ rfl).1
      have o3 := ((Lo.below hJ) 3 _ rfl).1
      have o4 := ((Lo.below hJ) 4 _ rfl).1
      go_wp2_with fail
      exact ⟨rfl, _, rfl, rfl, hJ, Below.refl _ _⟩
     ·intro a gh w5 hag hJ hd
      have ag2 : a.tmps.getD 2 undef = .pointer (some ⟨w.heap.size, 0, none⟩) := hag.kept 2 (by kernel_rfl)
      clear hag
      go_wp2_with fail
      exact ⟨rfl, _, rfl, rfl, hJ, Below.refl _ _⟩
     ·intro a gh w5 hag hJ hd
      clear hag
      have e0 : a.tmps.getD 23 undef = .pointer (some ⟨w.heap.size, 0, none⟩) := hd 1 (by kernel_rfl) _ rfl
      have c0 := ((Lc.below hJ) 0 _ rfl).1
      have c1 := ((Lc.below hJ) 1 _ rfl).1
      have c2 := ((Lc.below hJ) 2 _ rfl).1
      go_wp2_with fail
      exact ⟨rfl, _, rfl, rfl, hJ, Below.refl _ _⟩
     ·intro a gh w5 hag hJ hd
      clear hag
      have e0 : a.tmps.getD 24 undef = .agg #[.int .i64 n, .slice A1 cs.length n1, .slice A2 pl.length n2] := hd 2 (by kernel_rfl) _ rfl
      go_wp2_with fail
      refine (hWN.out w5 ((h.below (hb.trans (hJ.mono hb.size))).1)).mono ?_
      rintro e w6 ⟨rfl, hb6⟩
      go_wp2_with fail
      exact ⟨rfl, _, rfl, rfl, bl_trans hJ hb6, hb6⟩
    ·intro a gh w5 hag hJ hd
     obtain ⟨x0, x1, x2, x3, x4, x5, x6, x7, x8, x9, x10, x11, x12, x13, x14, x15, x16, x17, x18, x19, x20, x21, x22, x23, x24, x25, x26, x27, x28, x29, x30, x31, x32, x33, x34, x35, x36, x37, x38, x39, x40, x41, x42, x43, x44, x45, x46, x47, x48, x49, x50, x51, x52, x53, x54, x55, x56, x57, x58, x59, x60, x61, x62, x63, x64, x65, x66, x67, x68, x69, x70, x71, x72, x73, x74, x75, x76, x77, rfl⟩ := act78dwi hag.size hag.defers
     have ag2 : x2 = .pointer (some ⟨w.heap.size, 0, none⟩) := hag.kept 2 (by kernel_rfl)
     have ag4 : x4 = .pointer (some ⟨w.heap.size + 1 + 1, 0, none⟩) := hag.kept 4 (by kernel_rfl)
     have ag6 : x6 = .pointer (some ⟨go, 0, none⟩) := hag.kept 6 (by kernel_rfl)
     clear hag
     subst ag2 ag4 ag6
     have e0 : x22 = .agg #[.int .i64 n, .slice B1 cs.length k1, .slice B2 pl.length k2, .slice B3 ds.length k3, .int .i64 m] := hd 0 (by kernel_rfl) _ rfl
     have e3 : x25 = .int .i64 wy := hd 3 (by kernel_rfl) _ rfl
     subst e0 e3
     clear hd
     change wpList _ _ _ [_, _] _ _
     have hzq : W4.heap.size ≤ w5.heap.size := by have := hJ.size; (try simp at this); omega
     replace Lc := Lc.below hJ
     replace La := La.below hJ
     replace Lr := Lr.below hJ
     replace Lo := Lo.below hJ
     replace OK := Lib.hid (OK.out.below hJ)
     replace FK := Lib.hid (fresh_mono (w' := w5) FK.out (Nat.le_refl _) hzq)
     replace hb : Below w.heap.size w w5 := hb.trans (hJ.mono hb.size)
     clear hJ
     have r0 := (Lr 0 _ rfl).1
     have rf0 := (Lr 0 _ rfl).2
     have r1 := (Lr 1 _ rfl).1
     have rf1 := (Lr 1 _ rfl).2
     have r2 := (Lr 2 _ rfl).1
     have rf2 := (Lr 2 _ rfl).2
     have r3 := (Lr 3 _ rfl).1
     have rf3 := (Lr 3 _ rfl).2
     have r4 := (Lr 4 _ rfl).1
     have rf4 := (Lr 4 _ rfl).2
     go_wp2_with fail
     refine bodyPost_ret (v := .tuple #[.agg #[.int .i64 n, .slice B1 cs.length k1, .slice B2 pl.length k2, .slice B3 ds.length k3, .int .i64 m], .int .i64 wy]) (by simp [results, Tryz.results14, go_sem, *]) rfl (do_eq HD.out ⟨_, _, _, S, rfl, ?_, ?_, ?_⟩)
     ·exact OK.out.chg (T := [w.heap.size + 1 + 1]) (by repeat' (with_reducible first | exact Chg.refl _ _ | refine qC ?_)) (fun x hx hx' => DK.out x hx (by simp at hx' ⊢; omega))
     ·exact fresh_mono FK.out (by omega) (by simp)
     ·exact Below.chg hb (S := [w.heap.size + 1 + 1]) (by repeat' (with_reducible first | exact Chg.refl _ _ | refine qC ?_)) hb.size (fun x hx => by simp at hx; omega)
   all_goals
    have c0 := (Lc 0 _ rfl).1
    have c1 := (Lc 1 _ rfl).1
    have c2 := (Lc 2 _ rfl).1
    have c3 := (Lc 3 _ rfl).1
    have c4 := (Lc 4 _ rfl).1
    go_wp2_with fail
    refine (hX.out _ (h.below hb)).mono ?_
    rintro e W5 ⟨z1, z2, z3, T, rfl, owr, fr, q⟩
    clear c0 c1 c2 c3 c4
    obtain ⟨⟨Z1, e1, rfl⟩, ⟨Z2, e2, rfl⟩, ⟨Z3, e3, rfl⟩⟩ := owr.rd.forms
    have hzq : W4.heap.size ≤ W5.heap.size := by have := q.size; (try simp at this); omega
    replace Lc := Lc.below q
    replace Lr := Lr.below q
    replace Lo := Lo.below q
    replace OK := Lib.hid (OK.out.below q)
    replace FK := Lib.hid (fresh_mono (w' := W5) FK.out (Nat.le_refl _) hzq)
    replace hb : Below w.heap.size w W5 := hb.trans (q.mono hb.size)
    have hlow : W4.heap.size ≤ W4.heap.size := by first | exact Nat.le_refl _ | (simp; done) | (simp; omega) | omega
    have FZ := Lib.hid (fresh_mono fr hlow (Nat.le_refl _))
    have DZ : Hid (∀ x ∈ T, x ∉ [w.heap.size, w.heap.size + 1 + 1, go]) := (fun x hx => by have := (FZ.out.2 x hx).1; simp; omega)
    have OZ := Lib.hid owr
    clear owr fr hlow
    clear q
    clear OK FK DK
    cases rb
    ·skip
     have o0 := (Lo 0 _ rfl).1
     have of0 := (Lo 0 _ rfl).2
     have o1 := (Lo 1 _ rfl).1
     have of1 := (Lo 1 _ rfl).2
     have o2 := (Lo 2 _ rfl).1
     have of2 := (Lo 2 _ rfl).2
     have o3 := (Lo 3 _ rfl).1
     have of3 := (Lo 3 _ rfl).2
     have o4 := (Lo 4 _ rfl).1
     have of4 := (Lo 4 _ rfl).2
     have r0 := (Lr 0 _ rfl).1
     have rf0 := (Lr 0 _ rfl).2
     have r1 := (Lr 1 _ rfl).1
     have rf1 := (Lr 1 _ rfl).2
     have r2 := (Lr 2 _ rfl).1
     have rf2 := (Lr 2 _ rfl).2
     have r3 := (Lr 3 _ rfl).1
     have rf3 := (Lr 3 _ rfl).2
     have r4 := (Lr 4 _ rfl).1
     have rf4 := (Lr 4 _ rfl).2
     go_wp2_with fail
     refine bodyPost_ret (v := .tuple #[.agg #[.int .i64 rn, .slice Z1 rcs.length e1, .slice Z2 rpl.length e2, .slice Z3 rds.length e3, .int .i64 rm], .int .i64 0]) (by simp [results, Tryz.results14, go_sem, *]) rfl (do_eq HD.out ⟨_, _, _, T, rfl, ?_, ?_, ?_⟩)
     ·exact OZ.out.chg (T := [go, w.heap.size + 1 + 1]) (by repeat' (with_reducible first | exact Chg.refl _ _ | refine qC ?_)) (fun x hx hx' => DZ.out x hx (by simp at hx' ⊢; omega))
     ·exact fresh_mono FZ.out (by omega) (by simp)
     ·exact Below.chg hb (S := [go, w.heap.size + 1 + 1]) (by repeat' (with_reducible first | exact Chg.refl _ _ | refine qC ?_)) hb.size (fun x hx => by simp at hx; omega)
    ·skip
     have o0 := (Lo 0 _ rfl).1
     have of0 := (Lo 0 _ rfl).2
     have o1 := (Lo 1 _ rfl).1
     have of1 := (Lo 1 _ rfl).2
     have o2 := (Lo 2 _ rfl).1
     have of2 := (Lo 2 _ rfl).2
     have o3 := (Lo 3 _ rfl).1
     have of3 := (Lo 3 _ rfl).2
     have o4 := (Lo 4 _ rfl).1
     have of4 := (Lo 4 _ rfl).2
     have r0 := (Lr 0 _ rfl).1
     have rf0 := (Lr 0 _ rfl).2
     have r1 := (Lr 1 _ rfl).1
     have rf1 := (Lr 1 _ rfl).2
     have r2 := (Lr 2 _ rfl).1
     have rf2 := (Lr 2 _ rfl).2
     have r3 := (Lr 3 _ rfl).1
     have rf3 := (Lr 3 _ rfl).2
     have r4 := (Lr 4 _ rfl).1
     have rf4 := (Lr 4 _ rfl).2
     go_wp2_with fail
     refine bodyPost_ret (v := .tuple #[.agg #[.int .i64 rn, .slice Z1 rcs.length e1, .slice Z2 rpl.length e2, .slice Z3 rds.length e3, .int .i64 rm], .int .i64 1]) (by simp [results, Tryz.results14, go_sem, *]) rfl (do_eq HD.out ⟨_, _, _, T, rfl, ?_, ?_, ?_⟩)
     ·exact OZ.out.chg (T := [go, w.heap.size + 1 + 1]) (by repeat' (with_reducible first | exact Chg.refl _ _ | refine qC ?_)) (fun x hx hx' => DZ.out x hx (by simp at hx' ⊢; omega))
     ·exact fresh_mono FZ.out (by omega) (by simp)
     ·exact Below.chg hb (S := [go, w.heap.size + 1 + 1]) (by repeat' (with_reducible first | exact Chg.refl _ _ | refine qC ?_)) hb.size (fun x hx => by simp at hx; omega)
  ·skip
   clear a0 a1 a2
   have hzq : W1.heap.size ≤ W2.heap.size := by have := q.size; (try simp at this); omega
   replace Lc := Lc.below q
   replace La := La.below q
   replace Lr := Lr.below q
   replace hb : Below w.heap.size w W2 := hb.trans (q.mono hb.size)
   clear q
   have c0 := (Lc 0 _ rfl).1
   have c1 := (Lc 1 _ rfl).1
   have c2 := (Lc 2 _ rfl).1
   have c3 := (Lc 3 _ rfl).1
   have c4 := (Lc 4 _ rfl).1
   go_wp2_with fail
   refine (theatreCopied_any n m _ _ _ cs pl ds _ (h.below hb) hsz).mono ?_
   rintro e W3 ⟨y1, y2, y3, T, rfl, ow6, f6, q⟩
   clear c0 c1 c2 c3 c4
   obtain ⟨⟨D1, e1, rfl⟩, ⟨D2, e2, rfl⟩, ⟨D3, e3, rfl⟩⟩ := ow6.rd.forms
   have hzq : W2.heap.size ≤ W3.heap.size := by have := q.size; (try simp at this); omega
   replace Lc := Lc.below q
   replace La := La.below q
   replace Lr := Lr.below q
   replace hb : Below w.heap.size w W3 := hb.trans (q.mono hb.size)
   have hlow : W2.heap.size ≤ W2.heap.size := by first | exact Nat.le_refl _ | (simp; done) | (simp; omega) | omega
   have FZ := Lib.hid (fresh_mono f6 hlow (Nat.le_refl _))
   have DZ : Hid (∀ x ∈ T, x ∉ [w.heap.size, w.heap.size + 1, w.heap.size + 1 + 1]) := (fun x hx => by have := (FZ.out.2 x hx).1; simp; omega)
   have OZ := Lib.hid ow6
   clear ow6 f6 hlow
   clear q
   have r0 := (Lr 0 _ rfl).1
   have rf0 := (Lr 0 _ rfl).2
   have r1 := (Lr 1 _ rfl).1
   have rf1 := (Lr 1 _ rfl).2
   have r2 := (Lr 2 _ rfl).1
   have rf2 := (Lr 2 _ rfl).2
   have r3 := (Lr 3 _ rfl).1
   have rf3 := (Lr 3 _ rfl).2
   have r4 := (Lr 4 _ rfl).1
   have rf4 := (Lr 4 _ rfl).2
   go_wp2_with fail
   refine bodyPost_ret (v := .tuple #[.agg #[.int .i64 n, .slice D1 cs.length e1, .slice D2 pl.length e2, .slice D3 ds.length e3, .int .i64 m], .int .i64 (-1)]) (by simp [results, Tryz.results14, go_sem, *]) rfl (do_eq (do_f (fun hh => absurd (show actB ka aa ba = true from hh.2) (by rw [HA.out]; simp))) ⟨_, _, _, T, rfl, ?_, ?_, ?_⟩)
   ·exact OZ.out.chg (T := [w.heap.size + 1 + 1]) (by repeat' (with_reducible first | exact Chg.refl _ _ | refine qC ?_)) (fun x hx hx' => DZ.out x hx (by simp at hx'; subst hx'; simp))
   ·exact fresh_mono FZ.out (by omega) (by simp)
   ·exact Below.chg hb (S := [w.heap.size + 1 + 1]) (by repeat' (with_reducible first | exact Chg.refl _ _ | refine qC ?_)) hb.size (fun x hx => by simp at hx; omega)
 ·skip
  have Lc : Loc W1 (w.heap.size) [.int .i64 n, .slice A1 cs.length n1, .slice A2 pl.length n2, .slice A3 ds.length n3, .int .i64 m] := by have := (((Loc.new w #[.int .i64 n, .slice A1 cs.length n1, .slice A2 pl.length n2, .slice A3 ds.length n3, .int .i64 m] 37).alloc _).alloc _).below q; simpa using this
  have La : Loc W1 (w.heap.size + 1) [.int .i64 ka, .int .i64 aa, .int .i64 ba] := by have := ((Loc.new (w.alloc (.cells #[.int .i64 n, .slice A1 cs.length n1, .slice A2 pl.length n2, .slice A3 ds.length n3, .int .i64 m] 37)) #[.int .i64 ka, .int .i64 aa, .int .i64 ba] 41).alloc _).below q; simpa using this
  have Lr : Loc W1 (w.heap.size + 1 + 1) [.int .i64 0, .slice none 0 0, .slice none 0 0, .slice none 0 0, .int .i64 0] := by have := (Loc.new ((w.alloc (.cells #[.int .i64 n, .slice A1 cs.length n1, .slice A2 pl.length n2, .slice A3 ds.length n3, .int .i64 m] 37)).alloc (.cells #[.int .i64 ka, .int .i64 aa, .int .i64 ba] 41)) #[.int .i64 0, .slice none 0 0, .slice none 0 0, .slice none 0 0, .int .i64 0] 37).below q; simpa using this
  have hb : Below w.heap.size w W1 := Below.trans (by (repeat' (with_reducible first | exact Below.refl _ _ | assumption | refine qS ?_ _ | refine qA ?_ _ | refine qD ?_ | refine qN ?_ _))) (q.mono (by simp <;> omega))
  have hz0 : w.heap.size + 1 + 1 + 1 ≤ W1.heap.size := by have := q.size; simp at this; omega
  clear q
  have c0 := (Lc 0 _ rfl).1
  have c1 := (Lc 1 _ rfl).1
  have c2 := (Lc 2 _ rfl).1
  have c3 := (Lc 3 _ rfl).1
  have c4 := (Lc 4 _ rfl).1
  go_wp2_with fail
  refine (theatreCopied_any n m _ _ _ cs pl ds _ (h.below hb) hsz).mono ?_
  rintro e W2 ⟨y1, y2, y3, T, rfl, ow6, f6, q⟩
  clear c0 c1 c2 c3 c4
  obtain ⟨⟨D1, e1, rfl⟩, ⟨D2, e2, rfl⟩, ⟨D3, e3, rfl⟩⟩ := ow6.rd.forms
  have hzq : W1.heap.size ≤ W2.heap.size := by have := q.size; (try simp at this); omega
  replace Lc := Lc.below q
  replace La := La.below q
  replace Lr := Lr.below q
  replace hb : Below w.heap.size w W2 := hb.trans (q.mono hb.size)
  have hlow : W1.heap.size ≤ W1.heap.size := by first | exact Nat.le_refl _ | (simp; done) | (simp; omega) | omega
  have FZ := Lib.hid (fresh_mono f6 hlow (Nat.le_refl _))
  have DZ : Hid (∀ x ∈ T, x ∉ [w.heap.size, w.heap.size + 1, w.heap.size + 1 + 1]) := (fun x hx => by have := (FZ.out.2 x hx).1; simp; omega)
  have OZ := Lib.hid ow6
  clear ow6 f6 hlow
  clear q
  have r0 := (Lr 0 _ rfl).1
  have rf0 := (Lr 0 _ rfl).2
  have r1 := (Lr 1 _ rfl).1
  have rf1 := (Lr 1 _ rfl).2
  have r2 := (Lr 2 _ rfl).1
  have rf2 := (Lr 2 _ rfl).2
  have r3 := (Lr 3 _ rfl).1
  have rf3 := (Lr 3 _ rfl).2
  have r4 := (Lr 4 _ rfl).1
  have rf4 := (Lr 4 _ rfl).2
  go_wp2_with fail
  refine bodyPost_ret (v := .tuple #[.agg #[.int .i64 n, .slice D1 cs.length e1, .slice D2 pl.length e2, .slice D3 ds.length e3, .int .i64 m], .int .i64 (-1)]) (by simp [results, Tryz.results14, go_sem, *]) rfl (do_eq (do_f (fun hh => absurd (show theatreB n m cs pl ds = true from hh.1) (by rw [hq.out]; simp))) ⟨_, _, _, T, rfl, ?_, ?_, ?_⟩)
  ·exact OZ.out.chg (T := [w.heap.size + 1 + 1]) (by repeat' (with_reducible first | exact Chg.refl _ _ | refine qC ?_)) (fun x hx hx' => DZ.out x hx (by simp at hx'; subst hx'; simp))
  ·exact fresh_mono FZ.out (by omega) (by simp)
  ·exact Below.chg hb (S := [w.heap.size + 1 + 1]) (by repeat' (with_reducible first | exact Chg.refl _ _ | refine qC ?_)) hb.size (fun x hx => by simp at hx; omega)
open Go.RowKit
theorem l39Bool_any (b : Bool) (w : World) : Calls Tryz.prog 65 #[.bool b] w fun e w' => e = .returned (.int .i64 (numB b)) ∧ w = w' := by
 cases b <;>
 ·go_enter Tryz.func65, Tryz.ntmps65
  go_wp2
  go_ret
  exact ⟨rfl, rfl⟩
theorem act84dws {a : Act} (h : a.tmps.size = 84) (hd : a.defers = []) : ∃ x0 x1 x2 x3 x4 x5 x6 x7 x8 x9 x10 x11 x12 x13 x14 x15 x16 x17 x18 x19 x20 x21 x22 x23 x24 x25 x26 x27 x28 x29 x30 x31 x32 x33 x34 x35 x36 x37 x38 x39 x40 x41 x42 x43 x44 x45 x46 x47 x48 x49 x50 x51 x52 x53 x54 x55 x56 x57 x58 x59 x60 x61 x62 x63 x64 x65 x66 x67 x68 x69 x70 x71 x72 x73 x74 x75 x76 x77 x78 x79 x80 x81 x82 x83 : Value, a = ⟨#[x0, x1, x2, x3, x4, x5, x6, x7, x8, x9, x10, x11, x12, x13, x14, x15, x16, x17, x18, x19, x20, x21, x22, x23, x24, x25, x26, x27, x28, x29, x30, x31, x32, x33, x34, x35, x36, x37, x38, x39, x40, x41, x42, x43, x44, x45, x46, x47, x48, x49, x50, x51, x52, x53, x54, x55, x56, x57, x58, x59, x60, x61, x62, x63, x64, x65, x66, x67, x68, x69, x70, x71, x72, x73, x74, x75, x76, x77, x78, x79, x80, x81, x82, x83], []⟩ := by
 obtain ⟨⟨l⟩, d⟩ := a
 subst hd
 match l, h with
 | x0 :: x1 :: x2 :: x3 :: x4 :: x5 :: x6 :: x7 :: x8 :: x9 :: x10 :: x11 :: x12 :: x13 :: x14 :: x15 :: x16 :: x17 :: x18 :: x19 :: x20 :: x21 :: x22 :: x23 :: x24 :: x25 :: x26 :: x27 :: x28 :: x29 :: x30 :: x31 :: x32 :: x33 :: x34 :: x35 :: x36 :: x37 :: x38 :: x39 :: x40 :: x41 :: x42 :: x43 :: x44 :: x45 :: x46 :: x47 :: x48 :: x49 :: x50 :: x51 :: x52 :: x53 :: x54 :: x55 :: x56 :: x57 :: x58 :: x59 :: x60 :: x61 :: x62 :: x63 :: x64 :: x65 :: x66 :: x67 :: x68 :: x69 :: x70 :: x71 :: x72 :: x73 :: x74 :: x75 :: x76 :: x77 :: x78 :: x79 :: x80 :: x81 :: x82 :: x83 :: [], _ => exact ⟨x0, x1, x2, x3, x4, x5, x6, x7, x8, x9, x10, x11, x12, x13, x14, x15, x16, x17, x18, x19, x20, x21, x22, x23, x24, x25, x26, x27, x28, x29, x30, x31, x32, x33, x34, x35, x36, x37, x38, x39, x40, x41, x42, x43, x44, x45, x46, x47, x48, x49, x50, x51, x52, x53, x54, x55, x56, x57, x58, x59, x60, x61, x62, x63, x64, x65, x66, x67, x68, x69, x70, x71, x72, x73, x74, x75, x76, x77, x78, x79, x80, x81, x82, x83, rfl⟩
def pdws (_w : World) (n m : Int) (A1 A2 B1 B2 B3 : Option Addr) (csn pln dsn n1 n2 k1 k2 k3 gc _gr _go : Nat) (wy : Int) (i : Nat) (v : Value) (_ : Nat → Nat) (_ : World) : Prop :=
 match i with
 | 0 => v = .agg #[.int .i64 n, .slice B1 csn k1, .slice B2 pln k2, .slice B3 dsn k3, .int .i64 m]
 | 1 => v = .pointer (some ⟨gc, 0, none⟩)
 | 2 => v = .agg #[.int .i64 n, .slice A1 csn n1, .slice A2 pln n2]
 | 3 => v = .int .i64 wy
 | _ => True
theorem act84dsb {a : Act} (h : a.tmps.size = 84) (hd : a.defers = []) : ∃ x0 x1 x2 x3 x4 x5 x6 x7 x8 x9 x10 x11 x12 x13 x14 x15 x16 x17 x18 x19 x20 x21 x22 x23 x24 x25 x26 x27 x28 x29 x30 x31 x32 x33 x34 x35 x36 x37 x38 x39 x40 x41 x42 x43 x44 x45 x46 x47 x48 x49 x50 x51 x52 x53 x54 x55 x56 x57 x58 x59 x60 x61 x62 x63 x64 x65 x66 x67 x68 x69 x70 x71 x72 x73 x74 x75 x76 x77 x78 x79 x80 x81 x82 x83 : Value, a = ⟨#[x0, x1, x2, x3, x4, x5, x6, x7, x8, x9, x10, x11, x12, x13, x14, x15, x16, x17, x18, x19, x20, x21, x22, x23, x24, x25, x26, x27, x28, x29, x30, x31, x32, x33, x34, x35, x36, x37, x38, x39, x40, x41, x42, x43, x44, x45, x46, x47, x48, x49, x50, x51, x52, x53, x54, x55, x56, x57, x58, x59, x60, x61, x62, x63, x64, x65, x66, x67, x68, x69, x70, x71, x72, x73, x74, x75, x76, x77, x78, x79, x80, x81, x82, x83], []⟩ := by
 obtain ⟨⟨l⟩, d⟩ := a
 subst hd
 match l, h with
 | x0 :: x1 :: x2 :: x3 :: x4 :: x5 :: x6 :: x7 :: x8 :: x9 :: x10 :: x11 :: x12 :: x13 :: x14 :: x15 :: x16 :: x17 :: x18 :: x19 :: x20 :: x21 :: x22 :: x23 :: x24 :: x25 :: x26 :: x27 :: x28 :: x29 :: x30 :: x31 :: x32 :: x33 :: x34 :: x35 :: x36 :: x37 :: x38 :: x39 :: x40 :: x41 :: x42 :: x43 :: x44 :: x45 :: x46 :: x47 :: x48 :: x49 :: x50 :: x51 :: x52 :: x53 :: x54 :: x55 :: x56 :: x57 :: x58 :: x59 :: x60 :: x61 :: x62 :: x63 :: x64 :: x65 :: x66 :: x67 :: x68 :: x69 :: x70 :: x71 :: x72 :: x73 :: x74 :: x75 :: x76 :: x77 :: x78 :: x79 :: x80 :: x81 :: x82 :: x83 :: [], _ => exact ⟨x0, x1, x2, x3, x4, x5, x6, x7, x8, x9, x10, x11, x12, x13, x14, x15, x16, x17, x18, x19, x20, x21, x22, x23, x24, x25, x26, x27, x28, x29, x30, x31, x32, x33, x34, x35, x36, x37, x38, x39, x40, x41, x42, x43, x44, x45, x46, x47, x48, x49, x50, x51, x52, x53, x54, x55, x56, x57, x58, x59, x60, x61, x62, x63, x64, x65, x66, x67, x68, x69, x70, x71, x72, x73, x74, x75, x76, x77, x78, x79, x80, x81, x82, x83, rfl⟩
def pdsb (_w : World) (rn rm : Int) (Z1 Z2 Z3 : Option Addr) (cl pl dl e1 e2 e3 : Nat) (_gc _gr _go : Nat) (rb : Bool) (i : Nat) (v : Value) (_ : Nat → Nat) (_ : World) : Prop :=
 match i with
 | 0 => v = .agg #[.int .i64 rn, .slice Z1 cl e1, .slice Z2 pl e2, .slice Z3 dl e3, .int .i64 rm]
 | 1 => v = .bool rb
 | 2 => v = .int .i64 (numB rb)
 | _ => True
set_option maxHeartbeats 8000000 in
set_option maxRecDepth 100000 in
theorem specDoAct_any (n m ka aa ba : Int) (v1 v2 v3 : Value) (cs : List RCross) (pl : List RPl) (ds : List Int) (w : World) (h : RdTheatre w v1 v2 v3 cs pl ds) (hsz : szTheatre cs pl ds ≤ 1048576) :
  Calls Tryz.prog 11 #[.agg #[.int .i64 n, v1, v2, v3, .int .i64 m], .agg #[.int .i64 ka, .int .i64 aa, .int .i64 ba]] w (RetDo w.heap.size (doF ⟨n, m, cs, pl, ds⟩ (ka, aa, ba)) w) := by
 obtain ⟨⟨A1, n1, rfl⟩, ⟨A2, n2, rfl⟩, ⟨A3, n3, rfl⟩⟩ := h.forms
 go_enter Tryz.func11, Tryz.ntmps11
 go_wp2_with fail
 refine (l38Copy_any n m _ _ _ cs pl ds _ (h.below (by (repeat' (with_reducible first | exact Below.refl _ _ | assumption | refine qS ?_ _ | refine qA ?_ _ | refine qD ?_ | refine qN ?_ _)))) hsz).mono ?_
 rintro e W1 ⟨x1, x2, x3, S, rfl, ow, f1, q⟩
 obtain ⟨⟨B1, k1, rfl⟩, ⟨B2, k2, rfl⟩, ⟨B3, k3, rfl⟩⟩ := ow.rd.forms
 have Lc : Loc W1 (w.heap.size) [.int .i64 n, .slice A1 cs.length n1, .slice A2 pl.length n2, .slice A3 ds.length n3, .int .i64 m] := by have := (((Loc.new w #[.int .i64 n, .slice A1 cs.length n1, .slice A2 pl.length n2, .slice A3 ds.length n3, .int .i64 m] 37).alloc _).alloc _).below q; simpa using this
 have La : Loc W1 (w.heap.size + 1) [.int .i64 ka, .int .i64 aa, .int .i64 ba] := by have := ((Loc.new (w.alloc (.cells #[.int .i64 n, .slice A1 cs.length n1, .slice A2 pl.length n2, .slice A3 ds.length n3, .int .i64 m] 37)) #[.int .i64 ka, .int .i64 aa, .int .i64 ba] 41).alloc _).below q; simpa using this
 have Lr : Loc W1 (w.heap.size + 1 + 1) [.int .i64 0, .slice none 0 0, .slice none 0 0, .slice none 0 0, .int .i64 0] := by have := (Loc.new ((w.alloc (.cells #[.int .i64 n, .slice A1 cs.length n1, .slice A2 pl.length n2, .slice A3 ds.length n3, .int .i64 m] 37)).alloc (.cells #[.int .i64 ka, .int .i64 aa, .int .i64 ba] 41)) #[.int .i64 0, .slice none 0 0, .slice none 0 0, .slice none 0 0, .int .i64 0] 37).below q; simpa using this
 have hb : Below w.heap.size w W1 := Below.trans (by (repeat' (with_reducible first | exact Below.refl _ _ | assumption | refine qS ?_ _ | refine qA ?_ _ | refine qD ?_ | refine qN ?_ _))) (q.mono (by simp <;> omega))
 have hz0 : w.heap.size + 1 + 1 + 1 ≤ W1.heap.size := by have := q.size; simp at this; omega
 have hlow : w.heap.size + 1 + 1 + 1 ≤ ((((w.alloc (.cells #[.int .i64 n, .slice A1 cs.length n1, .slice A2 pl.length n2, .slice A3 ds.length n3, .int .i64 m] 37)).alloc (.cells #[.int .i64 ka, .int .i64 aa, .int .i64 ba] 41)).alloc (.cells #[.int .i64 0, .slice none 0 0, .slice none 0 0, .slice none 0 0, .int .i64 0] 37))).heap.size := by first | exact Nat.le_refl _ | (simp; done) | (simp; omega) | omega
 have FK := Lib.hid (fresh_mono f1 hlow (Nat.le_refl _))
 have DK : Hid (∀ x ∈ S, x ∉ [w.heap.size, w.heap.size + 1, w.heap.size + 1 + 1]) := (fun x hx => by have := (FK.out.2 x hx).1; simp; omega)
 have OK := Lib.hid ow
 clear ow f1 hlow
 clear q
 go_upto_region 2 with (fail)
 replace Lc : Loc (W1.alloc (.cells #[.int .i64 n, .slice B1 cs.length k1, .slice B2 pl.length k2, .slice B3 ds.length k3, .int .i64 m] 37)) (w.heap.size) [.int .i64 n, .slice A1 cs.length n1, .slice A2 pl.length n2, .slice A3 ds.length n3, .int .i64 m] := Lc.alloc _
 replace La : Loc (W1.alloc (.cells #[.int .i64 n, .slice B1 cs.length k1, .slice B2 pl.length k2, .slice B3 ds.length k3, .int .i64 m] 37)) (w.heap.size + 1) [.int .i64 ka, .int .i64 aa, .int .i64 ba] := La.alloc _
 replace Lr : Loc (W1.alloc (.cells #[.int .i64 n, .slice B1 cs.length k1, .slice B2 pl.length k2, .slice B3 ds.length k3, .int .i64 m] 37)) (w.heap.size + 1 + 1) [.int .i64 0, .slice none 0 0, .slice none 0 0, .slice none 0 0, .int .i64 0] := Lr.alloc _
 obtain ⟨go, hgo⟩ : ∃ g, W1.heap.size = g := ⟨_, rfl⟩
 have Lo : Loc (W1.alloc (.cells #[.int .i64 n, .slice B1 cs.length k1, .slice B2 pl.length k2, .slice B3 ds.length k3, .int .i64 m] 37)) W1.heap.size [.int .i64 n, .slice B1 cs.length k1, .slice B2 pl.length k2, .slice B3 ds.length k3, .int .i64 m] := Loc.new W1 #[.int .i64 n, .slice B1 cs.length k1, .slice B2 pl.length k2, .slice B3 ds.length k3, .int .i64 m] 37
 rw [hgo] at Lo
 replace OK := Lib.hid (OK.out.below (w' := (W1.alloc (.cells #[.int .i64 n, .slice B1 cs.length k1, .slice B2 pl.length k2, .slice B3 ds.length k3, .int .i64 m] 37))) ((Below.refl _ _).alloc (Nat.le_refl _) _))
 replace DK : Hid (∀ x ∈ S, x ∉ [w.heap.size, w.heap.size + 1, w.heap.size + 1 + 1, go]) := (fun x hx => by have := DK.out x hx; have := (FK.out.2 x hx).2; simp at *; omega)
 replace FK := Lib.hid (fresh_mono (w' := (W1.alloc (.cells #[.int .i64 n, .slice B1 cs.length k1, .slice B2 pl.length k2, .slice B3 ds.length k3, .int .i64 m] 37))) FK.out (Nat.le_refl _) (by simp))
 replace hb : Below w.heap.size w (W1.alloc (.cells #[.int .i64 n, .slice B1 cs.length k1, .slice B2 pl.length k2, .slice B3 ds.length k3, .int .i64 m] 37)) := hb.alloc hb.size _
 have hlto : go < (W1.alloc (.cells #[.int .i64 n, .slice B1 cs.length k1, .slice B2 pl.length k2, .slice B3 ds.length k3, .int .i64 m] 37)).heap.size := by simp; omega
 have hne_c_o : w.heap.size < go := by omega
 have hne_a_o : w.heap.size + 1 < go := by omega
 have hne_r_o : w.heap.size + 1 + 1 < go := by omega
 generalize W1.alloc (.cells #[.int .i64 n, .slice B1 cs.length k1, .slice B2 pl.length k2, .slice B3 ds.length k3, .int .i64 m] 37) = W2 at *
 rw [hgo]
 clear hgo
 have c0 := (Lc 0 _ rfl).1
 have c1 := (Lc 1 _ rfl).1
 have c2 := (Lc 2 _ rfl).1
 have c3 := (Lc 3 _ rfl).1
 have c4 := (Lc 4 _ rfl).1
 go_wp2_with fail
 refine twoB (specTheatreOk_any n m _ _ _ cs pl ds _ (h.below hb)) (fun W3 hq q => ?_) (fun W3 hq q => ?_)
 ·skip
  clear c0 c1 c2 c3 c4
  have hzq : W2.heap.size ≤ W3.heap.size := by have := q.size; (try simp at this); omega
  replace Lc := Lc.below q
  replace La := La.below q
  replace Lr := Lr.below q
  replace Lo := Lo.below q
  replace OK := Lib.hid (OK.out.below q)
  replace FK := Lib.hid (fresh_mono (w' := W3) FK.out (Nat.le_refl _) hzq)
  replace hb : Below w.heap.size w W3 := hb.trans (q.mono hb.size)
  clear q
  have HQ := hq
  have a0 := (La 0 _ rfl).1
  have a1 := (La 1 _ rfl).1
  have a2 := (La 2 _ rfl).1
  go_wp2_with fail
  refine twoB (specActOk_any ka aa ba _) (fun W4 HA q => ?_) (fun W4 HA q => ?_)
  ·skip
   clear a0 a1 a2
   have hzq : W3.heap.size ≤ W4.heap.size := by have := q.size; (try simp at this); omega
   replace Lc := Lc.below q
   replace La := La.below q
   replace Lr := Lr.below q
   replace Lo := Lo.below q
   replace OK := Lib.hid (OK.out.below q)
   replace FK := Lib.hid (fresh_mono (w' := W4) FK.out (Nat.le_refl _) hzq)
   replace hb : Below w.heap.size w W4 := hb.trans (q.mono hb.size)
   clear q
   rcases act_kinds HA.out with rfl | rfl | rfl | rfl | rfl | rfl | rfl
   obtain ⟨⟨⟨rn, rm, rcs, rpl, rds⟩, rb⟩, hres⟩ : ∃ res, hireF ⟨n, m, cs, pl, ds⟩ aa = res := ⟨_, rfl⟩
   have hX : Hid (∀ W, RdTheatre W (.slice A1 cs.length n1) (.slice A2 pl.length n2) (.slice A3 ds.length n3) cs pl ds → Calls Tryz.prog 60 #[.agg #[.int .i64 n, .slice A1 cs.length n1, .slice A2 pl.length n2, .slice A3 ds.length n3, .int .i64 m], .int .i64 aa] W (RetT W.heap.size rn rm rb rcs rpl rds W)) := fun W hr => by
    have := specHirePlayer_any n m aa _ _ _ cs pl ds W hr hsz
    rw [hres] at this
    exact this
   have HD : Hid (doF ⟨n, m, cs, pl, ds⟩ (1, aa, ba) = (⟨rn, rm, rcs, rpl, rds⟩, numB rb)) := by show _ = _; rw [do_t (t := ⟨n, m, cs, pl, ds⟩) HQ.out HA.out, step_1, hres]
   clear hres
   have a0 := (La 0 _ rfl).1
   have a1 := (La 1 _ rfl).1
   have a2 := (La 2 _ rfl).1
   clear La
   rotate_left
   obtain ⟨⟨⟨rn, rm, rcs, rpl, rds⟩, rb⟩, hres⟩ : ∃ res, teachT ⟨n, m, cs, pl, ds⟩ aa ba = res := ⟨_, rfl⟩
   have hX : Hid (∀ W, RdTheatre W (.slice A1 cs.length n1) (.slice A2 pl.length n2) (.slice A3 ds.length n3) cs pl ds → Calls Tryz.prog 61 #[.agg #[.int .i64 n, .slice A1 cs.length n1, .slice A2 pl.length n2, .slice A3 ds.length n3, .int .i64 m], .int .i64 aa, .int .i64 ba] W (RetT W.heap.size rn rm rb rcs rpl rds W)) := fun W hr => by
    have := specTeachPlayer_any n m aa ba _ _ _ cs pl ds W hr hsz
    rw [hres] at this
    exact this
   have HD : Hid (doF ⟨n, m, cs, pl, ds⟩ (2, aa, ba) = (⟨rn, rm, rcs, rpl, rds⟩, numB rb)) := by show _ = _; rw [do_t (t := ⟨n, m, cs, pl, ds⟩) HQ.out HA.out, step_2, hres]
   clear hres
   have a0 := (La 0 _ rfl).1
   have a1 := (La 1 _ rfl).1
   have a2 := (La 2 _ rfl).1
   clear La
   rotate_left
   obtain ⟨⟨⟨rn, rm, rcs, rpl, rds⟩, rb⟩, hres⟩ : ∃ res, moveF ⟨n, m, cs, pl, ds⟩ aa true = res := ⟨_, rfl⟩
   have hX : Hid (∀ W, RdTheatre W (.slice A1 cs.length n1) (.slice A2 pl.length n2) (.slice A3 ds.length n3) cs pl ds → Calls Tryz.prog 62 #[.agg #[.int .i64 n, .slice A1 cs.length n1, .slice A2 pl.length n2, .slice A3 ds.length n3, .int .i64 m], .int .i64 aa, .bool true] W (RetT W.heap.size rn rm rb rcs rpl rds W)) := fun W hr => by
    have := specMovePuppet_any n m aa true _ _ _ cs pl ds W hr hsz
    rw [hres] at this
    exact this
   have HD : Hid (doF ⟨n, m, cs, pl, ds⟩ (3, aa, ba) = (⟨rn, rm, rcs, rpl, rds⟩, numB rb)) := by show _ = _; rw [do_t (t := ⟨n, m, cs, pl, ds⟩) HQ.out HA.out, step_3, hres]
   clear hres
   have a0 := (La 0 _ rfl).1
   have a1 := (La 1 _ rfl).1
   have a2 := (La 2 _ rfl).1
   clear La
   rotate_left
   obtain ⟨⟨⟨rn, rm, rcs, rpl, rds⟩, rb⟩, hres⟩ : ∃ res, moveF ⟨n, m, cs, pl, ds⟩ aa false = res := ⟨_, rfl⟩
   have hX : Hid (∀ W, RdTheatre W (.slice A1 cs.length n1) (.slice A2 pl.length n2) (.slice A3 ds.length n3) cs pl ds → Calls Tryz.prog 62 #[.agg #[.int .i64 n, .slice A1 cs.length n1, .slice A2 pl.length n2, .slice A3 ds.length n3, .int .i64 m], .int .i64 aa, .bool false] W (RetT W.heap.size rn rm rb rcs rpl rds W)) := fun W hr => by
    have := specMovePuppet_any n m aa false _ _ _ cs pl ds W hr hsz
    rw [hres] at this
    exact this
   have HD : Hid (doF ⟨n, m, cs, pl, ds⟩ (4, aa, ba) = (⟨rn, rm, rcs, rpl, rds⟩, numB rb)) := by show _ = _; rw [do_t (t := ⟨n, m, cs, pl, ds⟩) HQ.out HA.out, step_4, hres]
   clear hres
   have a0 := (La 0 _ rfl).1
   have a1 := (La 1 _ rfl).1
   have a2 := (La 2 _ rfl).1
   clear La
   rotate_left
   obtain ⟨⟨⟨rn, rm, rcs, rpl, rds⟩, rb⟩, hres⟩ : ∃ res, putT ⟨n, m, cs, pl, ds⟩ = res := ⟨_, rfl⟩
   have hX : Hid (∀ W, RdTheatre W (.slice A1 cs.length n1) (.slice A2 pl.length n2) (.slice A3 ds.length n3) cs pl ds → Calls Tryz.prog 63 #[.agg #[.int .i64 n, .slice A1 cs.length n1, .slice A2 pl.length n2, .slice A3 ds.length n3, .int .i64 m]] W (RetT W.heap.size rn rm rb rcs rpl rds W)) := fun W hr => by
    have := specPutInOrder_any n m  _ _ _ cs pl ds W hr hsz
    rw [hres] at this
    exact this
   have HD : Hid (doF ⟨n, m, cs, pl, ds⟩ (5, aa, ba) = (⟨rn, rm, rcs, rpl, rds⟩, numB rb)) := by show _ = _; rw [do_t (t := ⟨n, m, cs, pl, ds⟩) HQ.out HA.out, step_5, hres]
   clear hres
   have a0 := (La 0 _ rfl).1
   have a1 := (La 1 _ rfl).1
   have a2 := (La 2 _ rfl).1
   clear La
   rotate_left
   obtain ⟨⟨⟨rn, rm, rcs, rpl, rds⟩, rb⟩, hres⟩ : ∃ res, showF ⟨n, m, cs, pl, ds⟩ aa = res := ⟨_, rfl⟩
   have hX : Hid (∀ W, RdTheatre W (.slice A1 cs.length n1) (.slice A2 pl.length n2) (.slice A3 ds.length n3) cs pl ds → Calls Tryz.prog 64 #[.agg #[.int .i64 n, .slice A1 cs.length n1, .slice A2 pl.length n2, .slice A3 ds.length n3, .int .i64 m], .int .i64 aa] W (RetT W.heap.size rn rm rb rcs rpl rds W)) := fun W hr => by
    have := specGiveShow_any n m aa _ _ _ cs pl ds W hr hsz
    rw [hres] at this
    exact this
   have HD : Hid (doF ⟨n, m, cs, pl, ds⟩ (6, aa, ba) = (⟨rn, rm, rcs, rpl, rds⟩, numB rb)) := by show _ = _; rw [do_t (t := ⟨n, m, cs, pl, ds⟩) HQ.out HA.out, step_6, hres]
   clear hres
   have a0 := (La 0 _ rfl).1
   have a1 := (La 1 _ rfl).1
   have a2 := (La 2 _ rfl).1
   clear La
   rotate_left
   ·skip
    have HD : Hid (doF ⟨n, m, cs, pl, ds⟩ (7, aa, ba) = (⟨n, m, cs, pl, ds⟩, whyF n cs pl)) := by show _ = _; rw [do_t (t := ⟨n, m, cs, pl, ds⟩) HQ.out HA.out, step_7]
    have hWN : Hid (∀ w', RdCompany w' (.slice A1 cs.length n1) (.slice A2 pl.length n2) cs pl → Calls Tryz.prog 33 #[.agg #[.int .i64 n, .slice A1 cs.length n1, .slice A2 pl.length n2]] w' fun e w'' => e = .returned (.int .i64 (whyF n cs pl)) ∧ Below w'.heap.size w' w'') := fun w' hr => specWhyNot_any n _ _ cs pl w' hr
    generalize whyF n cs pl = wy at *
    have a0 := (La 0 _ rfl).1
    have a1 := (La 1 _ rfl).1
    have a2 := (La 2 _ rfl).1
    go_upto_region 19 with (fail)
    clear a0 a1 a2
    refine region_made (n := 84) 4 (by kernel_rfl) rfl (by kernel_rfl) (fun w' => Below W4.heap.size W4 w') (fun _ => 0) (pdws w n m A1 A2 B1 B2 B3 cs.length pl.length ds.length n1 n2 k1 k2 k3 (w.heap.size) (w.heap.size + 1 + 1) (go) wy) (Below.refl _ _).drew ?_ ?_ ?_
    ·intro i v gh gh' w1 w2 hp hJ hb' hg
     match i, hp with
     | 0, hp => exact hp
     | 1, hp => exact hp
     | 2, hp => exact hp
     | 3, hp => exact hp
     | _ + 4, _ => trivial
    ·refine ⟨?_, ?_, ?_, ?_, trivial⟩
     ·intro a gh w5 hag hJ hd
      have ag6 : a.tmps.getD 6 undef = .pointer (some ⟨go, 0, none⟩) := hag.kept 6 (by kernel_rfl)
      clear hag
      have o0 := ((Lo.below hJ) 0 _ rfl).1
      have o1 := ((Lo.below hJ) 1 _ rfl).1
      have o2 := ((Lo.below hJ) 2 _ rfl).1
      have o3 := ((Lo.below hJ) 3 _ rfl).1
      have o4 := ((Lo.below hJ) 4 _ rfl).1
      go_wp2_with fail
      exact ⟨rfl, _, rfl, rfl, hJ, Below.refl _ _⟩
     ·intro a gh w5 hag hJ hd
      have ag2 : a.tmps.getD 2 undef = .pointer (some ⟨w.heap.size, 0, none⟩) := hag.kept 2 (by kernel_rfl)
      clear hag
      go_wp2_with fail
      exact ⟨rfl, _, rfl, rfl, hJ, Below.refl _ _⟩
     ·intro a gh w5 hag hJ hd
      clear hag
      have e0 : a.tmps.getD 78 undef = .pointer (some ⟨w.heap.size, 0, none⟩) := hd 1 (by kernel_rfl) _ rfl
      have c0 := ((Lc.below hJ) 0 _ rfl).1
      have c1 := ((Lc.below hJ) 1 _ rfl).1
      have c2 := ((Lc.below hJ) 2 _ rfl).1
      go_wp2_with fail
      exact ⟨rfl, _, rfl, rfl, hJ, Below.refl _ _⟩
     ·intro a gh w5 hag hJ hd
      clear hag
      have e0 : a.tmps.getD 79 undef = .agg #[.int .i64 n, .slice A1 cs.length n1, .slice A2 pl.length n2] := hd 2 (by kernel_rfl) _ rfl
      go_wp2_with fail
      refine (hWN.out w5 ((h.below (hb.trans (hJ.mono hb.size))).1)).mono ?_
      rintro e w6 ⟨rfl, hb6⟩
      go_wp2_with fail
      exact ⟨rfl, _, rfl, rfl, bl_trans hJ hb6, hb6⟩
    ·intro a gh w5 hag hJ hd
     obtain ⟨x0, x1, x2, x3, x4, x5, x6, x7, x8, x9, x10, x11, x12, x13, x14, x15, x16, x17, x18, x19, x20, x21, x22, x23, x24, x25, x26, x27, x28, x29, x30, x31, x32, x33, x34, x35, x36, x37, x38, x39, x40, x41, x42, x43, x44, x45, x46, x47, x48, x49, x50, x51, x52, x53, x54, x55, x56, x57, x58, x59, x60, x61, x62, x63, x64, x65, x66, x67, x68, x69, x70, x71, x72, x73, x74, x75, x76, x77, x78, x79, x80, x81, x82, x83, rfl⟩ := act84dws hag.size hag.defers
     have ag2 : x2 = .pointer (some ⟨w.heap.size, 0, none⟩) := hag.kept 2 (by kernel_rfl)
     have ag4 : x4 = .pointer (some ⟨w.heap.size + 1 + 1, 0, none⟩) := hag.kept 4 (by kernel_rfl)
     have ag6 : x6 = .pointer (some ⟨go, 0, none⟩) := hag.kept 6 (by kernel_rfl)
     clear hag
     subst ag2 ag4 ag6
     have e0 : x77 = .agg #[.int .i64 n, .slice B1 cs.length k1, .slice B2 pl.length k2, .slice B3 ds.length k3, .int .i64 m] := hd 0 (by kernel_rfl) _ rfl
     have e3 : x80 = .int .i64 wy := hd 3 (by kernel_rfl) _ rfl
     subst e0 e3
     clear hd
     change wpList _ _ _ [_, _] _ _
     have hzq : W4.heap.size ≤ w5.heap.size := by have := hJ.size; (try simp at this); omega
     replace Lc := Lc.below hJ
     replace La := La.below hJ
     replace Lr := Lr.below hJ
     replace Lo := Lo.below hJ
     replace OK := Lib.hid (OK.out.below hJ)
     replace FK := Lib.hid (fresh_mono (w' := w5) FK.out (Nat.le_refl _) hzq)
     replace hb : Below w.heap.size w w5 := hb.trans (hJ.mono hb.size)
     clear hJ
     have r0 := (Lr 0 _ rfl).1
     have rf0 := (Lr 0 _ rfl).2
     have r1 := (Lr 1 _ rfl).1
     have rf1 := (Lr 1 _ rfl).2
     have r2 := (Lr 2 _ rfl).1
     have rf2 := (Lr 2 _ rfl).2
     have r3 := (Lr 3 _ rfl).1
     have rf3 := (Lr 3 _ rfl).2
     have r4 := (Lr 4 _ rfl).1
     have rf4 := (Lr 4 _ rfl).2
     go_wp2_with fail
     refine bodyPost_ret (v := .tuple #[.agg #[.int .i64 n, .slice B1 cs.length k1, .slice B2 pl.length k2, .slice B3 ds.length k3, .int .i64 m], .int .i64 wy]) (by simp [results, Tryz.results11, go_sem, *]) rfl (do_eq HD.out ⟨_, _, _, S, rfl, ?_, ?_, ?_⟩)
     ·exact OK.out.chg (T := [w.heap.size + 1 + 1]) (by repeat' (with_reducible first | exact Chg.refl _ _ | refine qC ?_)) (fun x hx hx' => DK.out x hx (by simp at hx' ⊢; omega))
     ·exact fresh_mono FK.out (by omega) (by simp)
     ·exact Below.chg hb (S := [w.heap.size + 1 + 1]) (by repeat' (with_reducible first | exact Chg.refl _ _ | refine qC ?_)) hb.size (fun x hx => by simp at hx; omega)
   all_goals
    have c0 := (Lc 0 _ rfl).1
    have c1 := (Lc 1 _ rfl).1
    have c2 := (Lc 2 _ rfl).1
    have c3 := (Lc 3 _ rfl).1
    have c4 := (Lc 4 _ rfl).1
    go_wp2_with fail
    refine (hX.out _ (h.below hb)).mono ?_
    rintro e W5 ⟨z1, z2, z3, T, rfl, owr, fr, q⟩
    clear c0 c1 c2 c3 c4
    obtain ⟨⟨Z1, e1, rfl⟩, ⟨Z2, e2, rfl⟩, ⟨Z3, e3, rfl⟩⟩ := owr.rd.forms
    have hzq : W4.heap.size ≤ W5.heap.size := by have := q.size; (try simp at this); omega
    replace Lc := Lc.below q
    replace Lr := Lr.below q
    replace Lo := Lo.below q
    replace OK := Lib.hid (OK.out.below q)
    replace FK := Lib.hid (fresh_mono (w' := W5) FK.out (Nat.le_refl _) hzq)
    replace hb : Below w.heap.size w W5 := hb.trans (q.mono hb.size)
    have hlow : W4.heap.size ≤ W4.heap.size := by first | exact Nat.le_refl _ | (simp; done) | (simp; omega) | omega
    have FZ := Lib.hid (fresh_mono fr hlow (Nat.le_refl _))
    have DZ : Hid (∀ x ∈ T, x ∉ [w.heap.size, w.heap.size + 1 + 1, go]) := (fun x hx => by have := (FZ.out.2 x hx).1; simp; omega)
    have OZ := Lib.hid owr
    clear owr fr hlow
    clear q
    clear OK FK DK
    have o0 := (Lo 0 _ rfl).1
    have of0 := (Lo 0 _ rfl).2
    have o1 := (Lo 1 _ rfl).1
    have of1 := (Lo 1 _ rfl).2
    have o2 := (Lo 2 _ rfl).1
    have of2 := (Lo 2 _ rfl).2
    have o3 := (Lo 3 _ rfl).1
    have of3 := (Lo 3 _ rfl).2
    have o4 := (Lo 4 _ rfl).1
    have of4 := (Lo 4 _ rfl).2
    go_upto_region 20 with (fail)
    clear o0 of0 o1 of1 o2 of2 o3 of3 o4 of4
    replace Lc := Lc.far (g := go) (i := 0) (u := .int .i64 rn) (by omega)
    replace Lr := Lr.far (g := go) (i := 0) (u := .int .i64 rn) (by omega)
    replace Lo : Loc (W5.setCell ⟨go, 0, none⟩ (.int .i64 rn)) (go) [.int .i64 rn, .slice B1 cs.length k1, .slice B2 pl.length k2, .slice B3 ds.length k3, .int .i64 m] := Lo.set (i := 0) (v := .int .i64 n) rfl
    have hch : Chg [go] W5 (W5.setCell ⟨go, 0, none⟩ (.int .i64 rn)) := chg_set (Chg.refl _ _) (by simp)
    replace OZ := Lib.hid (OZ.out.chg hch (fun x hx hx' => DZ.out x hx (by simp at hx'; subst hx'; simp)))
    replace FZ := Lib.hid (fresh_mono (w' := (W5.setCell ⟨go, 0, none⟩ (.int .i64 rn))) FZ.out (Nat.le_refl _) hch.size)
    replace hb : Below w.heap.size w (W5.setCell ⟨go, 0, none⟩ (.int .i64 rn)) := Below.chg hb hch hb.size (by simp; omega)
    have hzc := hch.size
    clear hch
    generalize W5.setCell ⟨go, 0, none⟩ (.int .i64 rn) = W6 at *
    replace Lc := Lc.far (g := go) (i := 1) (u := .slice Z1 rcs.length e1) (by omega)
    replace Lr := Lr.far (g := go) (i := 1) (u := .slice Z1 rcs.length e1) (by omega)
    replace Lo : Loc (W6.setCell ⟨go, 1, none⟩ (.slice Z1 rcs.length e1)) (go) [.int .i64 rn, .slice Z1 rcs.length e1, .slice B2 pl.length k2, .slice B3 ds.length k3, .int .i64 m] := Lo.set (i := 1) (v := .slice B1 cs.length k1) rfl
    have hch : Chg [go] W6 (W6.setCell ⟨go, 1, none⟩ (.slice Z1 rcs.length e1)) := chg_set (Chg.refl _ _) (by simp)
    replace OZ := Lib.hid (OZ.out.chg hch (fun x hx hx' => DZ.out x hx (by simp at hx'; subst hx'; simp)))
    replace FZ := Lib.hid (fresh_mono (w' := (W6.setCell ⟨go, 1, none⟩ (.slice Z1 rcs.length e1))) FZ.out (Nat.le_refl _) hch.size)
    replace hb : Below w.heap.size w (W6.setCell ⟨go, 1, none⟩ (.slice Z1 rcs.length e1)) := Below.chg hb hch hb.size (by simp; omega)
    have hzc := hch.size
    clear hch
    generalize W6.setCell ⟨go, 1, none⟩ (.slice Z1 rcs.length e1) = W7 at *
    replace Lc := Lc.far (g := go) (i := 2) (u := .slice Z2 rpl.length e2) (by omega)
    replace Lr := Lr.far (g := go) (i := 2) (u := .slice Z2 rpl.length e2) (by omega)
    replace Lo : Loc (W7.setCell ⟨go, 2, none⟩ (.slice Z2 rpl.length e2)) (go) [.int .i64 rn, .slice Z1 rcs.length e1, .slice Z2 rpl.length e2, .slice B3 ds.length k3, .int .i64 m] := Lo.set (i := 2) (v := .slice B2 pl.length k2) rfl
    have hch : Chg [go] W7 (W7.setCell ⟨go, 2, none⟩ (.slice Z2 rpl.length e2)) := chg_set (Chg.refl _ _) (by simp)
    replace OZ := Lib.hid (OZ.out.chg hch (fun x hx hx' => DZ.out x hx (by simp at hx'; subst hx'; simp)))
    replace FZ := Lib.hid (fresh_mono (w' := (W7.setCell ⟨go, 2, none⟩ (.slice Z2 rpl.length e2))) FZ.out (Nat.le_refl _) hch.size)
    replace hb : Below w.heap.size w (W7.setCell ⟨go, 2, none⟩ (.slice Z2 rpl.length e2)) := Below.chg hb hch hb.size (by simp; omega)
    have hzc := hch.size
    clear hch
    generalize W7.setCell ⟨go, 2, none⟩ (.slice Z2 rpl.length e2) = W8 at *
    replace Lc := Lc.far (g := go) (i := 3) (u := .slice Z3 rds.length e3) (by omega)
    replace Lr := Lr.far (g := go) (i := 3) (u := .slice Z3 rds.length e3) (by omega)
    replace Lo : Loc (W8.setCell ⟨go, 3, none⟩ (.slice Z3 rds.length e3)) (go) [.int .i64 rn, .slice Z1 rcs.length e1, .slice Z2 rpl.length e2, .slice Z3 rds.length e3, .int .i64 m] := Lo.set (i := 3) (v := .slice B3 ds.length k3) rfl
    have hch : Chg [go] W8 (W8.setCell ⟨go, 3, none⟩ (.slice Z3 rds.length e3)) := chg_set (Chg.refl _ _) (by simp)
    replace OZ := Lib.hid (OZ.out.chg hch (fun x hx hx' => DZ.out x hx (by simp at hx'; subst hx'; simp)))
    replace FZ := Lib.hid (fresh_mono (w' := (W8.setCell ⟨go, 3, none⟩ (.slice Z3 rds.length e3))) FZ.out (Nat.le_refl _) hch.size)
    replace hb : Below w.heap.size w (W8.setCell ⟨go, 3, none⟩ (.slice Z3 rds.length e3)) := Below.chg hb hch hb.size (by simp; omega)
    have hzc := hch.size
    clear hch
    generalize W8.setCell ⟨go, 3, none⟩ (.slice Z3 rds.length e3) = W9 at *
    replace Lc := Lc.far (g := go) (i := 4) (u := .int .i64 rm) (by omega)
    replace Lr := Lr.far (g := go) (i := 4) (u := .int .i64 rm) (by omega)
    replace Lo : Loc (W9.setCell ⟨go, 4, none⟩ (.int .i64 rm)) (go) [.int .i64 rn, .slice Z1 rcs.length e1, .slice Z2 rpl.length e2, .slice Z3 rds.length e3, .int .i64 rm] := Lo.set (i := 4) (v := .int .i64 m) rfl
    have hch : Chg [go] W9 (W9.setCell ⟨go, 4, none⟩ (.int .i64 rm)) := chg_set (Chg.refl _ _) (by simp)
    replace OZ := Lib.hid (OZ.out.chg hch (fun x hx hx' => DZ.out x hx (by simp at hx'; subst hx'; simp)))
    replace FZ := Lib.hid (fresh_mono (w' := (W9.setCell ⟨go, 4, none⟩ (.int .i64 rm))) FZ.out (Nat.le_refl _) hch.size)
    replace hb : Below w.heap.size w (W9.setCell ⟨go, 4, none⟩ (.int .i64 rm)) := Below.chg hb hch hb.size (by simp; omega)
    have hzc := hch.size
    clear hch
    generalize W9.setCell ⟨go, 4, none⟩ (.int .i64 rm) = W10 at *
    refine region_made (n := 84) 3 (by kernel_rfl) rfl (by kernel_rfl) (fun w' => Below W10.heap.size W10 w') (fun _ => 0) (pdsb w rn rm Z1 Z2 Z3 rcs.length rpl.length rds.length e1 e2 e3 (w.heap.size) (w.heap.size + 1 + 1) (go) rb) (Below.refl _ _).drew ?_ ?_ ?_
    ·intro i v gh gh' w1 w2 hp hJ hb' hg
     match i, hp with
     | 0, hp => exact hp
     | 1, hp => exact hp
     | 2, hp => exact hp
     | _ + 3, _ => trivial
    ·refine ⟨?_, ?_, ?_, trivial⟩
     ·intro a gh w5 hag hJ hd
      have ag6 : a.tmps.getD 6 undef = .pointer (some ⟨go, 0, none⟩) := hag.kept 6 (by kernel_rfl)
      clear hag
      have o0 := ((Lo.below hJ) 0 _ rfl).1
      have o1 := ((Lo.below hJ) 1 _ rfl).1
      have o2 := ((Lo.below hJ) 2 _ rfl).1
      have o3 := ((Lo.below hJ) 3 _ rfl).1
      have o4 := ((Lo.below hJ) 4 _ rfl).1
      go_wp2_with fail
      exact ⟨rfl, _, rfl, rfl, hJ, Below.refl _ _⟩
     ·intro a gh w5 hag hJ hd
      have ag7 : a.tmps.getD 7 undef = .bool rb := hag.kept 7 (by kernel_rfl)
      clear hag
      go_wp2_with fail
      exact ⟨rfl, _, rfl, rfl, hJ, Below.refl _ _⟩
     ·intro a gh w5 hag hJ hd
      clear hag
      have e0 : a.tmps.getD 82 undef = .bool rb := hd 1 (by kernel_rfl) _ rfl
      go_wp2_with fail
      refine (l39Bool_any rb w5).mono ?_
      rintro e w6 ⟨rfl, rfl⟩
      go_wp2_with fail
      exact ⟨rfl, _, rfl, rfl, hJ, Below.refl _ _⟩
    ·intro a gh w5 hag hJ hd
     obtain ⟨x0, x1, x2, x3, x4, x5, x6, x7, x8, x9, x10, x11, x12, x13, x14, x15, x16, x17, x18, x19, x20, x21, x22, x23, x24, x25, x26, x27, x28, x29, x30, x31, x32, x33, x34, x35, x36, x37, x38, x39, x40, x41, x42, x43, x44, x45, x46, x47, x48, x49, x50, x51, x52, x53, x54, x55, x56, x57, x58, x59, x60, x61, x62, x63, x64, x65, x66, x67, x68, x69, x70, x71, x72, x73, x74, x75, x76, x77, x78, x79, x80, x81, x82, x83, rfl⟩ := act84dsb hag.size hag.defers
     have ag4 : x4 = .pointer (some ⟨w.heap.size + 1 + 1, 0, none⟩) := hag.kept 4 (by kernel_rfl)
     have ag6 : x6 = .pointer (some ⟨go, 0, none⟩) := hag.kept 6 (by kernel_rfl)
     have ag7 : x7 = .bool rb := hag.kept 7 (by kernel_rfl)
     clear hag
     subst ag4 ag6 ag7
     have e0 : x81 = .agg #[.int .i64 rn, .slice Z1 rcs.length e1, .slice Z2 rpl.length e2, .slice Z3 rds.length e3, .int .i64 rm] := hd 0 (by kernel_rfl) _ rfl
     have e3 : x83 = .int .i64 (numB rb) := hd 2 (by kernel_rfl) _ rfl
     subst e0 e3
     clear hd
     change wpList _ _ _ [_, _] _ _
     have hzq : W10.heap.size ≤ w5.heap.size := by have := hJ.size; (try simp at this); omega
     replace Lc := Lc.below hJ
     replace Lr := Lr.below hJ
     replace Lo := Lo.below hJ
     replace OZ := Lib.hid (OZ.out.below hJ)
     replace FZ := Lib.hid (fresh_mono (w' := w5) FZ.out (Nat.le_refl _) hzq)
     replace hb : Below w.heap.size w w5 := hb.trans (hJ.mono hb.size)
     clear hJ
     have r0 := (Lr 0 _ rfl).1
     have rf0 := (Lr 0 _ rfl).2
     have r1 := (Lr 1 _ rfl).1
     have rf1 := (Lr 1 _ rfl).2
     have r2 := (Lr 2 _ rfl).1
     have rf2 := (Lr 2 _ rfl).2
     have r3 := (Lr 3 _ rfl).1
     have rf3 := (Lr 3 _ rfl).2
     have r4 := (Lr 4 _ rfl).1
     have rf4 := (Lr 4 _ rfl).2
     go_wp2_with fail
     refine bodyPost_ret (v := .tuple #[.agg #[.int .i64 rn, .slice Z1 rcs.length e1, .slice Z2 rpl.length e2, .slice Z3 rds.length e3, .int .i64 rm], .int .i64 (numB rb)]) (by simp [results, Tryz.results11, go_sem, *]) rfl (do_eq HD.out ⟨_, _, _, T, rfl, ?_, ?_, ?_⟩)
     ·exact OZ.out.chg (T := [w.heap.size + 1 + 1]) (by repeat' (with_reducible first | exact Chg.refl _ _ | refine qC ?_)) (fun x hx hx' => DZ.out x hx (by simp at hx' ⊢; omega))
     ·exact fresh_mono FZ.out (by omega) (by simp)
     ·exact Below.chg hb (S := [w.heap.size + 1 + 1]) (by repeat' (with_reducible first | exact Chg.refl _ _ | refine qC ?_)) hb.size (fun x hx => by simp at hx; omega)
  ·skip
   clear a0 a1 a2
   have hzq : W3.heap.size ≤ W4.heap.size := by have := q.size; (try simp at this); omega
   replace Lc := Lc.below q
   replace La := La.below q
   replace Lr := Lr.below q
   replace Lo := Lo.below q
   replace OK := Lib.hid (OK.out.below q)
   replace FK := Lib.hid (fresh_mono (w' := W4) FK.out (Nat.le_refl _) hzq)
   replace hb : Below w.heap.size w W4 := hb.trans (q.mono hb.size)
   clear q
   have o0 := (Lo 0 _ rfl).1
   have o1 := (Lo 1 _ rfl).1
   have o2 := (Lo 2 _ rfl).1
   have o3 := (Lo 3 _ rfl).1
   have o4 := (Lo 4 _ rfl).1
   have r0 := (Lr 0 _ rfl).1
   have rf0 := (Lr 0 _ rfl).2
   have r1 := (Lr 1 _ rfl).1
   have rf1 := (Lr 1 _ rfl).2
   have r2 := (Lr 2 _ rfl).1
   have rf2 := (Lr 2 _ rfl).2
   have r3 := (Lr 3 _ rfl).1
   have rf3 := (Lr 3 _ rfl).2
   have r4 := (Lr 4 _ rfl).1
   have rf4 := (Lr 4 _ rfl).2
   go_wp2_with fail
   refine bodyPost_ret (v := .tuple #[.agg #[.int .i64 n, .slice B1 cs.length k1, .slice B2 pl.length k2, .slice B3 ds.length k3, .int .i64 m], .int .i64 (-1)]) (by simp [results, Tryz.results11, go_sem, *]) rfl (do_eq (do_f (fun hh => absurd (show actB ka aa ba = true from hh.2) (by rw [HA.out]; simp))) ⟨_, _, _, S, rfl, ?_, ?_, ?_⟩)
   ·exact OK.out.chg (T := [w.heap.size + 1 + 1]) (by repeat' (with_reducible first | exact Chg.refl _ _ | refine qC ?_)) (fun x hx hx' => DK.out x hx (by simp at hx'; subst hx'; simp))
   ·exact fresh_mono FK.out (by omega) (by simp)
   ·exact Below.chg hb (S := [w.heap.size + 1 + 1]) (by repeat' (with_reducible first | exact Chg.refl _ _ | refine qC ?_)) hb.size (fun x hx => by simp at hx; omega)
 ·skip
  clear c0 c1 c2 c3 c4
  have hzq : W2.heap.size ≤ W3.heap.size := by have := q.size; (try simp at this); omega
  replace Lc := Lc.below q
  replace La := La.below q
  replace Lr := Lr.below q
  replace Lo := Lo.below q
  replace OK := Lib.hid (OK.out.below q)
  replace FK := Lib.hid (fresh_mono (w' := W3) FK.out (Nat.le_refl _) hzq)
  replace hb : Below w.heap.size w W3 := hb.trans (q.mono hb.size)
  clear q
  have o0 := (Lo 0 _ rfl).1
  have o1 := (Lo 1 _ rfl).1
  have o2 := (Lo 2 _ rfl).1
  have o3 := (Lo 3 _ rfl).1
  have o4 := (Lo 4 _ rfl).1
  have r0 := (Lr 0 _ rfl).1
  have rf0 := (Lr 0 _ rfl).2
  have r1 := (Lr 1 _ rfl).1
  have rf1 := (Lr 1 _ rfl).2
  have r2 := (Lr 2 _ rfl).1
  have rf2 := (Lr 2 _ rfl).2
  have r3 := (Lr 3 _ rfl).1
  have rf3 := (Lr 3 _ rfl).2
  have r4 := (Lr 4 _ rfl).1
  have rf4 := (Lr 4 _ rfl).2
  go_wp2_with fail
  refine bodyPost_ret (v := .tuple #[.agg #[.int .i64 n, .slice B1 cs.length k1, .slice B2 pl.length k2, .slice B3 ds.length k3, .int .i64 m], .int .i64 (-1)]) (by simp [results, Tryz.results11, go_sem, *]) rfl (do_eq (do_f (fun hh => absurd (show theatreB n m cs pl ds = true from hh.1) (by rw [hq.out]; simp))) ⟨_, _, _, S, rfl, ?_, ?_, ?_⟩)
  ·exact OK.out.chg (T := [w.heap.size + 1 + 1]) (by repeat' (with_reducible first | exact Chg.refl _ _ | refine qC ?_)) (fun x hx hx' => DK.out x hx (by simp at hx'; subst hx'; simp))
  ·exact fresh_mono FK.out (by omega) (by simp)
  ·exact Below.chg hb (S := [w.heap.size + 1 + 1]) (by repeat' (with_reducible first | exact Chg.refl _ _ | refine qC ?_)) hb.size (fun x hx => by simp at hx; omega)
open Go.RowKit
def runStep (st : Th × List Int) (a : RAct) : Th × List Int := ((doF st.1 a).1, st.2 ++ [(doF st.1 a).2])
def runFrom (t : Th) (acts : List RAct) : Th × List Int := acts.foldl runStep (t, [])
def actsF (t : Th) (acts : List RAct) : Th × List Int := if t.ok = true ∧ acts.length ≤ 40 then runFrom t acts else (t, [])
theorem actsF_t {t : Th} {acts : List RAct} (h1 : t.ok = true) (h2 : acts.length ≤ 40) : actsF t acts = runFrom t acts := if_pos ⟨h1, h2⟩
theorem actsF_f {t : Th} {acts : List RAct} (h : ¬ (t.ok = true ∧ acts.length ≤ 40)) : actsF t acts = (t, []) := if_neg h
theorem runFrom_succ (t : Th) (acts : List RAct) {k : Nat} (h : k < acts.length) : runFrom t (acts.take (k + 1)) = runStep (runFrom t (acts.take k)) acts[k] := foldl_take_succ _ _ acts h
theorem run_sz (t : Th) (acts : List RAct) : ∀ k, k ≤ acts.length → ((runFrom t (acts.take k)).1.sz ≤ t.sz ∨ (runFrom t (acts.take k)).1.sz ≤ 148) ∧ (runFrom t (acts.take k)).2.length = k := by
 intro k
 induction k with
 | zero => intro _; exact ⟨.inl (Nat.le_refl _), rfl⟩
 | succ k ih =>
  intro hk
  obtain ⟨h1, h2⟩ := ih (by omega)
  rw [runFrom_succ t acts (by omega)]
  refine ⟨?_, by unfold runStep; rw [List.length_append, h2]; rfl⟩
  have := do_sz (runFrom t (acts.take k)).1 (acts[k]'(by omega))
  show (doF (runFrom t (acts.take k)).1 (acts[k]'(by omega))).1.sz ≤ t.sz ∨ (doF (runFrom t (acts.take k)).1 (acts[k]'(by omega))).1.sz ≤ 148
  rcases this with h | h
  ·rcases h1 with h1 | h1
   ·exact .inl (by omega)
   ·exact .inr (by omega)
  ·exact .inr h
theorem actsF_sz (t : Th) (acts : List RAct) : ((actsF t acts).1.sz ≤ t.sz ∨ (actsF t acts).1.sz ≤ 148) ∧ (actsF t acts).2.length ≤ 40 := by
 by_cases h : t.ok = true ∧ acts.length ≤ 40
 ·rw [actsF_t h.1 h.2]
  have := run_sz t acts acts.length (Nat.le_refl _)
  rw [List.take_length] at this
  exact ⟨this.1, by have := h.2; omega⟩
 ·rw [actsF_f h]; exact ⟨.inl (Nat.le_refl _), by simp⟩
def RetTI (B : Nat) (n m : Int) (cs : List RCross) (pl : List RPl) (ds ns : List Int) (w : World) (e : Ending) (w' : World) : Prop :=
 ∃ x1 x2 x3 S v SN, e = .returned (.tuple #[.agg #[.int .i64 n, x1, x2, x3, .int .i64 m], v]) ∧ OwTheatre w' S x1 x2 x3 cs pl ds ∧ Fresh B w' S ∧ OwL 3 cInt 1 w' SN v ns ∧ Fresh B w' SN ∧ (∀ b ∈ S, b ∉ SN) ∧ Below w.heap.size w w'
def RetRun (B : Nat) (r : Th × List Int) : World → Ending → World → Prop := RetTI B r.1.n r.1.m r.1.cs r.1.pl r.1.ds r.2
theorem run_eq {B : Nat} {r : Th × List Int} {n m : Int} {cs : List RCross} {pl : List RPl} {ds ns : List Int} {w w' : World} {e : Ending} (h : r = (⟨n, m, cs, pl, ds⟩, ns)) (hr : RetTI B n m cs pl ds ns w e w') : RetRun B r w e w' := by rw [h]; exact hr
structure RunSt (w : World) (B go gr : Nat) (t : Th) (ns : List Int) (x1 x2 x3 v : Value) (W : World) : Prop where
 lo : Loc W go [.int .i64 t.n, x1, x2, x3, .int .i64 t.m]
 lr : Loc W gr [.int .i64 0, .slice none 0 0, .slice none 0 0, .slice none 0 0, .int .i64 0]
 own : ∃ S, OwTheatre W S x1 x2 x3 t.cs t.pl t.ds ∧ Fresh B W S ∧ ∀ b ∈ S, b ≠ go ∧ b ∉ v.ownBlock.toList
 nums : W.ownsRow B 3 1 v ns.length (ns.flatMap cInt)
 ne : go ∉ v.ownBlock.toList
 below : Below w.heap.size w W
 base : (w.heap.size ≤ gr ∧ gr < B) ∧ B ≤ go ∧ go < W.heap.size
section
variable {w W W1 W' : World} {B go gr : Nat} {t t' : Th} {ns : List Int} {x1 x2 x3 z1 z2 z3 v v' : Value}
theorem RunSt.rd (h : RunSt w B go gr t ns x1 x2 x3 v W) : RdTheatre W x1 x2 x3 t.cs t.pl t.ds := by obtain ⟨S, h1, _⟩ := h.own; exact h1.rd
theorem RunSt.keep (h : RunSt w B go gr t ns x1 x2 x3 v W) (hb : Below W.heap.size W W') : RunSt w B go gr t ns x1 x2 x3 v W' := by
 obtain ⟨S, h1, h2, h3⟩ := h.own
 exact ⟨h.lo.below hb, h.lr.below hb, ⟨S, h1.below hb, fresh_mono h2 (Nat.le_refl _) hb.size, h3⟩, own_below h.nums hb, h.ne, bl_trans h.below hb, h.base.1, h.base.2.1, Nat.lt_of_lt_of_le h.base.2.2 hb.size⟩
theorem RunSt.next {T : List Nat} (h : RunSt w B go gr t ns x1 x2 x3 v W) (hb : Below W.heap.size W W') (ho : OwTheatre W' T z1 z2 z3 t'.cs t'.pl t'.ds) (hf : Fresh W.heap.size W' T) :
  RunSt w B go gr t' ns z1 z2 z3 v (((((W'.setCell ⟨go, 0, none⟩ (.int .i64 t'.n)).setCell ⟨go, 1, none⟩ z1).setCell ⟨go, 2, none⟩ z2).setCell ⟨go, 3, none⟩ z3).setCell ⟨go, 4, none⟩ (.int .i64 t'.m)) := by
 have hbs := h.base
 have hch : Chg [go] W' (((((W'.setCell ⟨go, 0, none⟩ (.int .i64 t'.n)).setCell ⟨go, 1, none⟩ z1).setCell ⟨go, 2, none⟩ z2).setCell ⟨go, 3, none⟩ z3).setCell ⟨go, 4, none⟩ (.int .i64 t'.m)) := by repeat' (with_reducible first | exact Chg.refl _ _ | refine qC ?_)
 have h1 := h.keep hb
 have hbw := h.below.size
 refine ⟨((((h1.lo.set (i := 0) (u := .int .i64 t'.n) rfl).set (i := 1) (u := z1) rfl).set (i := 2) (u := z2) rfl).set (i := 3) (u := z3) rfl).set (i := 4) (u := .int .i64 t'.m) rfl, h1.lr.chg hch (by simp; omega),
  ⟨T, ho.chg hch (fun b hm hm' => by have := (hf.2 b hm).1; simp at hm'; omega), fresh_mono hf (by omega) hch.size, fun b hm => ⟨by have := (hf.2 b hm).1; omega, fun hm' => by have := (hf.2 b hm).1; have := (h.nums.lt b (by simpa using hm')).2; omega⟩⟩,
  own_chg h1.nums hch (fun b hm hm' => by simp at hm'; subst hm'; exact h.ne hm), h.ne, Below.chg h1.below hch h1.below.size (by simp; omega), hbs.1, hbs.2.1, Nat.lt_of_lt_of_le h1.base.2.2 hch.size⟩
theorem RunSt.app {k : Int} (h : RunSt w B go gr t ns x1 x2 x3 v W) (hown : W'.ownsRow B 3 1 v' (ns.length + 1) (ns.flatMap cInt ++ [.int .i64 k])) (hgr : W.grownBy W' v.ownBlock) (hat : v'.ownBlock = v.ownBlock ∨ v'.ownBlock = some W.heap.size) :
  RunSt w B go gr t (ns ++ [k]) x1 x2 x3 v' W' := by
 obtain ⟨S, h1, h2, h3⟩ := h.own
 have hbs := h.base
 have hch := Chg.of_grown hgr
 have hv : ∀ b ∈ v'.ownBlock.toList, b ∈ v.ownBlock.toList ∨ b = W.heap.size := fun b hb => by
  rcases hat with e | e
  ·rw [e] at hb; exact .inl hb
  ·rw [e] at hb; simp at hb; exact .inr hb
 have hvB : ∀ b ∈ v.ownBlock.toList, B ≤ b := fun b hb => (h.nums.lt b (by simpa using hb)).1
 refine ⟨h.lo.chg hch h.ne, h.lr.chg hch (fun hm => by have := hvB _ hm; omega), ⟨S, h1.chg hch (fun b hb hb' => (h3 b hb).2 hb'), fresh_mono h2 (Nat.le_refl _) hgr.size, fun b hb => ⟨(h3 b hb).1, fun hm => ?_⟩⟩,
  by rw [List.length_append, List.flatMap_append]; exact hown, fun hm => ?_, Below.chg h.below hch h.below.size (fun b hb => by have := hvB b hb; omega), hbs.1, hbs.2.1, Nat.lt_of_lt_of_le hbs.2.2 hgr.size⟩
 ·rcases hv b hm with e | e
  ·exact (h3 b hb).2 e
  ·have := (h2.2 b hb).2; omega
 ·rcases hv go hm with e | e
  ·exact h.ne e
  ·omega
end
set_option maxHeartbeats 8000000 in
set_option maxRecDepth 100000 in
theorem implRunActs_any (n m : Int) (v1 v2 v3 va : Value) (cs : List RCross) (pl : List RPl) (ds : List Int) (acts : List RAct) (w : World) (h : RdTheatre w v1 v2 v3 cs pl ds) (ha : RdL cAct 3 w va acts) (hsz : szTheatre cs pl ds ≤ 1048576) :
  Calls Tryz.prog 21 #[.agg #[.int .i64 n, v1, v2, v3, .int .i64 m], va] w (RetRun w.heap.size (actsF ⟨n, m, cs, pl, ds⟩ acts) w) := by
 obtain ⟨⟨A1, n1, rfl⟩, ⟨A2, n2, rfl⟩, ⟨A3, n3, rfl⟩⟩ := h.forms
 obtain ⟨Ac, cc, rfl, hac, hacc⟩ := ha.form
 obtain ⟨i0, hi0, hz0', hz1', hz2'⟩ := info_parts infoInt
 go_enter Tryz.func21, Tryz.ntmps21
 go_wp2_with fail
 refine (theatreCopied_any n m _ _ _ cs pl ds _ (h.below (by (repeat' (with_reducible first | exact Below.refl _ _ | assumption | refine qS ?_ _ | refine qA ?_ _ | refine qD ?_ | refine qN ?_ _)))) hsz).mono ?_
 rintro e W1 ⟨x1, x2, x3, S, rfl, ow, f1, q⟩
 obtain ⟨⟨B1, k1, rfl⟩, ⟨B2, k2, rfl⟩, ⟨B3, k3, rfl⟩⟩ := ow.rd.forms
 have Lc : Loc W1 (w.heap.size) [.int .i64 n, .slice A1 cs.length n1, .slice A2 pl.length n2, .slice A3 ds.length n3, .int .i64 m] := by have := ((Loc.new w #[.int .i64 n, .slice A1 cs.length n1, .slice A2 pl.length n2, .slice A3 ds.length n3, .int .i64 m] 37).alloc _).below q; simpa using this
 have Lr : Loc W1 (w.heap.size + 1) [.int .i64 0, .slice none 0 0, .slice none 0 0, .slice none 0 0, .int .i64 0] := by have := (Loc.new (w.alloc (.cells #[.int .i64 n, .slice A1 cs.length n1, .slice A2 pl.length n2, .slice A3 ds.length n3, .int .i64 m] 37)) #[.int .i64 0, .slice none 0 0, .slice none 0 0, .slice none 0 0, .int .i64 0] 37).below q; simpa using this
 have hb : Below w.heap.size w W1 := Below.trans (by (repeat' (with_reducible first | exact Below.refl _ _ | assumption | refine qS ?_ _ | refine qA ?_ _ | refine qD ?_ | refine qN ?_ _))) (q.mono (by simp <;> omega))
 have hz0 : w.heap.size + 1 + 1 ≤ W1.heap.size := by have := q.size; simp at this; omega
 have hlow : w.heap.size + 1 + 1 ≤ (((w.alloc (.cells #[.int .i64 n, .slice A1 cs.length n1, .slice A2 pl.length n2, .slice A3 ds.length n3, .int .i64 m] 37)).alloc (.cells #[.int .i64 0, .slice none 0 0, .slice none 0 0, .slice none 0 0, .int .i64 0] 37))).heap.size := by first | exact Nat.le_refl _ | (simp; done) | (simp; omega) | omega
 have FK := Lib.hid (fresh_mono f1 hlow (Nat.le_refl _))
 have DK : Hid (∀ x ∈ S, x ∉ [w.heap.size, w.heap.size + 1]) := (fun x hx => by have := (FK.out.2 x hx).1; simp; omega)
 have OK := Lib.hid ow
 clear ow f1 hlow
 clear q
 go_upto_region 2 with (fail)
 replace Lc : Loc (W1.alloc (.cells #[.int .i64 n, .slice B1 cs.length k1, .slice B2 pl.length k2, .slice B3 ds.length k3, .int .i64 m] 37)) (w.heap.size) [.int .i64 n, .slice A1 cs.length n1, .slice A2 pl.length n2, .slice A3 ds.length n3, .int .i64 m] := Lc.alloc _
 replace Lr : Loc (W1.alloc (.cells #[.int .i64 n, .slice B1 cs.length k1, .slice B2 pl.length k2, .slice B3 ds.length k3, .int .i64 m] 37)) (w.heap.size + 1) [.int .i64 0, .slice none 0 0, .slice none 0 0, .slice none 0 0, .int .i64 0] := Lr.alloc _
 obtain ⟨go, hgo⟩ : ∃ g, W1.heap.size = g := ⟨_, rfl⟩
 have Lo : Loc (W1.alloc (.cells #[.int .i64 n, .slice B1 cs.length k1, .slice B2 pl.length k2, .slice B3 ds.length k3, .int .i64 m] 37)) W1.heap.size [.int .i64 n, .slice B1 cs.length k1, .slice B2 pl.length k2, .slice B3 ds.length k3, .int .i64 m] := Loc.new W1 #[.int .i64 n, .slice B1 cs.length k1, .slice B2 pl.length k2, .slice B3 ds.length k3, .int .i64 m] 37
 rw [hgo] at Lo
 replace OK := Lib.hid (OK.out.below (w' := (W1.alloc (.cells #[.int .i64 n, .slice B1 cs.length k1, .slice B2 pl.length k2, .slice B3 ds.length k3, .int .i64 m] 37))) ((Below.refl _ _).alloc (Nat.le_refl _) _))
 replace DK : Hid (∀ x ∈ S, x ∉ [w.heap.size, w.heap.size + 1, go]) := (fun x hx => by have := DK.out x hx; have := (FK.out.2 x hx).2; simp at *; omega)
 replace FK := Lib.hid (fresh_mono (w' := (W1.alloc (.cells #[.int .i64 n, .slice B1 cs.length k1, .slice B2 pl.length k2, .slice B3 ds.length k3, .int .i64 m] 37))) FK.out (Nat.le_refl _) (by simp))
 replace hb : Below w.heap.size w (W1.alloc (.cells #[.int .i64 n, .slice B1 cs.length k1, .slice B2 pl.length k2, .slice B3 ds.length k3, .int .i64 m] 37)) := hb.alloc hb.size _
 have hlto : go < (W1.alloc (.cells #[.int .i64 n, .slice B1 cs.length k1, .slice B2 pl.length k2, .slice B3 ds.length k3, .int .i64 m] 37)).heap.size := by simp; omega
 have hne_c_o : w.heap.size < go := by omega
 have hne_r_o : w.heap.size + 1 < go := by omega
 generalize W1.alloc (.cells #[.int .i64 n, .slice B1 cs.length k1, .slice B2 pl.length k2, .slice B3 ds.length k3, .int .i64 m] 37) = W2 at *
 rw [hgo]
 clear hgo
 have c0 := (Lc 0 _ rfl).1
 have c1 := (Lc 1 _ rfl).1
 have c2 := (Lc 2 _ rfl).1
 have c3 := (Lc 3 _ rfl).1
 have c4 := (Lc 4 _ rfl).1
 go_wp2_with fail
 refine twoB (implTheatreOk_any n m _ _ _ cs pl ds _ (h.below hb)) (fun W3 hq q => ?_) (fun W3 hq q => ?_)
 ·skip
  clear c0 c1 c2 c3 c4
  have hzq : W2.heap.size ≤ W3.heap.size := by have := q.size; (try simp at this); omega
  replace Lc := Lc.below q
  replace Lr := Lr.below q
  replace Lo := Lo.below q
  replace OK := Lib.hid (OK.out.below q)
  replace FK := Lib.hid (fresh_mono (w' := W3) FK.out (Nat.le_refl _) hzq)
  replace hb : Below w.heap.size w W3 := hb.trans (q.mono hb.size)
  clear q
  by_cases hl40 : 40 < acts.length
  ·skip
   have hd40 : decide ((40 : Int) < (acts.length : Int)) = true := decide_eq_true (by omega)
   have o0 := (Lo 0 _ rfl).1
   have o1 := (Lo 1 _ rfl).1
   have o2 := (Lo 2 _ rfl).1
   have o3 := (Lo 3 _ rfl).1
   have o4 := (Lo 4 _ rfl).1
   have r0 := (Lr 0 _ rfl).1
   have rf0 := (Lr 0 _ rfl).2
   have r1 := (Lr 1 _ rfl).1
   have rf1 := (Lr 1 _ rfl).2
   have r2 := (Lr 2 _ rfl).1
   have rf2 := (Lr 2 _ rfl).2
   have r3 := (Lr 3 _ rfl).1
   have rf3 := (Lr 3 _ rfl).2
   have r4 := (Lr 4 _ rfl).1
   have rf4 := (Lr 4 _ rfl).2
   go_wp2_with fail
   refine bodyPost_ret (v := .tuple #[.agg #[.int .i64 n, .slice B1 cs.length k1, .slice B2 pl.length k2, .slice B3 ds.length k3, .int .i64 m], .slice none 0 0]) (by simp [results, Tryz.results21, go_sem, *]) rfl (run_eq (actsF_f (fun hh => by have := hh.2; omega)) ⟨_, _, _, S, _, [], rfl, ?_, ?_, ⟨World.ownsRow_nil _ _ _ _, rfl⟩, ⟨by simp, by simp⟩, by simp, ?_⟩)
   ·exact OK.out.chg (T := [w.heap.size + 1]) (by repeat' (with_reducible first | exact Chg.refl _ _ | refine qC ?_)) (fun x hx hx' => DK.out x hx (by simp at hx'; subst hx'; simp))
   ·exact fresh_mono FK.out (by omega) (by simp)
   ·exact Below.chg hb (S := [w.heap.size + 1]) (by repeat' (with_reducible first | exact Chg.refl _ _ | refine qC ?_)) hb.size (fun x hx => by simp at hx; omega)
  ·skip
   have hd40 : decide ((40 : Int) < (acts.length : Int)) = false := decide_eq_false (by omega)
   have HQ := hq
   have hrb := ha.below hb
   have hst0 : RunSt w (w.heap.size + 1 + 1) go (w.heap.size + 1) ⟨n, m, cs, pl, ds⟩ [] (.slice B1 cs.length k1) (.slice B2 pl.length k2) (.slice B3 ds.length k3) (.slice (some ⟨W3.heap.size, 0, none⟩) 0 0) (W3.alloc (.cells #[] 3)) := by
    have hal : Below W3.heap.size W3 (W3.alloc (.cells #[] 3)) := (Below.refl _ _).alloc (Nat.le_refl _) _
    exact ⟨Lo.below hal, Lr.below hal, ⟨S, OK.out.below hal, fresh_mono FK.out (Nat.le_refl _) hal.size, fun b hb' => ⟨fun e => DK.out b hb' (by subst e; simp), fun hm => by have := (FK.out.2 b hb').2; simp [Value.ownBlock] at hm; omega⟩⟩, World.ownsRow_made (size := 1) (e := 3) W3 #[] 0 (by omega) (by simp [maxLen]) rfl, by simp [Value.ownBlock]; omega, bl_trans hb hal, ⟨by omega, by omega⟩, by omega, by have := hal.size; omega⟩
   clear Lc Lr Lo OK FK DK
   go_wp2_with fail
   go_loopw [7, 26] (fun q i wr => ∃ (k : Nat) (t1 : Th) (ns : List Int) (Y1 : Option Addr) (y1 : Nat) (Y2 : Option Addr) (y2 : Nat) (Y3 : Option Addr) (y3 : Nat) (v : Value), k ≤ acts.length ∧ i = .int .i64 k ∧ Hid (runFrom ⟨n, m, cs, pl, ds⟩ (acts.take k) = (t1, ns)) ∧ RunSt w (w.heap.size + 1 + 1) go (w.heap.size + 1) t1 ns (.slice Y1 t1.cs.length y1) (.slice Y2 t1.pl.length y2) (.slice Y3 t1.ds.length y3) v wr ∧ q = v) (fun _ i _ => acts.length - (intOf i).toNat)
   case atStart => exact ⟨0, ⟨n, m, cs, pl, ds⟩, [], _, _, _, _, _, _, _, Nat.zero_le _, rfl, rfl, hst0, rfl⟩
   case round =>
    obtain ⟨k, t1, ns, Y1, y1, Y2, y2, Y3, y3, v, hk, rfl, hrf, hst, rfl⟩ := hrel
    clear hst0
    obtain ⟨Av, cv, rfl, _, _⟩ := (RdS.of_own hst.nums).form
    have HZ : Hid ((szTheatre t1.cs t1.pl t1.ds ≤ szTheatre cs pl ds ∨ szTheatre t1.cs t1.pl t1.ds ≤ 148) ∧ ns.length = k) := by have := run_sz ⟨n, m, cs, pl, ds⟩ acts k hk; rw [hrf.out] at this; exact this
    have hnk : ns.length = k := HZ.out.2
    have hns40 : ns.length ≤ 40 := by omega
    clear hnk
    by_cases hlt : k < acts.length
    ·skip
     obtain ⟨g, off, rfl, hg, hcell⟩ := (ha.below hst.below).cell cAct_len (by omega) hlt
     have a0 := hcell 0 _ rfl
     have a1 := hcell 1 _ rfl
     have a2 := hcell 2 _ rfl
     simp only [Nat.add_zero] at a0 a1 a2
     clear hcell
     have HSU := Lib.hid (runFrom_succ ⟨n, m, cs, pl, ds⟩ acts hlt)
     obtain ⟨⟨ka, aa, ba⟩, hact⟩ : ∃ a, acts[k] = a := ⟨_, rfl⟩
     rw [hact] at a0 a1 a2
     have HACT := Lib.hid hact
     clear hact
     obtain ⟨n1', m1', cs1, pl1, ds1⟩ := t1
     obtain ⟨⟨⟨rn, rm, rcs, rpl, rds⟩, rk⟩, hres⟩ : ∃ r, doF ⟨n1', m1', cs1, pl1, ds1⟩ (ka, aa, ba) = r := ⟨_, rfl⟩
     have hX : Hid (∀ W, RdTheatre W (.slice Y1 cs1.length y1) (.slice Y2 pl1.length y2) (.slice Y3 ds1.length y3) cs1 pl1 ds1 → Calls Tryz.prog 14 #[.agg #[.int .i64 n1', .slice Y1 cs1.length y1, .slice Y2 pl1.length y2, .slice Y3 ds1.length y3, .int .i64 m1'], .agg #[.int .i64 ka, .int .i64 aa, .int .i64 ba]] W (RetTN W.heap.size rn rm rk rcs rpl rds W)) := fun W hr => by
      have := implDoAct_any n1' m1' ka aa ba _ _ _ cs1 pl1 ds1 W hr (by have h1 := HZ.out.1; simp only at h1; omega)
      rw [hres] at this
      exact this
     have HN : Hid (runFrom ⟨n, m, cs, pl, ds⟩ (acts.take (k + 1)) = (⟨rn, rm, rcs, rpl, rds⟩, ns ++ [rk])) := by show _ = _; rw [HSU.out, hrf.out, HACT.out]; unfold runStep; rw [hres]
     clear hres
     go_upto_region 8 with (fail)
     have halA : Below wr.heap.size wr (wr.alloc (.cells #[.int .i64 ka, .int .i64 aa, .int .i64 ba] 41)) := (Below.refl _ _).alloc (Nat.le_refl _) _
     have hstA := hst.keep halA
     have La : Loc (wr.alloc (.cells #[.int .i64 ka, .int .i64 aa, .int .i64 ba] 41)) wr.heap.size [.int .i64 ka, .int .i64 aa, .int .i64 ba] := Loc.new wr #[.int .i64 ka, .int .i64 aa, .int .i64 ba] 41
     obtain ⟨ga, hga⟩ : ∃ g, wr.heap.size = g := ⟨_, rfl⟩
     rw [hga] at La
     clear a0 a1 a2 hst
     generalize wr.alloc (.cells #[.int .i64 ka, .int .i64 aa, .int .i64 ba] 41) = wa at *
     (try rw [hga])
     clear halA hga
     have o0 := (hstA.lo 0 _ rfl).1
     have o1 := (hstA.lo 1 _ rfl).1
     have o2 := (hstA.lo 2 _ rfl).1
     have o3 := (hstA.lo 3 _ rfl).1
     have o4 := (hstA.lo 4 _ rfl).1
     have a0 := (La 0 _ rfl).1
     have a1 := (La 1 _ rfl).1
     have a2 := (La 2 _ rfl).1
     simp only at o0 o1 o2 o3 o4
     go_wp2_with fail
     refine (hX.out _ hstA.rd).mono ?_
     rintro e w5 ⟨z1, z2, z3, T, rfl, owr, fr, q⟩
     obtain ⟨⟨Z1, e1, rfl⟩, ⟨Z2, e2, rfl⟩, ⟨Z3, e3, rfl⟩⟩ := owr.rd.forms
     clear o0 o1 o2 o3 o4 a0 a1 a2
     go_upto_region 9 with (fail)
     have halB : Below w5.heap.size w5 (w5.alloc (.cells #[.int .i64 rn, .slice Z1 rcs.length e1, .slice Z2 rpl.length e2, .slice Z3 rds.length e3, .int .i64 rm] 37)) := (Below.refl _ _).alloc (Nat.le_refl _) _
     have Lb : Loc (w5.alloc (.cells #[.int .i64 rn, .slice Z1 rcs.length e1, .slice Z2 rpl.length e2, .slice Z3 rds.length e3, .int .i64 rm] 37)) w5.heap.size [.int .i64 rn, .slice Z1 rcs.length e1, .slice Z2 rpl.length e2, .slice Z3 rds.length e3, .int .i64 rm] := Loc.new w5 #[.int .i64 rn, .slice Z1 rcs.length e1, .slice Z2 rpl.length e2, .slice Z3 rds.length e3, .int .i64 rm] 37
     have q2 := bl_trans q halB
     have owr2 := owr.below halB
     have fr2 := fresh_mono fr (Nat.le_refl _) halB.size
     obtain ⟨gb, hgb⟩ : ∃ g, w5.heap.size = g := ⟨_, rfl⟩
     rw [hgb] at Lb
     generalize w5.alloc (.cells #[.int .i64 rn, .slice Z1 rcs.length e1, .slice Z2 rpl.length e2, .slice Z3 rds.length e3, .int .i64 rm] 37) = wb at *
     (try rw [hgb])
     clear q owr fr halB hgb
     have lo2 := hstA.lo.below q2
     have o0 := (lo2 0 _ rfl).1
     have o1 := (lo2 1 _ rfl).1
     have o2 := (lo2 2 _ rfl).1
     have o3 := (lo2 3 _ rfl).1
     have o4 := (lo2 4 _ rfl).1
     have f0 := (lo2 0 _ rfl).2
     have f1 := (lo2 1 _ rfl).2
     have f2 := (lo2 2 _ rfl).2
     have f3 := (lo2 3 _ rfl).2
     have f4 := (lo2 4 _ rfl).2
     have b0 := (Lb 0 _ rfl).1
     have b1 := (Lb 1 _ rfl).1
     have b2 := (Lb 2 _ rfl).1
     have b3 := (Lb 3 _ rfl).1
     have b4 := (Lb 4 _ rfl).1
     simp only at o0 o1 o2 o3 o4
     have HST9 := Lib.hid (hstA.next (t' := ⟨rn, rm, rcs, rpl, rds⟩) q2 owr2 fr2)
     clear owr2 fr2
     go_upto_region 10 with (fail)
     have hst9 := HST9.out
     simp only at hst9
     clear lo2 o0 o1 o2 o3 o4 f0 f1 f2 f3 f4 b0 b1 b2 b3 b4 HST9 hstA Lb La q2
     generalize ((((wb.setCell ⟨go, 0, none⟩ (.int .i64 rn)).setCell ⟨go, 1, none⟩ (.slice Z1 rcs.length e1)).setCell ⟨go, 2, none⟩ (.slice Z2 rpl.length e2)).setCell ⟨go, 3, none⟩ (.slice Z3 rds.length e3)).setCell ⟨go, 4, none⟩ (.int .i64 rm) = w9 at *
     have hn9 := hst9.nums
     have hz9 := hst9.below.size
     go_wp2_with (at_builtin; go_must (refine wpList_appendB _ rfl (.tmp 37) (.tmp 39) _ rfl (w.heap.size + 1 + 1) 3 i0 _ 1 8 Tryz.underlying26 hi0 hz0' hz1' hz2' rfl (by omega) _ ns.length (ns.flatMap cInt) rfl (hn9.alloc _) _ 1 [.int .i64 rk] rfl (rdS_new w9 #[.int .i64 rk] _ 1 1 rfl (by simp [maxLen])) (by simp [Value.oneCell']) (by simp [maxLen]; omega) (by omega) (by have := hst9.base; simp; omega) ?_); intro v3 w3 own3 gr3 at3; obtain ⟨A3, c3, rfl, _, _⟩ := (RdS.of_own own3).form)
     have hstN := (hst9.keep ((Below.refl _ _).alloc (Nat.le_refl _) (.cells #[.int .i64 rk] 3))).app (k := rk) own3 gr3 at3
     go_wp2_with fail
     go_roundw
     case rel => exact ⟨k + 1, ⟨rn, rm, rcs, rpl, rds⟩, ns ++ [rk], _, _, _, _, _, _, _, by omega, by go_num, HN.out, hstN, rfl⟩
     case measure => simp [intOf]; omega
    ·skip
     obtain rfl : k = acts.length := by omega
     have HF : Hid (actsF ⟨n, m, cs, pl, ds⟩ acts = (t1, ns)) := by show _ = _; rw [actsF_t (t := ⟨n, m, cs, pl, ds⟩) HQ.out (by omega), ← hrf.out, List.take_length]
     obtain ⟨n1', m1', cs1, pl1, ds1⟩ := t1
     have o0 := (hst.lo 0 _ rfl).1
     have o1 := (hst.lo 1 _ rfl).1
     have o2 := (hst.lo 2 _ rfl).1
     have o3 := (hst.lo 3 _ rfl).1
     have o4 := (hst.lo 4 _ rfl).1
     have r0 := (hst.lr 0 _ rfl).1
     have r1 := (hst.lr 1 _ rfl).1
     have r2 := (hst.lr 2 _ rfl).1
     have r3 := (hst.lr 3 _ rfl).1
     have r4 := (hst.lr 4 _ rfl).1
     have rf0 := (hst.lr 0 _ rfl).2
     have rf1 := (hst.lr 1 _ rfl).2
     have rf2 := (hst.lr 2 _ rfl).2
     have rf3 := (hst.lr 3 _ rfl).2
     have rf4 := (hst.lr 4 _ rfl).2
     have hbs := hst.base
     obtain ⟨S9, ow9, fr9, dj9⟩ := hst.own
     have hnums := hst.nums
     have hbel := hst.below
     have OW := Lib.hid ow9
     have FR := Lib.hid fr9
     have DJ := Lib.hid dj9
     have HNU := Lib.hid hnums
     have hnv : ∀ b ∈ (Value.slice Av ns.length cv).ownBlock.toList, w.heap.size + 1 + 1 ≤ b ∧ b < wr.heap.size := fun b hb => hnums.lt b (by simpa using hb)
     have HNV := Lib.hid hnv
     clear ow9 fr9 dj9 hnums hnv hst HZ hrf
     simp only at o0 o1 o2 o3 o4
     go_wp2_with fail
     have hch : Chg [w.heap.size + 1] wr (((((wr.setCell ⟨w.heap.size + 1, 0, none⟩ (.int .i64 n1')).setCell ⟨w.heap.size + 1, 1, none⟩ (.slice Y1 cs1.length y1)).setCell ⟨w.heap.size + 1, 2, none⟩ (.slice Y2 pl1.length y2)).setCell ⟨w.heap.size + 1, 3, none⟩ (.slice Y3 ds1.length y3)).setCell ⟨w.heap.size + 1, 4, none⟩ (.int .i64 m1')) := by repeat' (with_reducible first | exact Chg.refl _ _ | refine qC ?_)
     refine bodyPost_ret (v := .tuple #[.agg #[.int .i64 n1', .slice Y1 cs1.length y1, .slice Y2 pl1.length y2, .slice Y3 ds1.length y3, .int .i64 m1'], .slice Av ns.length cv]) (by simp [results, Tryz.results21, go_sem, *]) rfl (run_eq HF.out ⟨_, _, _, S9, _, _, rfl, OW.out.chg hch (fun b hb hb' => by have := (FR.out.2 b hb).1; simp at hb'; omega), fresh_mono FR.out (by omega) hch.size, ⟨own_mono (own_chg HNU.out hch (fun b hb hb' => by have := HNV.out b hb; simp at hb'; omega)) (Nat.zero_le _), rfl⟩, ⟨by cases Av <;> simp [Value.ownBlock], fun b hb => by have := HNV.out b hb; have := hch.size; omega⟩, fun b hb => (DJ.out b hb).2, Below.chg hbel hch hbel.size (by simp)⟩)
 ·skip
  clear c0 c1 c2 c3 c4
  have hzq : W2.heap.size ≤ W3.heap.size := by have := q.size; (try simp at this); omega
  replace Lc := Lc.below q
  replace Lr := Lr.below q
  replace Lo := Lo.below q
  replace OK := Lib.hid (OK.out.below q)
  replace FK := Lib.hid (fresh_mono (w' := W3) FK.out (Nat.le_refl _) hzq)
  replace hb : Below w.heap.size w W3 := hb.trans (q.mono hb.size)
  clear q
  have o0 := (Lo 0 _ rfl).1
  have o1 := (Lo 1 _ rfl).1
  have o2 := (Lo 2 _ rfl).1
  have o3 := (Lo 3 _ rfl).1
  have o4 := (Lo 4 _ rfl).1
  have r0 := (Lr 0 _ rfl).1
  have rf0 := (Lr 0 _ rfl).2
  have r1 := (Lr 1 _ rfl).1
  have rf1 := (Lr 1 _ rfl).2
  have r2 := (Lr 2 _ rfl).1
  have rf2 := (Lr 2 _ rfl).2
  have r3 := (Lr 3 _ rfl).1
  have rf3 := (Lr 3 _ rfl).2
  have r4 := (Lr 4 _ rfl).1
  have rf4 := (Lr 4 _ rfl).2
  go_wp2_with fail
  refine bodyPost_ret (v := .tuple #[.agg #[.int .i64 n, .slice B1 cs.length k1, .slice B2 pl.length k2, .slice B3 ds.length k3, .int .i64 m], .slice none 0 0]) (by simp [results, Tryz.results21, go_sem, *]) rfl (run_eq (actsF_f (fun hh => absurd (show theatreB n m cs pl ds = true from hh.1) (by rw [hq.out]; simp))) ⟨_, _, _, S, _, [], rfl, ?_, ?_, ⟨World.ownsRow_nil _ _ _ _, rfl⟩, ⟨by simp, by simp⟩, by simp, ?_⟩)
  ·exact OK.out.chg (T := [w.heap.size + 1]) (by repeat' (with_reducible first | exact Chg.refl _ _ | refine qC ?_)) (fun x hx hx' => DK.out x hx (by simp at hx'; subst hx'; simp))
  ·exact fresh_mono FK.out (by omega) (by simp)
  ·exact Below.chg hb (S := [w.heap.size + 1]) (by repeat' (with_reducible first | exact Chg.refl _ _ | refine qC ?_)) hb.size (fun x hx => by simp at hx; omega)
end Go.Proofs.YtlhdeojkpmpecaaGreat
