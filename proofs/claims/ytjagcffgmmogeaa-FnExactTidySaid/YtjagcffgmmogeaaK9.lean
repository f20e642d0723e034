/- Contracts: Tidy. Written by a program (gen_k8.py). -/
import Derived.Test.YtjagcffgmmogeaaK8
namespace Go.Proofs.Ytjagcffgmmogeaa
open Go.RowKit
def tidyC (n : Int) (cs : List RCross) (pl : List RPl) : List RCross := if companyB n cs pl = true then redL n cs else cs
theorem tidy_f {n : Int} {cs : List RCross} {pl : List RPl} {w w' : World} {e : Ending} (h : companyB n cs pl = false) (hr : ToCompany n cs pl w e w') : ToCompany n (tidyC n cs pl) pl w e w' := by rw [tidyC, h]; exact hr
theorem tidy_t {n : Int} {cs : List RCross} {pl : List RPl} {w w' : World} {e : Ending} (h : companyB n cs pl = true) (hr : ToCompany n (redL n cs) pl w e w') : ToCompany n (tidyC n cs pl) pl w e w' := by rw [tidyC, h]; exact hr
theorem redL_len (n : Int) (cs : List RCross) : (redL n cs).length ≤ cs.length := by
  unfold redL; split
  · exact redF_all cs
  · simp
theorem tidy_sz (n : Int) (cs : List RCross) (pl : List RPl) : szCompany (tidyC n cs pl) pl ≤ szCompany cs pl := by
  unfold tidyC szCompany
  have := redL_len n cs
  split <;> omega
set_option maxHeartbeats 8000000 in
set_option maxRecDepth 100000 in
theorem implTidy_any (n : Int) (v1 v2 : Value) (cs : List RCross) (pl : List RPl) (w : World) (h : RdCompany w v1 v2 cs pl) (hsz : szCompany cs pl ≤ 1048576) :
    Calls Try.prog 25 #[.agg #[.int .i64 n, v1, v2]] w (ToCompany n (tidyC n cs pl) pl w) := by
  obtain ⟨⟨A1, n1, rfl⟩, ⟨A2, n2, rfl⟩⟩ := h.forms
  go_enter Try.func25, Try.ntmps25
  have hcl : cs.length ≤ 1048576 := by unfold szCompany at hsz; omega
  go_wp2_with fail
  refine (companyCopied_any n _ _ cs pl _ (h.below (by (repeat' (first | (with_reducible exact Below.refl _ _) | (with_reducible assumption) | (with_reducible refine Below.setCell ?_ (by first | omega | (simp; omega) | (simp; done)) _) | (with_reducible refine Below.alloc ?_ (by first | omega | (simp; omega) | (simp; done)) _) | (with_reducible refine Below.drew ?_) | (with_reducible refine below_drewN ?_ _))))) hsz).mono ?_
  rintro e W1 ⟨x1, x2, S, rfl, ow, f1, q⟩
  obtain ⟨⟨B1, k1, rfl⟩, ⟨B2, k2, rfl⟩⟩ := ow.rd.forms
  have Lc : Loc W1 (w.heap.size) [.int .i64 n, .slice A1 cs.length n1, .slice A2 pl.length n2] := by have := ((Loc.new w #[.int .i64 n, .slice A1 cs.length n1, .slice A2 pl.length n2] 30).alloc _).below q; simpa using this
  have Lr : Loc W1 (w.heap.size + 1) [.int .i64 0, .slice none 0 0, .slice none 0 0] := by have := (Loc.new (w.alloc (.cells #[.int .i64 n, .slice A1 cs.length n1, .slice A2 pl.length n2] 30)) #[.int .i64 0, .slice none 0 0, .slice none 0 0] 30).below q; simpa using this
  have hb : Below w.heap.size w W1 := Below.trans (by (repeat' (first | (with_reducible exact Below.refl _ _) | (with_reducible assumption) | (with_reducible refine Below.setCell ?_ (by first | omega | (simp; omega) | (simp; done)) _) | (with_reducible refine Below.alloc ?_ (by first | omega | (simp; omega) | (simp; done)) _) | (with_reducible refine Below.drew ?_) | (with_reducible refine below_drewN ?_ _)))) (q.mono (by simp <;> omega))
  have hz0 : w.heap.size + 1 + 1 ≤ W1.heap.size := by have := q.size; simp at this; omega
  have hlow : w.heap.size + 1 + 1 ≤ (((w.alloc (.cells #[.int .i64 n, .slice A1 cs.length n1, .slice A2 pl.length n2] 30)).alloc (.cells #[.int .i64 0, .slice none 0 0, .slice none 0 0] 30))).heap.size := by first | exact Nat.le_refl _ | (simp; done) | (simp; omega) | omega
  have FK := Lib.hid (fresh_mono f1 hlow (Nat.le_refl _))
  have DK : Hid (∀ x ∈ S, x ∉ [w.heap.size, w.heap.size + 1]) := (fun x hx => by have := (FK.out.2 x hx).1; simp; omega)
  have OK := Lib.hid ow
  clear ow f1 hlow
  clear q
  go_upto_region 2 with (fail)
  replace Lc : Loc (W1.alloc (.cells #[.int .i64 n, .slice B1 cs.length k1, .slice B2 pl.length k2] 30)) (w.heap.size) [.int .i64 n, .slice A1 cs.length n1, .slice A2 pl.length n2] := Lc.alloc _
  replace Lr : Loc (W1.alloc (.cells #[.int .i64 n, .slice B1 cs.length k1, .slice B2 pl.length k2] 30)) (w.heap.size + 1) [.int .i64 0, .slice none 0 0, .slice none 0 0] := Lr.alloc _
  obtain ⟨go, hgo⟩ : ∃ g, W1.heap.size = g := ⟨_, rfl⟩
  have Lo : Loc (W1.alloc (.cells #[.int .i64 n, .slice B1 cs.length k1, .slice B2 pl.length k2] 30)) W1.heap.size [.int .i64 n, .slice B1 cs.length k1, .slice B2 pl.length k2] := Loc.new W1 #[.int .i64 n, .slice B1 cs.length k1, .slice B2 pl.length k2] 30
  rw [hgo] at Lo
  have OK' := Lib.hid (OK.out.below (w' := (W1.alloc (.cells #[.int .i64 n, .slice B1 cs.length k1, .slice B2 pl.length k2] 30))) ((Below.refl _ _).alloc (Nat.le_refl _) _))
  clear OK; have OK := OK'; clear OK'
  have DK' : Hid (∀ x ∈ S, x ∉ [w.heap.size, w.heap.size + 1, go]) := (fun x hx => by have := DK.out x hx; have := (FK.out.2 x hx).2; simp at *; omega)
  clear DK; have DK := DK'; clear DK'
  have FK' := Lib.hid (fresh_mono (w' := (W1.alloc (.cells #[.int .i64 n, .slice B1 cs.length k1, .slice B2 pl.length k2] 30))) FK.out (Nat.le_refl _) (by simp))
  clear FK; have FK := FK'; clear FK'
  replace hb : Below w.heap.size w (W1.alloc (.cells #[.int .i64 n, .slice B1 cs.length k1, .slice B2 pl.length k2] 30)) := hb.alloc hb.size _
  have hlto : go < (W1.alloc (.cells #[.int .i64 n, .slice B1 cs.length k1, .slice B2 pl.length k2] 30)).heap.size := by simp; omega
  have hne_c_o : w.heap.size < go := by omega
  have hne_r_o : w.heap.size + 1 < go := by omega
  generalize W1.alloc (.cells #[.int .i64 n, .slice B1 cs.length k1, .slice B2 pl.length k2] 30) = W2 at *
  rw [hgo]
  clear hgo
  have c0 := (Lc 0 _ rfl).1
  have c1 := (Lc 1 _ rfl).1
  have c2 := (Lc 2 _ rfl).1
  go_wp2_with fail
  refine twoB (implCompanyOk_any n _ _ cs pl _ (h.below hb)) (fun W3 hq q => ?_) (fun W3 hq q => ?_)
  · skip
    clear c0 c1 c2
    have hzq : W2.heap.size ≤ W3.heap.size := by have := q.size; (try simp at this); omega
    replace Lc := Lc.below q
    replace Lr := Lr.below q
    replace Lo := Lo.below q
    have OK' := Lib.hid (OK.out.below q)
    clear OK; have OK := OK'; clear OK'
    have FK' := Lib.hid (fresh_mono (w' := W3) FK.out (Nat.le_refl _) hzq)
    clear FK; have FK := FK'; clear FK'
    replace hb : Below w.heap.size w W3 := hb.trans (q.mono hb.size)
    clear q
    obtain ⟨SK1, SK2, eK, oK, pK⟩ := OK.out
    have FKx := FK.out
    have DKx := DK.out
    rw [eK] at FKx DKx
    have OK1 := Lib.hid oK
    have OK2 := Lib.hid pK
    have FK1 := Lib.hid (fresh_left FKx)
    have FK2 := Lib.hid (fresh_right FKx)
    have DK1 : Hid (∀ x ∈ SK1, x ∉ [w.heap.size, w.heap.size + 1, go]) := (fun x hx => DKx x (List.mem_append_left _ hx))
    have DK2 : Hid (∀ x ∈ SK2, x ∉ [w.heap.size, w.heap.size + 1, go]) := (fun x hx => DKx x (List.mem_append_right _ hx))
    have JK : Hid (∀ x ∈ SK1, x ∉ SK2) := (nodup2 FKx.1).2.2.1
    clear OK FK DK FKx DKx oK pK
    have hU : ∀ x ∈ SK2, x < W3.heap.size := fun x hx => (FK2.out.2 x hx).2
    have c0 := (Lc 0 _ rfl).1
    have c1 := (Lc 1 _ rfl).1
    have c2 := (Lc 2 _ rfl).1
    go_wp2_with fail
    refine (implReduced_any n _ cs _ ((h.below hb).1) hcl).mono ?_
    rintro e W4 ⟨x, rfl, own, q⟩
    clear c0 c1 c2
    obtain ⟨B3, k3, rfl, _, _⟩ := (RdS.of_own own).form
    have f3 := fresh_of own
    have o3 : OwL 83 cCross 2 W4 _ (.slice B3 (redL n cs).length k3) (redL n cs) := OwL.mk_ own
    obtain ⟨SN, hSN⟩ : ∃ T, (Value.slice B3 (redL n cs).length k3).ownBlock.toList = T := ⟨_, rfl⟩
    rw [hSN] at o3 f3
    clear hSN own
    have hzq : W3.heap.size ≤ W4.heap.size := by have := q.size; (try simp at this); omega
    replace Lc := Lc.below q
    replace Lr := Lr.below q
    replace Lo := Lo.below q
    have OK1' := Lib.hid (OK1.out.below q)
    clear OK1; have OK1 := OK1'; clear OK1'
    have FK1' := Lib.hid (fresh_mono (w' := W4) FK1.out (Nat.le_refl _) hzq)
    clear FK1; have FK1 := FK1'; clear FK1'
    have OK2' := Lib.hid (OK2.out.below q)
    clear OK2; have OK2 := OK2'; clear OK2'
    have FK2' := Lib.hid (fresh_mono (w' := W4) FK2.out (Nat.le_refl _) hzq)
    clear FK2; have FK2 := FK2'; clear FK2'
    replace hb : Below w.heap.size w W4 := hb.trans (q.mono hb.size)
    have hlow : W3.heap.size ≤ W3.heap.size := by first | exact Nat.le_refl _ | (simp; done) | (simp; omega) | omega
    have FN := Lib.hid (fresh_mono f3 hlow (Nat.le_refl _))
    have DN : Hid (∀ x ∈ SN, x ∉ [w.heap.size, w.heap.size + 1, go]) := (fun x hx => by have := (FN.out.2 x hx).1; simp; omega)
    have ON := Lib.hid o3
    clear o3 f3 hlow
    clear q
    have hJ : ∀ x ∈ SN, x ∉ SK2 := fun x hx hx' => by have := (FN.out.2 x hx).1; have := hU x hx'; omega
    have HJ := Lib.hid hJ
    clear hJ hU
    have o1 := (Lo 1 _ rfl).1
    have of1 := (Lo 1 _ rfl).2
    go_upto_region 4 with (fail)
    clear o1 of1
    replace Lc : Loc (W4.setCell ⟨go, 1, none⟩ (.slice B3 (redL n cs).length k3)) (w.heap.size) [.int .i64 n, .slice A1 cs.length n1, .slice A2 pl.length n2] := Lc.far (g := go) (i := 1) (u := .slice B3 (redL n cs).length k3) (by omega)
    replace Lr : Loc (W4.setCell ⟨go, 1, none⟩ (.slice B3 (redL n cs).length k3)) (w.heap.size + 1) [.int .i64 0, .slice none 0 0, .slice none 0 0] := Lr.far (g := go) (i := 1) (u := .slice B3 (redL n cs).length k3) (by omega)
    replace Lo : Loc (W4.setCell ⟨go, 1, none⟩ (.slice B3 (redL n cs).length k3)) (go) [.int .i64 n, .slice B3 (redL n cs).length k3, .slice B2 pl.length k2] := Lo.set (i := 1) (v := .slice B1 cs.length k1) rfl
    have hch : Chg [go] W4 (W4.setCell ⟨go, 1, none⟩ (.slice B3 (redL n cs).length k3)) := chg_set (Chg.refl _ _) (by simp)
    have OK1' := Lib.hid (OK1.out.chg hch (fun x hx hx' => DK1.out x hx (by simp at hx'; subst hx'; simp)))
    clear OK1; have OK1 := OK1'; clear OK1'
    have FK1' := Lib.hid (fresh_mono (w' := (W4.setCell ⟨go, 1, none⟩ (.slice B3 (redL n cs).length k3))) FK1.out (Nat.le_refl _) hch.size)
    clear FK1; have FK1 := FK1'; clear FK1'
    have OK2' := Lib.hid (OK2.out.chg hch (fun x hx hx' => DK2.out x hx (by simp at hx'; subst hx'; simp)))
    clear OK2; have OK2 := OK2'; clear OK2'
    have FK2' := Lib.hid (fresh_mono (w' := (W4.setCell ⟨go, 1, none⟩ (.slice B3 (redL n cs).length k3))) FK2.out (Nat.le_refl _) hch.size)
    clear FK2; have FK2 := FK2'; clear FK2'
    have ON' := Lib.hid (ON.out.chg hch (fun x hx hx' => DN.out x hx (by simp at hx'; subst hx'; simp)))
    clear ON; have ON := ON'; clear ON'
    have FN' := Lib.hid (fresh_mono (w' := (W4.setCell ⟨go, 1, none⟩ (.slice B3 (redL n cs).length k3))) FN.out (Nat.le_refl _) hch.size)
    clear FN; have FN := FN'; clear FN'
    replace hb : Below w.heap.size w (W4.setCell ⟨go, 1, none⟩ (.slice B3 (redL n cs).length k3)) := Below.chg hb hch hb.size (by simp; omega)
    have hzc := hch.size
    clear hch
    generalize W4.setCell ⟨go, 1, none⟩ (.slice B3 (redL n cs).length k3) = W5 at *
    clear OK1 FK1 DK1
    have FK2' := Lib.hid (fresh_mono (B' := w.heap.size + 1 + 1) FK2.out (by omega) (Nat.le_refl _))
    have FN' := Lib.hid (fresh_mono (B' := w.heap.size + 1 + 1) FN.out (by omega) (Nat.le_refl _))
    clear FK2 FN; have FK2 := FK2'; have FN := FN'; clear FK2' FN'
    have OP : OwCompany W5 (SN ++ SK2) (.slice B3 (redL n cs).length k3) (.slice B2 pl.length k2) (redL n cs) pl := ⟨_, _, rfl, ON.out, OK2.out⟩
    have FQ := Lib.hid (fresh_join FN.out FK2.out (HJ.out))
    have DQ : Hid (∀ x ∈ SN ++ SK2, x ∉ [w.heap.size, w.heap.size + 1, go]) := (fun x hx => (List.mem_append.1 hx).elim (DN.out x) (DK2.out x))
    have OQ := Lib.hid (OP)
    clear ON FN DN OK2 FK2 DK2
    obtain ⟨SQ, hSQ⟩ : ∃ T, SN ++ SK2 = T := ⟨_, rfl⟩
    rw [hSQ] at OQ FQ DQ
    clear hSQ
    clear OP
    have o0 := (Lo 0 _ rfl).1
    have o1 := (Lo 1 _ rfl).1
    have o2 := (Lo 2 _ rfl).1
    have r0 := (Lr 0 _ rfl).1
    have rf0 := (Lr 0 _ rfl).2
    have r1 := (Lr 1 _ rfl).1
    have rf1 := (Lr 1 _ rfl).2
    have r2 := (Lr 2 _ rfl).1
    have rf2 := (Lr 2 _ rfl).2
    go_wp2_with fail
    refine bodyPost_ret (v := .agg #[.int .i64 n, .slice B3 (redL n cs).length k3, .slice B2 pl.length k2]) (by simp [results, Try.results25, go_sem, *]) rfl (tidy_t hq.out ⟨_, _, SQ, rfl, ?_, ?_, ?_⟩)
    · exact OQ.out.chg (T := [w.heap.size + 1]) (by repeat' (first | (with_reducible exact Chg.refl _ _) | (with_reducible refine chg_set ?_ (by simp)))) (fun x hx hx' => DQ.out x hx (by simp at hx'; subst hx'; simp))
    · exact fresh_mono FQ.out (by omega) (by simp)
    · exact Below.chg hb (S := [w.heap.size + 1]) (by repeat' (first | (with_reducible exact Chg.refl _ _) | (with_reducible refine chg_set ?_ (by simp)))) hb.size (by simp)
  · skip
    clear c0 c1 c2
    have hzq : W2.heap.size ≤ W3.heap.size := by have := q.size; (try simp at this); omega
    replace Lc := Lc.below q
    replace Lr := Lr.below q
    replace Lo := Lo.below q
    have OK' := Lib.hid (OK.out.below q)
    clear OK; have OK := OK'; clear OK'
    have FK' := Lib.hid (fresh_mono (w' := W3) FK.out (Nat.le_refl _) hzq)
    clear FK; have FK := FK'; clear FK'
    replace hb : Below w.heap.size w W3 := hb.trans (q.mono hb.size)
    clear q
    have o0 := (Lo 0 _ rfl).1
    have o1 := (Lo 1 _ rfl).1
    have o2 := (Lo 2 _ rfl).1
    have r0 := (Lr 0 _ rfl).1
    have rf0 := (Lr 0 _ rfl).2
    have r1 := (Lr 1 _ rfl).1
    have rf1 := (Lr 1 _ rfl).2
    have r2 := (Lr 2 _ rfl).1
    have rf2 := (Lr 2 _ rfl).2
    go_wp2_with fail
    refine bodyPost_ret (v := .agg #[.int .i64 n, .slice B1 cs.length k1, .slice B2 pl.length k2]) (by simp [results, Try.results25, go_sem, *]) rfl (tidy_f hq.out ⟨_, _, S, rfl, ?_, ?_, ?_⟩)
    · exact OK.out.chg (T := [w.heap.size + 1]) (by repeat' (first | (with_reducible exact Chg.refl _ _) | (with_reducible refine chg_set ?_ (by simp)))) (fun x hx hx' => DK.out x hx (by simp at hx'; subst hx'; simp))
    · exact fresh_mono FK.out (by omega) (by simp)
    · exact Below.chg hb (S := [w.heap.size + 1]) (by repeat' (first | (with_reducible exact Chg.refl _ _) | (with_reducible refine chg_set ?_ (by simp)))) hb.size (by simp)
set_option maxHeartbeats 8000000 in
set_option maxRecDepth 100000 in
theorem specTidy_any (n : Int) (v1 v2 : Value) (cs : List RCross) (pl : List RPl) (w : World) (h : RdCompany w v1 v2 cs pl) (hsz : szCompany cs pl ≤ 1048576) :
    Calls Try.prog 24 #[.agg #[.int .i64 n, v1, v2]] w (ToCompany n (tidyC n cs pl) pl w) := by
  obtain ⟨⟨A1, n1, rfl⟩, ⟨A2, n2, rfl⟩⟩ := h.forms
  go_enter Try.func24, Try.ntmps24
  have hcl : cs.length ≤ 1048576 := by unfold szCompany at hsz; omega
  go_wp2_with fail
  refine (l37Copy_any n _ _ cs pl _ (h.below (by (repeat' (first | (with_reducible exact Below.refl _ _) | (with_reducible assumption) | (with_reducible refine Below.setCell ?_ (by first | omega | (simp; omega) | (simp; done)) _) | (with_reducible refine Below.alloc ?_ (by first | omega | (simp; omega) | (simp; done)) _) | (with_reducible refine Below.drew ?_) | (with_reducible refine below_drewN ?_ _))))) hsz).mono ?_
  rintro e W1 ⟨x1, x2, S, rfl, ow, f1, q⟩
  obtain ⟨⟨B1, k1, rfl⟩, ⟨B2, k2, rfl⟩⟩ := ow.rd.forms
  have Lc : Loc W1 (w.heap.size) [.int .i64 n, .slice A1 cs.length n1, .slice A2 pl.length n2] := by have := ((Loc.new w #[.int .i64 n, .slice A1 cs.length n1, .slice A2 pl.length n2] 30).alloc _).below q; simpa using this
  have Lr : Loc W1 (w.heap.size + 1) [.int .i64 0, .slice none 0 0, .slice none 0 0] := by have := (Loc.new (w.alloc (.cells #[.int .i64 n, .slice A1 cs.length n1, .slice A2 pl.length n2] 30)) #[.int .i64 0, .slice none 0 0, .slice none 0 0] 30).below q; simpa using this
  have hb : Below w.heap.size w W1 := Below.trans (by (repeat' (first | (with_reducible exact Below.refl _ _) | (with_reducible assumption) | (with_reducible refine Below.setCell ?_ (by first | omega | (simp; omega) | (simp; done)) _) | (with_reducible refine Below.alloc ?_ (by first | omega | (simp; omega) | (simp; done)) _) | (with_reducible refine Below.drew ?_) | (with_reducible refine below_drewN ?_ _)))) (q.mono (by simp <;> omega))
  have hz0 : w.heap.size + 1 + 1 ≤ W1.heap.size := by have := q.size; simp at this; omega
  have hlow : w.heap.size + 1 + 1 ≤ (((w.alloc (.cells #[.int .i64 n, .slice A1 cs.length n1, .slice A2 pl.length n2] 30)).alloc (.cells #[.int .i64 0, .slice none 0 0, .slice none 0 0] 30))).heap.size := by first | exact Nat.le_refl _ | (simp; done) | (simp; omega) | omega
  have FK := Lib.hid (fresh_mono f1 hlow (Nat.le_refl _))
  have DK : Hid (∀ x ∈ S, x ∉ [w.heap.size, w.heap.size + 1]) := (fun x hx => by have := (FK.out.2 x hx).1; simp; omega)
  have OK := Lib.hid ow
  clear ow f1 hlow
  clear q
  go_upto_region 2 with (fail)
  replace Lc : Loc (W1.alloc (.cells #[.int .i64 n, .slice B1 cs.length k1, .slice B2 pl.length k2] 30)) (w.heap.size) [.int .i64 n, .slice A1 cs.length n1, .slice A2 pl.length n2] := Lc.alloc _
  replace Lr : Loc (W1.alloc (.cells #[.int .i64 n, .slice B1 cs.length k1, .slice B2 pl.length k2] 30)) (w.heap.size + 1) [.int .i64 0, .slice none 0 0, .slice none 0 0] := Lr.alloc _
  obtain ⟨go, hgo⟩ : ∃ g, W1.heap.size = g := ⟨_, rfl⟩
  have Lo : Loc (W1.alloc (.cells #[.int .i64 n, .slice B1 cs.length k1, .slice B2 pl.length k2] 30)) W1.heap.size [.int .i64 n, .slice B1 cs.length k1, .slice B2 pl.length k2] := Loc.new W1 #[.int .i64 n, .slice B1 cs.length k1, .slice B2 pl.length k2] 30
  rw [hgo] at Lo
  have OK' := Lib.hid (OK.out.below (w' := (W1.alloc (.cells #[.int .i64 n, .slice B1 cs.length k1, .slice B2 pl.length k2] 30))) ((Below.refl _ _).alloc (Nat.le_refl _) _))
  clear OK; have OK := OK'; clear OK'
  have DK' : Hid (∀ x ∈ S, x ∉ [w.heap.size, w.heap.size + 1, go]) := (fun x hx => by have := DK.out x hx; have := (FK.out.2 x hx).2; simp at *; omega)
  clear DK; have DK := DK'; clear DK'
  have FK' := Lib.hid (fresh_mono (w' := (W1.alloc (.cells #[.int .i64 n, .slice B1 cs.length k1, .slice B2 pl.length k2] 30))) FK.out (Nat.le_refl _) (by simp))
  clear FK; have FK := FK'; clear FK'
  replace hb : Below w.heap.size w (W1.alloc (.cells #[.int .i64 n, .slice B1 cs.length k1, .slice B2 pl.length k2] 30)) := hb.alloc hb.size _
  have hlto : go < (W1.alloc (.cells #[.int .i64 n, .slice B1 cs.length k1, .slice B2 pl.length k2] 30)).heap.size := by simp; omega
  have hne_c_o : w.heap.size < go := by omega
  have hne_r_o : w.heap.size + 1 < go := by omega
  generalize W1.alloc (.cells #[.int .i64 n, .slice B1 cs.length k1, .slice B2 pl.length k2] 30) = W2 at *
  rw [hgo]
  clear hgo
  have c0 := (Lc 0 _ rfl).1
  have c1 := (Lc 1 _ rfl).1
  have c2 := (Lc 2 _ rfl).1
  go_wp2_with fail
  refine twoB (specCompanyOk_any n _ _ cs pl _ (h.below hb)) (fun W3 hq q => ?_) (fun W3 hq q => ?_)
  · skip
    clear c0 c1 c2
    have hzq : W2.heap.size ≤ W3.heap.size := by have := q.size; (try simp at this); omega
    replace Lc := Lc.below q
    replace Lr := Lr.below q
    replace Lo := Lo.below q
    have OK' := Lib.hid (OK.out.below q)
    clear OK; have OK := OK'; clear OK'
    have FK' := Lib.hid (fresh_mono (w' := W3) FK.out (Nat.le_refl _) hzq)
    clear FK; have FK := FK'; clear FK'
    replace hb : Below w.heap.size w W3 := hb.trans (q.mono hb.size)
    clear q
    obtain ⟨SK1, SK2, eK, oK, pK⟩ := OK.out
    have FKx := FK.out
    have DKx := DK.out
    rw [eK] at FKx DKx
    have OK1 := Lib.hid oK
    have OK2 := Lib.hid pK
    have FK1 := Lib.hid (fresh_left FKx)
    have FK2 := Lib.hid (fresh_right FKx)
    have DK1 : Hid (∀ x ∈ SK1, x ∉ [w.heap.size, w.heap.size + 1, go]) := (fun x hx => DKx x (List.mem_append_left _ hx))
    have DK2 : Hid (∀ x ∈ SK2, x ∉ [w.heap.size, w.heap.size + 1, go]) := (fun x hx => DKx x (List.mem_append_right _ hx))
    have JK : Hid (∀ x ∈ SK1, x ∉ SK2) := (nodup2 FKx.1).2.2.1
    clear OK FK DK FKx DKx oK pK
    have hU : ∀ x ∈ SK2, x < W3.heap.size := fun x hx => (FK2.out.2 x hx).2
    have c0 := (Lc 0 _ rfl).1
    have c1 := (Lc 1 _ rfl).1
    have c2 := (Lc 2 _ rfl).1
    go_wp2_with fail
    refine (specReduced_any n _ cs _ ((h.below hb).1) hcl).mono ?_
    rintro e W4 ⟨x, rfl, own, q⟩
    clear c0 c1 c2
    obtain ⟨B3, k3, rfl, _, _⟩ := (RdS.of_own own).form
    have f3 := fresh_of own
    have o3 : OwL 83 cCross 2 W4 _ (.slice B3 (redL n cs).length k3) (redL n cs) := OwL.mk_ own
    obtain ⟨SN, hSN⟩ : ∃ T, (Value.slice B3 (redL n cs).length k3).ownBlock.toList = T := ⟨_, rfl⟩
    rw [hSN] at o3 f3
    clear hSN own
    have hzq : W3.heap.size ≤ W4.heap.size := by have := q.size; (try simp at this); omega
    replace Lc := Lc.below q
    replace Lr := Lr.below q
    replace Lo := Lo.below q
    have OK1' := Lib.hid (OK1.out.below q)
    clear OK1; have OK1 := OK1'; clear OK1'
    have FK1' := Lib.hid (fresh_mono (w' := W4) FK1.out (Nat.le_refl _) hzq)
    clear FK1; have FK1 := FK1'; clear FK1'
    have OK2' := Lib.hid (OK2.out.below q)
    clear OK2; have OK2 := OK2'; clear OK2'
    have FK2' := Lib.hid (fresh_mono (w' := W4) FK2.out (Nat.le_refl _) hzq)
    clear FK2; have FK2 := FK2'; clear FK2'
    replace hb : Below w.heap.size w W4 := hb.trans (q.mono hb.size)
    have hlow : W3.heap.size ≤ W3.heap.size := by first | exact Nat.le_refl _ | (simp; done) | (simp; omega) | omega
    have FN := Lib.hid (fresh_mono f3 hlow (Nat.le_refl _))
    have DN : Hid (∀ x ∈ SN, x ∉ [w.heap.size, w.heap.size + 1, go]) := (fun x hx => by have := (FN.out.2 x hx).1; simp; omega)
    have ON := Lib.hid o3
    clear o3 f3 hlow
    clear q
    have hJ : ∀ x ∈ SN, x ∉ SK2 := fun x hx hx' => by have := (FN.out.2 x hx).1; have := hU x hx'; omega
    have HJ := Lib.hid hJ
    clear hJ hU
    have o1 := (Lo 1 _ rfl).1
    have of1 := (Lo 1 _ rfl).2
    go_upto_region 4 with (fail)
    clear o1 of1
    replace Lc : Loc (W4.setCell ⟨go, 1, none⟩ (.slice B3 (redL n cs).length k3)) (w.heap.size) [.int .i64 n, .slice A1 cs.length n1, .slice A2 pl.length n2] := Lc.far (g := go) (i := 1) (u := .slice B3 (redL n cs).length k3) (by omega)
    replace Lr : Loc (W4.setCell ⟨go, 1, none⟩ (.slice B3 (redL n cs).length k3)) (w.heap.size + 1) [.int .i64 0, .slice none 0 0, .slice none 0 0] := Lr.far (g := go) (i := 1) (u := .slice B3 (redL n cs).length k3) (by omega)
    replace Lo : Loc (W4.setCell ⟨go, 1, none⟩ (.slice B3 (redL n cs).length k3)) (go) [.int .i64 n, .slice B3 (redL n cs).length k3, .slice B2 pl.length k2] := Lo.set (i := 1) (v := .slice B1 cs.length k1) rfl
    have hch : Chg [go] W4 (W4.setCell ⟨go, 1, none⟩ (.slice B3 (redL n cs).length k3)) := chg_set (Chg.refl _ _) (by simp)
    have OK1' := Lib.hid (OK1.out.chg hch (fun x hx hx' => DK1.out x hx (by simp at hx'; subst hx'; simp)))
    clear OK1; have OK1 := OK1'; clear OK1'
    have FK1' := Lib.hid (fresh_mono (w' := (W4.setCell ⟨go, 1, none⟩ (.slice B3 (redL n cs).length k3))) FK1.out (Nat.le_refl _) hch.size)
    clear FK1; have FK1 := FK1'; clear FK1'
    have OK2' := Lib.hid (OK2.out.chg hch (fun x hx hx' => DK2.out x hx (by simp at hx'; subst hx'; simp)))
    clear OK2; have OK2 := OK2'; clear OK2'
    have FK2' := Lib.hid (fresh_mono (w' := (W4.setCell ⟨go, 1, none⟩ (.slice B3 (redL n cs).length k3))) FK2.out (Nat.le_refl _) hch.size)
    clear FK2; have FK2 := FK2'; clear FK2'
    have ON' := Lib.hid (ON.out.chg hch (fun x hx hx' => DN.out x hx (by simp at hx'; subst hx'; simp)))
    clear ON; have ON := ON'; clear ON'
    have FN' := Lib.hid (fresh_mono (w' := (W4.setCell ⟨go, 1, none⟩ (.slice B3 (redL n cs).length k3))) FN.out (Nat.le_refl _) hch.size)
    clear FN; have FN := FN'; clear FN'
    replace hb : Below w.heap.size w (W4.setCell ⟨go, 1, none⟩ (.slice B3 (redL n cs).length k3)) := Below.chg hb hch hb.size (by simp; omega)
    have hzc := hch.size
    clear hch
    generalize W4.setCell ⟨go, 1, none⟩ (.slice B3 (redL n cs).length k3) = W5 at *
    clear OK1 FK1 DK1
    have FK2' := Lib.hid (fresh_mono (B' := w.heap.size + 1 + 1) FK2.out (by omega) (Nat.le_refl _))
    have FN' := Lib.hid (fresh_mono (B' := w.heap.size + 1 + 1) FN.out (by omega) (Nat.le_refl _))
    clear FK2 FN; have FK2 := FK2'; have FN := FN'; clear FK2' FN'
    have OP : OwCompany W5 (SN ++ SK2) (.slice B3 (redL n cs).length k3) (.slice B2 pl.length k2) (redL n cs) pl := ⟨_, _, rfl, ON.out, OK2.out⟩
    have FQ := Lib.hid (fresh_join FN.out FK2.out (HJ.out))
    have DQ : Hid (∀ x ∈ SN ++ SK2, x ∉ [w.heap.size, w.heap.size + 1, go]) := (fun x hx => (List.mem_append.1 hx).elim (DN.out x) (DK2.out x))
    have OQ := Lib.hid (OP)
    clear ON FN DN OK2 FK2 DK2
    obtain ⟨SQ, hSQ⟩ : ∃ T, SN ++ SK2 = T := ⟨_, rfl⟩
    rw [hSQ] at OQ FQ DQ
    clear hSQ
    clear OP
    have o0 := (Lo 0 _ rfl).1
    have o1 := (Lo 1 _ rfl).1
    have o2 := (Lo 2 _ rfl).1
    have r0 := (Lr 0 _ rfl).1
    have rf0 := (Lr 0 _ rfl).2
    have r1 := (Lr 1 _ rfl).1
    have rf1 := (Lr 1 _ rfl).2
    have r2 := (Lr 2 _ rfl).1
    have rf2 := (Lr 2 _ rfl).2
    go_wp2_with fail
    refine bodyPost_ret (v := .agg #[.int .i64 n, .slice B3 (redL n cs).length k3, .slice B2 pl.length k2]) (by simp [results, Try.results24, go_sem, *]) rfl (tidy_t hq.out ⟨_, _, SQ, rfl, ?_, ?_, ?_⟩)
    · exact OQ.out.chg (T := [w.heap.size + 1]) (by repeat' (first | (with_reducible exact Chg.refl _ _) | (with_reducible refine chg_set ?_ (by simp)))) (fun x hx hx' => DQ.out x hx (by simp at hx'; subst hx'; simp))
    · exact fresh_mono FQ.out (by omega) (by simp)
    · exact Below.chg hb (S := [w.heap.size + 1]) (by repeat' (first | (with_reducible exact Chg.refl _ _) | (with_reducible refine chg_set ?_ (by simp)))) hb.size (by simp)
  · skip
    clear c0 c1 c2
    have hzq : W2.heap.size ≤ W3.heap.size := by have := q.size; (try simp at this); omega
    replace Lc := Lc.below q
    replace Lr := Lr.below q
    replace Lo := Lo.below q
    have OK' := Lib.hid (OK.out.below q)
    clear OK; have OK := OK'; clear OK'
    have FK' := Lib.hid (fresh_mono (w' := W3) FK.out (Nat.le_refl _) hzq)
    clear FK; have FK := FK'; clear FK'
    replace hb : Below w.heap.size w W3 := hb.trans (q.mono hb.size)
    clear q
    have o0 := (Lo 0 _ rfl).1
    have o1 := (Lo 1 _ rfl).1
    have o2 := (Lo 2 _ rfl).1
    have r0 := (Lr 0 _ rfl).1
    have rf0 := (Lr 0 _ rfl).2
    have r1 := (Lr 1 _ rfl).1
    have rf1 := (Lr 1 _ rfl).2
    have r2 := (Lr 2 _ rfl).1
    have rf2 := (Lr 2 _ rfl).2
    go_wp2_with fail
    refine bodyPost_ret (v := .agg #[.int .i64 n, .slice B1 cs.length k1, .slice B2 pl.length k2]) (by simp [results, Try.results24, go_sem, *]) rfl (tidy_f hq.out ⟨_, _, S, rfl, ?_, ?_, ?_⟩)
    · exact OK.out.chg (T := [w.heap.size + 1]) (by repeat' (first | (with_reducible exact Chg.refl _ _) | (with_reducible refine chg_set ?_ (by simp)))) (fun x hx hx' => DK.out x hx (by simp at hx'; subst hx'; simp))
    · exact fresh_mono FK.out (by omega) (by simp)
    · exact Below.chg hb (S := [w.heap.size + 1]) (by repeat' (first | (with_reducible exact Chg.refl _ _) | (with_reducible refine chg_set ?_ (by simp)))) hb.size (by simp)
end Go.Proofs.Ytjagcffgmmogeaa
