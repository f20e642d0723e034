/- Contracts: TeachPlayer. Written by a program (gen_k15.py). -/
import Derived.Test.YtkejgogheonakaaK10
import Derived.Test.YtkejgogheonakaaT5
namespace Go.Proofs.Ytkejgogheonakaa
open Go.RowKit
set_option maxHeartbeats 8000000 in
set_option maxRecDepth 100000 in
theorem implTeachPlayer_any (n m kx px : Int) (v1 v2 v3 : Value) (cs : List RCross) (pl : List RPl) (ds : List Int) (w : World) (h : RdTheatre w v1 v2 v3 cs pl ds) (hsz : szTheatre cs pl ds ≤ 1048576) :
    Calls Try.prog 41 #[.agg #[.int .i64 n, v1, v2, v3, .int .i64 m], .int .i64 kx, .int .i64 px] w (RetTh w.heap.size (teachT ⟨n, m, cs, pl, ds⟩ kx px) w) := by
  obtain ⟨⟨A1, n1, rfl⟩, ⟨A2, n2, rfl⟩, ⟨A3, n3, rfl⟩⟩ := h.forms
  have hszp : plsTot pl ≤ 1048576 := by unfold szTheatre szCompany at hsz; omega
  unfold teachT
  obtain ⟨⟨⟨rn, rm, rcs, rpl, rds⟩, rb⟩, hres⟩ : ∃ res, becF ⟨n, m, cs, pl, ds⟩ ⟨n, wrap64 (m - 4), cs, (teachF pl kx px).1, ds⟩ (teachF pl kx px).2 = res := ⟨_, rfl⟩
  rw [hres]
  change Calls _ _ _ _ (RetT w.heap.size rn rm rb rcs rpl rds w)
  have Hres := Lib.hid hres
  clear hres
  go_enter Try.func41, Try.ntmps41
  go_wp2_with fail
  refine (theatreCopied_any n m _ _ _ cs pl ds _ (h.below (by (repeat' (first | (with_reducible exact Below.refl _ _) | (with_reducible assumption) | (with_reducible refine Below.setCell ?_ (by first | omega | (simp; omega) | (simp; done)) _) | (with_reducible refine Below.alloc ?_ (by first | omega | (simp; omega) | (simp; done)) _) | (with_reducible refine Below.drew ?_) | (with_reducible refine below_drewN ?_ _))))) hsz).mono ?_
  rintro e W1 ⟨x1, x2, x3, S, rfl, ow, f1, q⟩
  obtain ⟨⟨B1, k1, rfl⟩, ⟨B2, k2, rfl⟩, ⟨B3, k3, rfl⟩⟩ := ow.rd.forms
  have Lc : Loc W1 (w.heap.size) [.int .i64 n, .slice A1 cs.length n1, .slice A2 pl.length n2, .slice A3 ds.length n3, .int .i64 m] := by have := ((Loc.new w #[.int .i64 n, .slice A1 cs.length n1, .slice A2 pl.length n2, .slice A3 ds.length n3, .int .i64 m] 68).alloc _).below q; simpa using this
  have Lr : Loc W1 (w.heap.size + 1) [.int .i64 0, .slice none 0 0, .slice none 0 0, .slice none 0 0, .int .i64 0] := by have := (Loc.new (w.alloc (.cells #[.int .i64 n, .slice A1 cs.length n1, .slice A2 pl.length n2, .slice A3 ds.length n3, .int .i64 m] 68)) #[.int .i64 0, .slice none 0 0, .slice none 0 0, .slice none 0 0, .int .i64 0] 68).below q; simpa using this
  have hb : Below w.heap.size w W1 := Below.trans (by (repeat' (first | (with_reducible exact Below.refl _ _) | (with_reducible assumption) | (with_reducible refine Below.setCell ?_ (by first | omega | (simp; omega) | (simp; done)) _) | (with_reducible refine Below.alloc ?_ (by first | omega | (simp; omega) | (simp; done)) _) | (with_reducible refine Below.drew ?_) | (with_reducible refine below_drewN ?_ _)))) (q.mono (by simp <;> omega))
  have hz0 : w.heap.size + 1 + 1 ≤ W1.heap.size := by have := q.size; simp at this; omega
  have hlow : w.heap.size + 1 + 1 ≤ (((w.alloc (.cells #[.int .i64 n, .slice A1 cs.length n1, .slice A2 pl.length n2, .slice A3 ds.length n3, .int .i64 m] 68)).alloc (.cells #[.int .i64 0, .slice none 0 0, .slice none 0 0, .slice none 0 0, .int .i64 0] 68))).heap.size := by first | exact Nat.le_refl _ | (simp; done) | (simp; omega) | omega
  have FK := Lib.hid (fresh_mono f1 hlow (Nat.le_refl _))
  have DK : Hid (∀ x ∈ S, x ∉ [w.heap.size, w.heap.size + 1]) := (fun x hx => by have := (FK.out.2 x hx).1; simp; omega)
  have OK := Lib.hid ow
  clear ow f1 hlow
  clear q
  go_upto_region 2 with (fail)
  replace Lc : Loc (W1.alloc (.cells #[.int .i64 n, .slice B1 cs.length k1, .slice B2 pl.length k2, .slice B3 ds.length k3, .int .i64 m] 68)) (w.heap.size) [.int .i64 n, .slice A1 cs.length n1, .slice A2 pl.length n2, .slice A3 ds.length n3, .int .i64 m] := Lc.alloc _
  replace Lr : Loc (W1.alloc (.cells #[.int .i64 n, .slice B1 cs.length k1, .slice B2 pl.length k2, .slice B3 ds.length k3, .int .i64 m] 68)) (w.heap.size + 1) [.int .i64 0, .slice none 0 0, .slice none 0 0, .slice none 0 0, .int .i64 0] := Lr.alloc _
  obtain ⟨go, hgo⟩ : ∃ g, W1.heap.size = g := ⟨_, rfl⟩
  have Lo : Loc (W1.alloc (.cells #[.int .i64 n, .slice B1 cs.length k1, .slice B2 pl.length k2, .slice B3 ds.length k3, .int .i64 m] 68)) W1.heap.size [.int .i64 n, .slice B1 cs.length k1, .slice B2 pl.length k2, .slice B3 ds.length k3, .int .i64 m] := Loc.new W1 #[.int .i64 n, .slice B1 cs.length k1, .slice B2 pl.length k2, .slice B3 ds.length k3, .int .i64 m] 68
  rw [hgo] at Lo
  have OK' := Lib.hid (OK.out.below (w' := (W1.alloc (.cells #[.int .i64 n, .slice B1 cs.length k1, .slice B2 pl.length k2, .slice B3 ds.length k3, .int .i64 m] 68))) ((Below.refl _ _).alloc (Nat.le_refl _) _))
  clear OK; have OK := OK'; clear OK'
  have DK' : Hid (∀ x ∈ S, x ∉ [w.heap.size, w.heap.size + 1, go]) := (fun x hx => by have := DK.out x hx; have := (FK.out.2 x hx).2; simp at *; omega)
  clear DK; have DK := DK'; clear DK'
  have FK' := Lib.hid (fresh_mono (w' := (W1.alloc (.cells #[.int .i64 n, .slice B1 cs.length k1, .slice B2 pl.length k2, .slice B3 ds.length k3, .int .i64 m] 68))) FK.out (Nat.le_refl _) (by simp))
  clear FK; have FK := FK'; clear FK'
  replace hb : Below w.heap.size w (W1.alloc (.cells #[.int .i64 n, .slice B1 cs.length k1, .slice B2 pl.length k2, .slice B3 ds.length k3, .int .i64 m] 68)) := hb.alloc hb.size _
  have hlto : go < (W1.alloc (.cells #[.int .i64 n, .slice B1 cs.length k1, .slice B2 pl.length k2, .slice B3 ds.length k3, .int .i64 m] 68)).heap.size := by simp; omega
  have hne_c_o : w.heap.size < go := by omega
  have hne_r_o : w.heap.size + 1 < go := by omega
  generalize W1.alloc (.cells #[.int .i64 n, .slice B1 cs.length k1, .slice B2 pl.length k2, .slice B3 ds.length k3, .int .i64 m] 68) = W2 at *
  rw [hgo]
  clear hgo
  obtain ⟨SK1, SK3, eK, oK, pK⟩ := OK.out
  have FKx := FK.out
  have DKx := DK.out
  rw [eK] at FKx DKx
  have OK1 := Lib.hid oK
  have OK3 := Lib.hid pK
  have FK1 := Lib.hid (fresh_left FKx)
  have FK3 := Lib.hid (fresh_right FKx)
  have DK1 : Hid (∀ x ∈ SK1, x ∉ [w.heap.size, w.heap.size + 1, go]) := (fun x hx => DKx x (List.mem_append_left _ hx))
  have DK3 : Hid (∀ x ∈ SK3, x ∉ [w.heap.size, w.heap.size + 1, go]) := (fun x hx => DKx x (List.mem_append_right _ hx))
  have JK : Hid (∀ x ∈ SK1, x ∉ SK3) := (nodup2 FKx.1).2.2.1
  clear OK FK DK FKx DKx oK pK
  obtain ⟨SK11, SK12, eK1, oK1, pK1⟩ := OK1.out
  have FK1x := FK1.out
  have DK1x := DK1.out
  rw [eK1] at FK1x DK1x
  have OK11 := Lib.hid oK1
  have OK12 := Lib.hid pK1
  have FK11 := Lib.hid (fresh_left FK1x)
  have FK12 := Lib.hid (fresh_right FK1x)
  have DK11 : Hid (∀ x ∈ SK11, x ∉ [w.heap.size, w.heap.size + 1, go]) := (fun x hx => DK1x x (List.mem_append_left _ hx))
  have DK12 : Hid (∀ x ∈ SK12, x ∉ [w.heap.size, w.heap.size + 1, go]) := (fun x hx => DK1x x (List.mem_append_right _ hx))
  have JK1 : Hid (∀ x ∈ SK11, x ∉ SK12) := (nodup2 FK1x.1).2.2.1
  clear OK1 FK1 DK1 FK1x DK1x oK1 pK1
  have hU1 : ∀ x ∈ SK11, x < W2.heap.size := fun x hx => (FK11.out.2 x hx).2
  have hU3 : ∀ x ∈ SK3, x < W2.heap.size := fun x hx => (FK3.out.2 x hx).2
  have hJ13 : ∀ x ∈ SK11, x ∉ SK3 := fun x hx hx' => JK.out x (by rw [eK1]; exact List.mem_append_left _ hx) hx'
  have HJ13 := Lib.hid hJ13
  clear hJ13
  have o2 := (Lo 2 _ rfl).1
  go_wp2_with fail
  refine (implTeachPuppet_any _ pl kx px _ OK12.out.rd hszp).mono ?_
  rintro e W3 ⟨x4, SX, rfl, ox, fx, q⟩
  clear o2
  obtain ⟨C1, l1, rfl, _, _⟩ := ox.rd.form
  have hzq : W2.heap.size ≤ W3.heap.size := by have := q.size; (try simp at this); omega
  replace Lc := Lc.below q
  replace Lr := Lr.below q
  replace Lo := Lo.below q
  have OK3' := Lib.hid (OK3.out.below q)
  clear OK3; have OK3 := OK3'; clear OK3'
  have FK3' := Lib.hid (fresh_mono (w' := W3) FK3.out (Nat.le_refl _) hzq)
  clear FK3; have FK3 := FK3'; clear FK3'
  have OK11' := Lib.hid (OK11.out.below q)
  clear OK11; have OK11 := OK11'; clear OK11'
  have FK11' := Lib.hid (fresh_mono (w' := W3) FK11.out (Nat.le_refl _) hzq)
  clear FK11; have FK11 := FK11'; clear FK11'
  have OK12' := Lib.hid (OK12.out.below q)
  clear OK12; have OK12 := OK12'; clear OK12'
  have FK12' := Lib.hid (fresh_mono (w' := W3) FK12.out (Nat.le_refl _) hzq)
  clear FK12; have FK12 := FK12'; clear FK12'
  replace hb : Below w.heap.size w W3 := hb.trans (q.mono hb.size)
  have hlow : W2.heap.size ≤ W2.heap.size := by first | exact Nat.le_refl _ | (simp; done) | (simp; omega) | omega
  have FX := Lib.hid (fresh_mono fx hlow (Nat.le_refl _))
  have DX : Hid (∀ x ∈ SX, x ∉ [w.heap.size, w.heap.size + 1, go]) := (fun x hx => by have := (FX.out.2 x hx).1; simp; omega)
  have OX := Lib.hid ox
  clear ox fx hlow
  clear q
  have hlt := teach_len pl kx px
  generalize (teachF pl kx px).2 = okc at *
  generalize (teachF pl kx px).1 = pl' at *
  clear hlt
  have J1X : Hid (∀ x ∈ SK11, x ∉ SX) := (fun x hx hx' => by have := (FX.out.2 x hx').1; have := hU1 x hx; omega)
  have JX3 : Hid (∀ x ∈ SX, x ∉ SK3) := (fun x hx hx' => by have := (FX.out.2 x hx).1; have := hU3 x hx'; omega)
  clear hU1 hU3
  clear OK12 FK12 DK12
  have o0 := (Lo 0 _ rfl).1
  have of0 := (Lo 0 _ rfl).2
  have o1 := (Lo 1 _ rfl).1
  have of1 := (Lo 1 _ rfl).2
  have o2 := (Lo 2 _ rfl).1
  have of2 := (Lo 2 _ rfl).2
  have o3 := (Lo 3 _ rfl).1
  have of3 := (Lo 3 _ rfl).2
  have o4 := (Lo 4 _ rfl).1
  have of4 := (Lo 4 _ rfl).2
  go_upto_region 4 with (fail)
  clear o0 of0 o1 of1 o2 of2 o3 of3 o4 of4
  replace Lc : Loc (W3.setCell ⟨go, 2, none⟩ (.slice C1 pl'.length l1)) (w.heap.size) [.int .i64 n, .slice A1 cs.length n1, .slice A2 pl.length n2, .slice A3 ds.length n3, .int .i64 m] := Lc.far (g := go) (i := 2) (u := .slice C1 pl'.length l1) (by omega)
  replace Lr : Loc (W3.setCell ⟨go, 2, none⟩ (.slice C1 pl'.length l1)) (w.heap.size + 1) [.int .i64 0, .slice none 0 0, .slice none 0 0, .slice none 0 0, .int .i64 0] := Lr.far (g := go) (i := 2) (u := .slice C1 pl'.length l1) (by omega)
  replace Lo : Loc (W3.setCell ⟨go, 2, none⟩ (.slice C1 pl'.length l1)) (go) [.int .i64 n, .slice B1 cs.length k1, .slice C1 pl'.length l1, .slice B3 ds.length k3, .int .i64 m] := Lo.set (i := 2) (v := .slice B2 pl.length k2) rfl
  have hch : Chg [go] W3 (W3.setCell ⟨go, 2, none⟩ (.slice C1 pl'.length l1)) := chg_set (Chg.refl _ _) (by simp)
  have OK3' := Lib.hid (OK3.out.chg hch (fun x hx hx' => DK3.out x hx (by simp at hx'; subst hx'; simp)))
  clear OK3; have OK3 := OK3'; clear OK3'
  have FK3' := Lib.hid (fresh_mono (w' := (W3.setCell ⟨go, 2, none⟩ (.slice C1 pl'.length l1))) FK3.out (Nat.le_refl _) hch.size)
  clear FK3; have FK3 := FK3'; clear FK3'
  have OK11' := Lib.hid (OK11.out.chg hch (fun x hx hx' => DK11.out x hx (by simp at hx'; subst hx'; simp)))
  clear OK11; have OK11 := OK11'; clear OK11'
  have FK11' := Lib.hid (fresh_mono (w' := (W3.setCell ⟨go, 2, none⟩ (.slice C1 pl'.length l1))) FK11.out (Nat.le_refl _) hch.size)
  clear FK11; have FK11 := FK11'; clear FK11'
  have OX' := Lib.hid (OX.out.chg hch (fun x hx hx' => DX.out x hx (by simp at hx'; subst hx'; simp)))
  clear OX; have OX := OX'; clear OX'
  have FX' := Lib.hid (fresh_mono (w' := (W3.setCell ⟨go, 2, none⟩ (.slice C1 pl'.length l1))) FX.out (Nat.le_refl _) hch.size)
  clear FX; have FX := FX'; clear FX'
  replace hb : Below w.heap.size w (W3.setCell ⟨go, 2, none⟩ (.slice C1 pl'.length l1)) := Below.chg hb hch hb.size (by simp; omega)
  have hzc := hch.size
  clear hch
  generalize W3.setCell ⟨go, 2, none⟩ (.slice C1 pl'.length l1) = W4 at *
  have o4 := (Lo 4 _ rfl).1
  have c4 := (Lc 4 _ rfl).1
  have of4 := (Lo 4 _ rfl).2
  go_upto_region 5 with (fail)
  clear o4 c4 of4
  replace Lc : Loc (W4.setCell ⟨go, 4, none⟩ (.int .i64 (wrap64 (m - 4)))) (w.heap.size) [.int .i64 n, .slice A1 cs.length n1, .slice A2 pl.length n2, .slice A3 ds.length n3, .int .i64 m] := Lc.far (g := go) (i := 4) (u := .int .i64 (wrap64 (m - 4))) (by omega)
  replace Lr : Loc (W4.setCell ⟨go, 4, none⟩ (.int .i64 (wrap64 (m - 4)))) (w.heap.size + 1) [.int .i64 0, .slice none 0 0, .slice none 0 0, .slice none 0 0, .int .i64 0] := Lr.far (g := go) (i := 4) (u := .int .i64 (wrap64 (m - 4))) (by omega)
  replace Lo : Loc (W4.setCell ⟨go, 4, none⟩ (.int .i64 (wrap64 (m - 4)))) (go) [.int .i64 n, .slice B1 cs.length k1, .slice C1 pl'.length l1, .slice B3 ds.length k3, .int .i64 (wrap64 (m - 4))] := Lo.set (i := 4) (v := .int .i64 m) rfl
  have hch : Chg [go] W4 (W4.setCell ⟨go, 4, none⟩ (.int .i64 (wrap64 (m - 4)))) := chg_set (Chg.refl _ _) (by simp)
  have OK3' := Lib.hid (OK3.out.chg hch (fun x hx hx' => DK3.out x hx (by simp at hx'; subst hx'; simp)))
  clear OK3; have OK3 := OK3'; clear OK3'
  have FK3' := Lib.hid (fresh_mono (w' := (W4.setCell ⟨go, 4, none⟩ (.int .i64 (wrap64 (m - 4))))) FK3.out (Nat.le_refl _) hch.size)
  clear FK3; have FK3 := FK3'; clear FK3'
  have OK11' := Lib.hid (OK11.out.chg hch (fun x hx hx' => DK11.out x hx (by simp at hx'; subst hx'; simp)))
  clear OK11; have OK11 := OK11'; clear OK11'
  have FK11' := Lib.hid (fresh_mono (w' := (W4.setCell ⟨go, 4, none⟩ (.int .i64 (wrap64 (m - 4))))) FK11.out (Nat.le_refl _) hch.size)
  clear FK11; have FK11 := FK11'; clear FK11'
  have OX' := Lib.hid (OX.out.chg hch (fun x hx hx' => DX.out x hx (by simp at hx'; subst hx'; simp)))
  clear OX; have OX := OX'; clear OX'
  have FX' := Lib.hid (fresh_mono (w' := (W4.setCell ⟨go, 4, none⟩ (.int .i64 (wrap64 (m - 4))))) FX.out (Nat.le_refl _) hch.size)
  clear FX; have FX := FX'; clear FX'
  replace hb : Below w.heap.size w (W4.setCell ⟨go, 4, none⟩ (.int .i64 (wrap64 (m - 4)))) := Below.chg hb hch hb.size (by simp; omega)
  have hzc := hch.size
  clear hch
  generalize W4.setCell ⟨go, 4, none⟩ (.int .i64 (wrap64 (m - 4))) = W5 at *
  have FX' := Lib.hid (fresh_mono (B' := w.heap.size + 1 + 1) FX.out (by omega) (Nat.le_refl _))
  clear FX; have FX := FX'; clear FX'
  have OC : OwCompany W5 (SK11 ++ SX) (.slice B1 cs.length k1) (.slice C1 pl'.length l1) cs pl' := ⟨_, _, rfl, OK11.out, OX.out⟩
  have FC := Lib.hid (fresh_join FK11.out FX.out (J1X.out))
  have DC : Hid (∀ x ∈ SK11 ++ SX, x ∉ [w.heap.size, w.heap.size + 1, go]) := (fun x hx => (List.mem_append.1 hx).elim (DK11.out x) (DX.out x))
  have OC := Lib.hid (OC)
  clear OK11 FK11 DK11 OX FX DX
  obtain ⟨SC, hSC⟩ : ∃ T, SK11 ++ SX = T := ⟨_, rfl⟩
  rw [hSC] at OC FC DC
  have JC3 : ∀ x ∈ SC, x ∉ SK3 := fun x hx => by
    rw [← hSC] at hx
    exact (List.mem_append.1 hx).elim (HJ13.out x) (JX3.out x)
  have HJC := Lib.hid JC3
  clear JC3 hSC
  have OP : OwTheatre W5 (SC ++ SK3) (.slice B1 cs.length k1) (.slice C1 pl'.length l1) (.slice B3 ds.length k3) cs pl' ds := ⟨_, _, rfl, OC.out, OK3.out⟩
  have FQ := Lib.hid (fresh_join FC.out FK3.out (HJC.out))
  have DQ : Hid (∀ x ∈ SC ++ SK3, x ∉ [w.heap.size, w.heap.size + 1, go]) := (fun x hx => (List.mem_append.1 hx).elim (DC.out x) (DK3.out x))
  have OQ := Lib.hid (OP)
  clear OC FC DC OK3 FK3 DK3
  obtain ⟨SQ, hSQ⟩ : ∃ T, SC ++ SK3 = T := ⟨_, rfl⟩
  rw [hSQ] at OQ FQ DQ
  clear hSQ
  clear OP
  have c0 := (Lc 0 _ rfl).1
  have c1 := (Lc 1 _ rfl).1
  have c2 := (Lc 2 _ rfl).1
  have c3 := (Lc 3 _ rfl).1
  have c4 := (Lc 4 _ rfl).1
  have o0 := (Lo 0 _ rfl).1
  have o1 := (Lo 1 _ rfl).1
  have o2 := (Lo 2 _ rfl).1
  have o3 := (Lo 3 _ rfl).1
  have o4 := (Lo 4 _ rfl).1
  go_wp2_with fail
  refine (becomes_eq (B := w.heap.size + 1 + 1) (S := SQ) Hres.out (h.below hb) hsz OQ.out FQ.out (by have := hb.size; omega)).mono ?_
  rintro e W6 ⟨z1, z2, z3, T, rfl, owr, fr, q⟩
  clear c0 c1 c2 c3 c4 o0 o1 o2 o3 o4
  obtain ⟨⟨Z1, e1, rfl⟩, ⟨Z2, e2, rfl⟩, ⟨Z3, e3, rfl⟩⟩ := owr.rd.forms
  have hzq : W5.heap.size ≤ W6.heap.size := by have := q.size; (try simp at this); omega
  replace Lc := Lc.below q
  replace Lr := Lr.below q
  replace Lo := Lo.below q
  have OQ' := Lib.hid (OQ.out.below q)
  clear OQ; have OQ := OQ'; clear OQ'
  have FQ' := Lib.hid (fresh_mono (w' := W6) FQ.out (Nat.le_refl _) hzq)
  clear FQ; have FQ := FQ'; clear FQ'
  replace hb : Below w.heap.size w W6 := hb.trans (q.mono hb.size)
  clear q
  have FR := Lib.hid fr
  have OR := Lib.hid owr
  clear fr owr Hres
  have r0 := (Lr 0 _ rfl).1
  have rf0 := (Lr 0 _ rfl).2
  have r1 := (Lr 1 _ rfl).1
  have rf1 := (Lr 1 _ rfl).2
  have r2 := (Lr 2 _ rfl).1
  have rf2 := (Lr 2 _ rfl).2
  have r3 := (Lr 3 _ rfl).1
  have rf3 := (Lr 3 _ rfl).2
  have r4 := (Lr 4 _ rfl).1
  have rf4 := (Lr 4 _ rfl).2
  go_wp2_with fail
  refine bodyPost_ret (v := .tuple #[.agg #[.int .i64 rn, .slice Z1 rcs.length e1, .slice Z2 rpl.length e2, .slice Z3 rds.length e3, .int .i64 rm], .bool rb]) (by simp [results, Try.results41, go_sem, *]) rfl ⟨_, _, _, T, rfl, ?_, ?_, ?_⟩
  · exact OR.out.chg (T := [w.heap.size + 1]) (by repeat' (first | (with_reducible exact Chg.refl _ _) | (with_reducible refine chg_set ?_ (by simp)))) (fun x hx hx' => by have := (FR.out.2 x hx).1; simp at hx'; omega)
  · exact fresh_mono FR.out (by omega) (by simp)
  · exact Below.chg hb (S := [w.heap.size + 1]) (by repeat' (first | (with_reducible exact Chg.refl _ _) | (with_reducible refine chg_set ?_ (by simp)))) hb.size (fun x hx => by simp at hx; omega)
set_option maxHeartbeats 8000000 in
set_option maxRecDepth 100000 in
theorem specTeachPlayer_any (n m kx px : Int) (v1 v2 v3 : Value) (cs : List RCross) (pl : List RPl) (ds : List Int) (w : World) (h : RdTheatre w v1 v2 v3 cs pl ds) (hsz : szTheatre cs pl ds ≤ 1048576) :
    Calls Try.prog 39 #[.agg #[.int .i64 n, v1, v2, v3, .int .i64 m], .int .i64 kx, .int .i64 px] w (RetTh w.heap.size (teachT ⟨n, m, cs, pl, ds⟩ kx px) w) := by
  obtain ⟨⟨A1, n1, rfl⟩, ⟨A2, n2, rfl⟩, ⟨A3, n3, rfl⟩⟩ := h.forms
  have hszp : plsTot pl ≤ 1048576 := by unfold szTheatre szCompany at hsz; omega
  unfold teachT
  go_enter Try.func39, Try.ntmps39
  go_wp2_with fail
  refine (l38Copy_any n m _ _ _ cs pl ds _ (h.below (by (repeat' (first | (with_reducible exact Below.refl _ _) | (with_reducible assumption) | (with_reducible refine Below.setCell ?_ (by first | omega | (simp; omega) | (simp; done)) _) | (with_reducible refine Below.alloc ?_ (by first | omega | (simp; omega) | (simp; done)) _) | (with_reducible refine Below.drew ?_) | (with_reducible refine below_drewN ?_ _))))) hsz).mono ?_
  rintro e W1 ⟨x1, x2, x3, S, rfl, ow, f1, q⟩
  obtain ⟨⟨B1, k1, rfl⟩, ⟨B2, k2, rfl⟩, ⟨B3, k3, rfl⟩⟩ := ow.rd.forms
  have Lc : Loc W1 (w.heap.size) [.int .i64 n, .slice A1 cs.length n1, .slice A2 pl.length n2, .slice A3 ds.length n3, .int .i64 m] := by have := ((Loc.new w #[.int .i64 n, .slice A1 cs.length n1, .slice A2 pl.length n2, .slice A3 ds.length n3, .int .i64 m] 68).alloc _).below q; simpa using this
  have Lr : Loc W1 (w.heap.size + 1) [.int .i64 0, .slice none 0 0, .slice none 0 0, .slice none 0 0, .int .i64 0] := by have := (Loc.new (w.alloc (.cells #[.int .i64 n, .slice A1 cs.length n1, .slice A2 pl.length n2, .slice A3 ds.length n3, .int .i64 m] 68)) #[.int .i64 0, .slice none 0 0, .slice none 0 0, .slice none 0 0, .int .i64 0] 68).below q; simpa using this
  have hb : Below w.heap.size w W1 := Below.trans (by (repeat' (first | (with_reducible exact Below.refl _ _) | (with_reducible assumption) | (with_reducible refine Below.setCell ?_ (by first | omega | (simp; omega) | (simp; done)) _) | (with_reducible refine Below.alloc ?_ (by first | omega | (simp; omega) | (simp; done)) _) | (with_reducible refine Below.drew ?_) | (with_reducible refine below_drewN ?_ _)))) (q.mono (by simp <;> omega))
  have hz0 : w.heap.size + 1 + 1 ≤ W1.heap.size := by have := q.size; simp at this; omega
  have hlow : w.heap.size + 1 + 1 ≤ (((w.alloc (.cells #[.int .i64 n, .slice A1 cs.length n1, .slice A2 pl.length n2, .slice A3 ds.length n3, .int .i64 m] 68)).alloc (.cells #[.int .i64 0, .slice none 0 0, .slice none 0 0, .slice none 0 0, .int .i64 0] 68))).heap.size := by first | exact Nat.le_refl _ | (simp; done) | (simp; omega) | omega
  have FK := Lib.hid (fresh_mono f1 hlow (Nat.le_refl _))
  have DK : Hid (∀ x ∈ S, x ∉ [w.heap.size, w.heap.size + 1]) := (fun x hx => by have := (FK.out.2 x hx).1; simp; omega)
  have OK := Lib.hid ow
  clear ow f1 hlow
  clear q
  go_upto_region 2 with (fail)
  replace Lc : Loc (W1.alloc (.cells #[.int .i64 n, .slice B1 cs.length k1, .slice B2 pl.length k2, .slice B3 ds.length k3, .int .i64 m] 68)) (w.heap.size) [.int .i64 n, .slice A1 cs.length n1, .slice A2 pl.length n2, .slice A3 ds.length n3, .int .i64 m] := Lc.alloc _
  replace Lr : Loc (W1.alloc (.cells #[.int .i64 n, .slice B1 cs.length k1, .slice B2 pl.length k2, .slice B3 ds.length k3, .int .i64 m] 68)) (w.heap.size + 1) [.int .i64 0, .slice none 0 0, .slice none 0 0, .slice none 0 0, .int .i64 0] := Lr.alloc _
  obtain ⟨go, hgo⟩ : ∃ g, W1.heap.size = g := ⟨_, rfl⟩
  have Lo : Loc (W1.alloc (.cells #[.int .i64 n, .slice B1 cs.length k1, .slice B2 pl.length k2, .slice B3 ds.length k3, .int .i64 m] 68)) W1.heap.size [.int .i64 n, .slice B1 cs.length k1, .slice B2 pl.length k2, .slice B3 ds.length k3, .int .i64 m] := Loc.new W1 #[.int .i64 n, .slice B1 cs.length k1, .slice B2 pl.length k2, .slice B3 ds.length k3, .int .i64 m] 68
  rw [hgo] at Lo
  have OK' := Lib.hid (OK.out.below (w' := (W1.alloc (.cells #[.int .i64 n, .slice B1 cs.length k1, .slice B2 pl.length k2, .slice B3 ds.length k3, .int .i64 m] 68))) ((Below.refl _ _).alloc (Nat.le_refl _) _))
  clear OK; have OK := OK'; clear OK'
  have DK' : Hid (∀ x ∈ S, x ∉ [w.heap.size, w.heap.size + 1, go]) := (fun x hx => by have := DK.out x hx; have := (FK.out.2 x hx).2; simp at *; omega)
  clear DK; have DK := DK'; clear DK'
  have FK' := Lib.hid (fresh_mono (w' := (W1.alloc (.cells #[.int .i64 n, .slice B1 cs.length k1, .slice B2 pl.length k2, .slice B3 ds.length k3, .int .i64 m] 68))) FK.out (Nat.le_refl _) (by simp))
  clear FK; have FK := FK'; clear FK'
  replace hb : Below w.heap.size w (W1.alloc (.cells #[.int .i64 n, .slice B1 cs.length k1, .slice B2 pl.length k2, .slice B3 ds.length k3, .int .i64 m] 68)) := hb.alloc hb.size _
  have hlto : go < (W1.alloc (.cells #[.int .i64 n, .slice B1 cs.length k1, .slice B2 pl.length k2, .slice B3 ds.length k3, .int .i64 m] 68)).heap.size := by simp; omega
  have hne_c_o : w.heap.size < go := by omega
  have hne_r_o : w.heap.size + 1 < go := by omega
  generalize W1.alloc (.cells #[.int .i64 n, .slice B1 cs.length k1, .slice B2 pl.length k2, .slice B3 ds.length k3, .int .i64 m] 68) = W2 at *
  rw [hgo]
  clear hgo
  obtain ⟨SK1, SK3, eK, oK, pK⟩ := OK.out
  have FKx := FK.out
  have DKx := DK.out
  rw [eK] at FKx DKx
  have OK1 := Lib.hid oK
  have OK3 := Lib.hid pK
  have FK1 := Lib.hid (fresh_left FKx)
  have FK3 := Lib.hid (fresh_right FKx)
  have DK1 : Hid (∀ x ∈ SK1, x ∉ [w.heap.size, w.heap.size + 1, go]) := (fun x hx => DKx x (List.mem_append_left _ hx))
  have DK3 : Hid (∀ x ∈ SK3, x ∉ [w.heap.size, w.heap.size + 1, go]) := (fun x hx => DKx x (List.mem_append_right _ hx))
  have JK : Hid (∀ x ∈ SK1, x ∉ SK3) := (nodup2 FKx.1).2.2.1
  clear OK FK DK FKx DKx oK pK
  obtain ⟨SK11, SK12, eK1, oK1, pK1⟩ := OK1.out
  have FK1x := FK1.out
  have DK1x := DK1.out
  rw [eK1] at FK1x DK1x
  have OK11 := Lib.hid oK1
  have OK12 := Lib.hid pK1
  have FK11 := Lib.hid (fresh_left FK1x)
  have FK12 := Lib.hid (fresh_right FK1x)
  have DK11 : Hid (∀ x ∈ SK11, x ∉ [w.heap.size, w.heap.size + 1, go]) := (fun x hx => DK1x x (List.mem_append_left _ hx))
  have DK12 : Hid (∀ x ∈ SK12, x ∉ [w.heap.size, w.heap.size + 1, go]) := (fun x hx => DK1x x (List.mem_append_right _ hx))
  have JK1 : Hid (∀ x ∈ SK11, x ∉ SK12) := (nodup2 FK1x.1).2.2.1
  clear OK1 FK1 DK1 FK1x DK1x oK1 pK1
  have hU1 : ∀ x ∈ SK11, x < W2.heap.size := fun x hx => (FK11.out.2 x hx).2
  have hU3 : ∀ x ∈ SK3, x < W2.heap.size := fun x hx => (FK3.out.2 x hx).2
  have hJ13 : ∀ x ∈ SK11, x ∉ SK3 := fun x hx hx' => JK.out x (by rw [eK1]; exact List.mem_append_left _ hx) hx'
  have HJ13 := Lib.hid hJ13
  clear hJ13
  have c2 := (Lc 2 _ rfl).1
  go_wp2_with fail
  refine (specTeachPuppet_any _ pl kx px _ ((h.below hb).1.2) hszp).mono ?_
  rintro e W3 ⟨x4, SX, rfl, ox, fx, q⟩
  clear c2
  obtain ⟨C1, l1, rfl, _, _⟩ := ox.rd.form
  have hzq : W2.heap.size ≤ W3.heap.size := by have := q.size; (try simp at this); omega
  replace Lc := Lc.below q
  replace Lr := Lr.below q
  replace Lo := Lo.below q
  have OK3' := Lib.hid (OK3.out.below q)
  clear OK3; have OK3 := OK3'; clear OK3'
  have FK3' := Lib.hid (fresh_mono (w' := W3) FK3.out (Nat.le_refl _) hzq)
  clear FK3; have FK3 := FK3'; clear FK3'
  have OK11' := Lib.hid (OK11.out.below q)
  clear OK11; have OK11 := OK11'; clear OK11'
  have FK11' := Lib.hid (fresh_mono (w' := W3) FK11.out (Nat.le_refl _) hzq)
  clear FK11; have FK11 := FK11'; clear FK11'
  have OK12' := Lib.hid (OK12.out.below q)
  clear OK12; have OK12 := OK12'; clear OK12'
  have FK12' := Lib.hid (fresh_mono (w' := W3) FK12.out (Nat.le_refl _) hzq)
  clear FK12; have FK12 := FK12'; clear FK12'
  replace hb : Below w.heap.size w W3 := hb.trans (q.mono hb.size)
  have hlow : W2.heap.size ≤ W2.heap.size := by first | exact Nat.le_refl _ | (simp; done) | (simp; omega) | omega
  have FX := Lib.hid (fresh_mono fx hlow (Nat.le_refl _))
  have DX : Hid (∀ x ∈ SX, x ∉ [w.heap.size, w.heap.size + 1, go]) := (fun x hx => by have := (FX.out.2 x hx).1; simp; omega)
  have OX := Lib.hid ox
  clear ox fx hlow
  clear q
  have hlt := teach_len pl kx px
  generalize (teachF pl kx px).2 = okc at *
  generalize (teachF pl kx px).1 = pl' at *
  clear hlt
  have J1X : Hid (∀ x ∈ SK11, x ∉ SX) := (fun x hx hx' => by have := (FX.out.2 x hx').1; have := hU1 x hx; omega)
  have JX3 : Hid (∀ x ∈ SX, x ∉ SK3) := (fun x hx hx' => by have := (FX.out.2 x hx).1; have := hU3 x hx'; omega)
  clear hU1 hU3
  clear OK12 FK12 DK12
  have o0 := (Lo 0 _ rfl).1
  have of0 := (Lo 0 _ rfl).2
  have o1 := (Lo 1 _ rfl).1
  have of1 := (Lo 1 _ rfl).2
  have o2 := (Lo 2 _ rfl).1
  have of2 := (Lo 2 _ rfl).2
  have o3 := (Lo 3 _ rfl).1
  have of3 := (Lo 3 _ rfl).2
  have o4 := (Lo 4 _ rfl).1
  have of4 := (Lo 4 _ rfl).2
  go_upto_region 4 with (fail)
  clear o0 of0 o1 of1 o2 of2 o3 of3 o4 of4
  replace Lc : Loc (W3.setCell ⟨go, 2, none⟩ (.slice C1 pl'.length l1)) (w.heap.size) [.int .i64 n, .slice A1 cs.length n1, .slice A2 pl.length n2, .slice A3 ds.length n3, .int .i64 m] := Lc.far (g := go) (i := 2) (u := .slice C1 pl'.length l1) (by omega)
  replace Lr : Loc (W3.setCell ⟨go, 2, none⟩ (.slice C1 pl'.length l1)) (w.heap.size + 1) [.int .i64 0, .slice none 0 0, .slice none 0 0, .slice none 0 0, .int .i64 0] := Lr.far (g := go) (i := 2) (u := .slice C1 pl'.length l1) (by omega)
  replace Lo : Loc (W3.setCell ⟨go, 2, none⟩ (.slice C1 pl'.length l1)) (go) [.int .i64 n, .slice B1 cs.length k1, .slice C1 pl'.length l1, .slice B3 ds.length k3, .int .i64 m] := Lo.set (i := 2) (v := .slice B2 pl.length k2) rfl
  have hch : Chg [go] W3 (W3.setCell ⟨go, 2, none⟩ (.slice C1 pl'.length l1)) := chg_set (Chg.refl _ _) (by simp)
  have OK3' := Lib.hid (OK3.out.chg hch (fun x hx hx' => DK3.out x hx (by simp at hx'; subst hx'; simp)))
  clear OK3; have OK3 := OK3'; clear OK3'
  have FK3' := Lib.hid (fresh_mono (w' := (W3.setCell ⟨go, 2, none⟩ (.slice C1 pl'.length l1))) FK3.out (Nat.le_refl _) hch.size)
  clear FK3; have FK3 := FK3'; clear FK3'
  have OK11' := Lib.hid (OK11.out.chg hch (fun x hx hx' => DK11.out x hx (by simp at hx'; subst hx'; simp)))
  clear OK11; have OK11 := OK11'; clear OK11'
  have FK11' := Lib.hid (fresh_mono (w' := (W3.setCell ⟨go, 2, none⟩ (.slice C1 pl'.length l1))) FK11.out (Nat.le_refl _) hch.size)
  clear FK11; have FK11 := FK11'; clear FK11'
  have OX' := Lib.hid (OX.out.chg hch (fun x hx hx' => DX.out x hx (by simp at hx'; subst hx'; simp)))
  clear OX; have OX := OX'; clear OX'
  have FX' := Lib.hid (fresh_mono (w' := (W3.setCell ⟨go, 2, none⟩ (.slice C1 pl'.length l1))) FX.out (Nat.le_refl _) hch.size)
  clear FX; have FX := FX'; clear FX'
  replace hb : Below w.heap.size w (W3.setCell ⟨go, 2, none⟩ (.slice C1 pl'.length l1)) := Below.chg hb hch hb.size (by simp; omega)
  have hzc := hch.size
  clear hch
  generalize W3.setCell ⟨go, 2, none⟩ (.slice C1 pl'.length l1) = W4 at *
  have o4 := (Lo 4 _ rfl).1
  have c4 := (Lc 4 _ rfl).1
  have of4 := (Lo 4 _ rfl).2
  go_upto_region 5 with (fail)
  clear o4 c4 of4
  replace Lc : Loc (W4.setCell ⟨go, 4, none⟩ (.int .i64 (wrap64 (m - 4)))) (w.heap.size) [.int .i64 n, .slice A1 cs.length n1, .slice A2 pl.length n2, .slice A3 ds.length n3, .int .i64 m] := Lc.far (g := go) (i := 4) (u := .int .i64 (wrap64 (m - 4))) (by omega)
  replace Lr : Loc (W4.setCell ⟨go, 4, none⟩ (.int .i64 (wrap64 (m - 4)))) (w.heap.size + 1) [.int .i64 0, .slice none 0 0, .slice none 0 0, .slice none 0 0, .int .i64 0] := Lr.far (g := go) (i := 4) (u := .int .i64 (wrap64 (m - 4))) (by omega)
  replace Lo : Loc (W4.setCell ⟨go, 4, none⟩ (.int .i64 (wrap64 (m - 4)))) (go) [.int .i64 n, .slice B1 cs.length k1, .slice C1 pl'.length l1, .slice B3 ds.length k3, .int .i64 (wrap64 (m - 4))] := Lo.set (i := 4) (v := .int .i64 m) rfl
  have hch : Chg [go] W4 (W4.setCell ⟨go, 4, none⟩ (.int .i64 (wrap64 (m - 4)))) := chg_set (Chg.refl _ _) (by simp)
  have OK3' := Lib.hid (OK3.out.chg hch (fun x hx hx' => DK3.out x hx (by simp at hx'; subst hx'; simp)))
  clear OK3; have OK3 := OK3'; clear OK3'
  have FK3' := Lib.hid (fresh_mono (w' := (W4.setCell ⟨go, 4, none⟩ (.int .i64 (wrap64 (m - 4))))) FK3.out (Nat.le_refl _) hch.size)
  clear FK3; have FK3 := FK3'; clear FK3'
  have OK11' := Lib.hid (OK11.out.chg hch (fun x hx hx' => DK11.out x hx (by simp at hx'; subst hx'; simp)))
  clear OK11; have OK11 := OK11'; clear OK11'
  have FK11' := Lib.hid (fresh_mono (w' := (W4.setCell ⟨go, 4, none⟩ (.int .i64 (wrap64 (m - 4))))) FK11.out (Nat.le_refl _) hch.size)
  clear FK11; have FK11 := FK11'; clear FK11'
  have OX' := Lib.hid (OX.out.chg hch (fun x hx hx' => DX.out x hx (by simp at hx'; subst hx'; simp)))
  clear OX; have OX := OX'; clear OX'
  have FX' := Lib.hid (fresh_mono (w' := (W4.setCell ⟨go, 4, none⟩ (.int .i64 (wrap64 (m - 4))))) FX.out (Nat.le_refl _) hch.size)
  clear FX; have FX := FX'; clear FX'
  replace hb : Below w.heap.size w (W4.setCell ⟨go, 4, none⟩ (.int .i64 (wrap64 (m - 4)))) := Below.chg hb hch hb.size (by simp; omega)
  have hzc := hch.size
  clear hch
  generalize W4.setCell ⟨go, 4, none⟩ (.int .i64 (wrap64 (m - 4))) = W5 at *
  have FX' := Lib.hid (fresh_mono (B' := w.heap.size + 1 + 1) FX.out (by omega) (Nat.le_refl _))
  clear FX; have FX := FX'; clear FX'
  have OC : OwCompany W5 (SK11 ++ SX) (.slice B1 cs.length k1) (.slice C1 pl'.length l1) cs pl' := ⟨_, _, rfl, OK11.out, OX.out⟩
  have FC := Lib.hid (fresh_join FK11.out FX.out (J1X.out))
  have DC : Hid (∀ x ∈ SK11 ++ SX, x ∉ [w.heap.size, w.heap.size + 1, go]) := (fun x hx => (List.mem_append.1 hx).elim (DK11.out x) (DX.out x))
  have OC := Lib.hid (OC)
  clear OK11 FK11 DK11 OX FX DX
  obtain ⟨SC, hSC⟩ : ∃ T, SK11 ++ SX = T := ⟨_, rfl⟩
  rw [hSC] at OC FC DC
  have JC3 : ∀ x ∈ SC, x ∉ SK3 := fun x hx => by
    rw [← hSC] at hx
    exact (List.mem_append.1 hx).elim (HJ13.out x) (JX3.out x)
  have HJC := Lib.hid JC3
  clear JC3 hSC
  have OP : OwTheatre W5 (SC ++ SK3) (.slice B1 cs.length k1) (.slice C1 pl'.length l1) (.slice B3 ds.length k3) cs pl' ds := ⟨_, _, rfl, OC.out, OK3.out⟩
  have FQ := Lib.hid (fresh_join FC.out FK3.out (HJC.out))
  have DQ : Hid (∀ x ∈ SC ++ SK3, x ∉ [w.heap.size, w.heap.size + 1, go]) := (fun x hx => (List.mem_append.1 hx).elim (DC.out x) (DK3.out x))
  have OQ := Lib.hid (OP)
  clear OC FC DC OK3 FK3 DK3
  obtain ⟨SQ, hSQ⟩ : ∃ T, SC ++ SK3 = T := ⟨_, rfl⟩
  rw [hSQ] at OQ FQ DQ
  clear hSQ
  clear OP
  have c0 := (Lc 0 _ rfl).1
  have c1 := (Lc 1 _ rfl).1
  have c2 := (Lc 2 _ rfl).1
  have c3 := (Lc 3 _ rfl).1
  have c4 := (Lc 4 _ rfl).1
  go_wp2_with fail
  refine twoB (specTheatreOk_any n m _ _ _ cs pl ds _ (h.below hb)) (fun W6 hq q => ?_) (fun W6 hq q => ?_)
  · skip
    clear c0 c1 c2 c3 c4
    have hzq : W5.heap.size ≤ W6.heap.size := by have := q.size; (try simp at this); omega
    replace Lc := Lc.below q
    replace Lr := Lr.below q
    replace Lo := Lo.below q
    have OQ' := Lib.hid (OQ.out.below q)
    clear OQ; have OQ := OQ'; clear OQ'
    have FQ' := Lib.hid (fresh_mono (w' := W6) FQ.out (Nat.le_refl _) hzq)
    clear FQ; have FQ := FQ'; clear FQ'
    replace hb : Below w.heap.size w W6 := hb.trans (q.mono hb.size)
    clear q
    cases okc
    · skip
      have c0 := (Lc 0 _ rfl).1
      have c1 := (Lc 1 _ rfl).1
      have c2 := (Lc 2 _ rfl).1
      have c3 := (Lc 3 _ rfl).1
      have c4 := (Lc 4 _ rfl).1
      go_wp2_with fail
      refine (l38Copy_any n m _ _ _ cs pl ds _ (h.below hb) hsz).mono ?_
      rintro e W7 ⟨y1, y2, y3, T, rfl, ow6, f6, q⟩
      clear c0 c1 c2 c3 c4
      obtain ⟨⟨D1, e1, rfl⟩, ⟨D2, e2, rfl⟩, ⟨D3, e3, rfl⟩⟩ := ow6.rd.forms
      have hzq : W6.heap.size ≤ W7.heap.size := by have := q.size; (try simp at this); omega
      replace Lc := Lc.below q
      replace Lr := Lr.below q
      replace Lo := Lo.below q
      have OQ' := Lib.hid (OQ.out.below q)
      clear OQ; have OQ := OQ'; clear OQ'
      have FQ' := Lib.hid (fresh_mono (w' := W7) FQ.out (Nat.le_refl _) hzq)
      clear FQ; have FQ := FQ'; clear FQ'
      replace hb : Below w.heap.size w W7 := hb.trans (q.mono hb.size)
      have hlow : W6.heap.size ≤ W6.heap.size := by first | exact Nat.le_refl _ | (simp; done) | (simp; omega) | omega
      have FZ := Lib.hid (fresh_mono f6 hlow (Nat.le_refl _))
      have DZ : Hid (∀ x ∈ T, x ∉ [w.heap.size, w.heap.size + 1, go]) := (fun x hx => by have := (FZ.out.2 x hx).1; simp; omega)
      have OZ := Lib.hid ow6
      clear ow6 f6 hlow
      clear q
      have r0 := (Lr 0 _ rfl).1
      have rf0 := (Lr 0 _ rfl).2
      have r1 := (Lr 1 _ rfl).1
      have rf1 := (Lr 1 _ rfl).2
      have r2 := (Lr 2 _ rfl).1
      have rf2 := (Lr 2 _ rfl).2
      have r3 := (Lr 3 _ rfl).1
      have rf3 := (Lr 3 _ rfl).2
      have r4 := (Lr 4 _ rfl).1
      have rf4 := (Lr 4 _ rfl).2
      go_wp2_with fail
      refine bodyPost_ret (v := .tuple #[.agg #[.int .i64 n, .slice D1 cs.length e1, .slice D2 pl.length e2, .slice D3 ds.length e3, .int .i64 m], .bool false]) (by simp [results, Try.results39, go_sem, *]) rfl (bec_f (by simp) ⟨_, _, _, T, rfl, ?_, ?_, ?_⟩)
      · exact OZ.out.chg (T := [w.heap.size + 1]) (by repeat' (first | (with_reducible exact Chg.refl _ _) | (with_reducible refine chg_set ?_ (by simp)))) (fun x hx hx' => DZ.out x hx (by simp at hx'; subst hx'; simp))
      · exact fresh_mono FZ.out (by omega) (by simp)
      · exact Below.chg hb (S := [w.heap.size + 1]) (by repeat' (first | (with_reducible exact Chg.refl _ _) | (with_reducible refine chg_set ?_ (by simp)))) hb.size (fun x hx => by simp at hx; omega)
    · skip
      have o0 := (Lo 0 _ rfl).1
      have o1 := (Lo 1 _ rfl).1
      have o2 := (Lo 2 _ rfl).1
      have o3 := (Lo 3 _ rfl).1
      have o4 := (Lo 4 _ rfl).1
      go_wp2_with fail
      refine twoB (specTheatreOk_any n (wrap64 (m - 4)) _ _ _ cs pl' ds _ OQ.out.rd) (fun W7 hq' q => ?_) (fun W7 hq' q => ?_)
      · skip
        clear o0 o1 o2 o3 o4
        have hzq : W6.heap.size ≤ W7.heap.size := by have := q.size; (try simp at this); omega
        replace Lc := Lc.below q
        replace Lr := Lr.below q
        replace Lo := Lo.below q
        have OQ' := Lib.hid (OQ.out.below q)
        clear OQ; have OQ := OQ'; clear OQ'
        have FQ' := Lib.hid (fresh_mono (w' := W7) FQ.out (Nat.le_refl _) hzq)
        clear FQ; have FQ := FQ'; clear FQ'
        replace hb : Below w.heap.size w W7 := hb.trans (q.mono hb.size)
        clear q
        have o0 := (Lo 0 _ rfl).1
        have o1 := (Lo 1 _ rfl).1
        have o2 := (Lo 2 _ rfl).1
        have o3 := (Lo 3 _ rfl).1
        have o4 := (Lo 4 _ rfl).1
        have r0 := (Lr 0 _ rfl).1
        have rf0 := (Lr 0 _ rfl).2
        have r1 := (Lr 1 _ rfl).1
        have rf1 := (Lr 1 _ rfl).2
        have r2 := (Lr 2 _ rfl).1
        have rf2 := (Lr 2 _ rfl).2
        have r3 := (Lr 3 _ rfl).1
        have rf3 := (Lr 3 _ rfl).2
        have r4 := (Lr 4 _ rfl).1
        have rf4 := (Lr 4 _ rfl).2
        go_wp2_with fail
        refine bodyPost_ret (v := .tuple #[.agg #[.int .i64 n, .slice B1 cs.length k1, .slice C1 pl'.length l1, .slice B3 ds.length k3, .int .i64 (wrap64 (m - 4))], .bool true]) (by simp [results, Try.results39, go_sem, *]) rfl (bec_t ⟨hq.out, rfl, hq'.out⟩ ⟨_, _, _, SQ, rfl, ?_, ?_, ?_⟩)
        · exact OQ.out.chg (T := [w.heap.size + 1]) (by repeat' (first | (with_reducible exact Chg.refl _ _) | (with_reducible refine chg_set ?_ (by simp)))) (fun x hx hx' => DQ.out x hx (by simp at hx'; subst hx'; simp))
        · exact fresh_mono FQ.out (by omega) (by simp)
        · exact Below.chg hb (S := [w.heap.size + 1]) (by repeat' (first | (with_reducible exact Chg.refl _ _) | (with_reducible refine chg_set ?_ (by simp)))) hb.size (fun x hx => by simp at hx; omega)
      · skip
        clear o0 o1 o2 o3 o4
        have hzq : W6.heap.size ≤ W7.heap.size := by have := q.size; (try simp at this); omega
        replace Lc := Lc.below q
        replace Lr := Lr.below q
        replace Lo := Lo.below q
        have OQ' := Lib.hid (OQ.out.below q)
        clear OQ; have OQ := OQ'; clear OQ'
        have FQ' := Lib.hid (fresh_mono (w' := W7) FQ.out (Nat.le_refl _) hzq)
        clear FQ; have FQ := FQ'; clear FQ'
        replace hb : Below w.heap.size w W7 := hb.trans (q.mono hb.size)
        clear q
        have c0 := (Lc 0 _ rfl).1
        have c1 := (Lc 1 _ rfl).1
        have c2 := (Lc 2 _ rfl).1
        have c3 := (Lc 3 _ rfl).1
        have c4 := (Lc 4 _ rfl).1
        go_wp2_with fail
        refine (l38Copy_any n m _ _ _ cs pl ds _ (h.below hb) hsz).mono ?_
        rintro e W8 ⟨y1, y2, y3, T, rfl, ow6, f6, q⟩
        clear c0 c1 c2 c3 c4
        obtain ⟨⟨D1, e1, rfl⟩, ⟨D2, e2, rfl⟩, ⟨D3, e3, rfl⟩⟩ := ow6.rd.forms
        have hzq : W7.heap.size ≤ W8.heap.size := by have := q.size; (try simp at this); omega
        replace Lc := Lc.below q
        replace Lr := Lr.below q
        replace Lo := Lo.below q
        have OQ' := Lib.hid (OQ.out.below q)
        clear OQ; have OQ := OQ'; clear OQ'
        have FQ' := Lib.hid (fresh_mono (w' := W8) FQ.out (Nat.le_refl _) hzq)
        clear FQ; have FQ := FQ'; clear FQ'
        replace hb : Below w.heap.size w W8 := hb.trans (q.mono hb.size)
        have hlow : W7.heap.size ≤ W7.heap.size := by first | exact Nat.le_refl _ | (simp; done) | (simp; omega) | omega
        have FZ := Lib.hid (fresh_mono f6 hlow (Nat.le_refl _))
        have DZ : Hid (∀ x ∈ T, x ∉ [w.heap.size, w.heap.size + 1, go]) := (fun x hx => by have := (FZ.out.2 x hx).1; simp; omega)
        have OZ := Lib.hid ow6
        clear ow6 f6 hlow
        clear q
        have r0 := (Lr 0 _ rfl).1
        have rf0 := (Lr 0 _ rfl).2
        have r1 := (Lr 1 _ rfl).1
        have rf1 := (Lr 1 _ rfl).2
        have r2 := (Lr 2 _ rfl).1
        have rf2 := (Lr 2 _ rfl).2
        have r3 := (Lr 3 _ rfl).1
        have rf3 := (Lr 3 _ rfl).2
        have r4 := (Lr 4 _ rfl).1
        have rf4 := (Lr 4 _ rfl).2
        go_wp2_with fail
        refine bodyPost_ret (v := .tuple #[.agg #[.int .i64 n, .slice D1 cs.length e1, .slice D2 pl.length e2, .slice D3 ds.length e3, .int .i64 m], .bool false]) (by simp [results, Try.results39, go_sem, *]) rfl (bec_f (fun hh => absurd (show theatreB n (wrap64 (m - 4)) cs pl' ds = true from hh.2.2) (by rw [hq'.out]; simp)) ⟨_, _, _, T, rfl, ?_, ?_, ?_⟩)
        · exact OZ.out.chg (T := [w.heap.size + 1]) (by repeat' (first | (with_reducible exact Chg.refl _ _) | (with_reducible refine chg_set ?_ (by simp)))) (fun x hx hx' => DZ.out x hx (by simp at hx'; subst hx'; simp))
        · exact fresh_mono FZ.out (by omega) (by simp)
        · exact Below.chg hb (S := [w.heap.size + 1]) (by repeat' (first | (with_reducible exact Chg.refl _ _) | (with_reducible refine chg_set ?_ (by simp)))) hb.size (fun x hx => by simp at hx; omega)
  · skip
    clear c0 c1 c2 c3 c4
    have hzq : W5.heap.size ≤ W6.heap.size := by have := q.size; (try simp at this); omega
    replace Lc := Lc.below q
    replace Lr := Lr.below q
    replace Lo := Lo.below q
    have OQ' := Lib.hid (OQ.out.below q)
    clear OQ; have OQ := OQ'; clear OQ'
    have FQ' := Lib.hid (fresh_mono (w' := W6) FQ.out (Nat.le_refl _) hzq)
    clear FQ; have FQ := FQ'; clear FQ'
    replace hb : Below w.heap.size w W6 := hb.trans (q.mono hb.size)
    clear q
    have c0 := (Lc 0 _ rfl).1
    have c1 := (Lc 1 _ rfl).1
    have c2 := (Lc 2 _ rfl).1
    have c3 := (Lc 3 _ rfl).1
    have c4 := (Lc 4 _ rfl).1
    go_wp2_with fail
    refine (l38Copy_any n m _ _ _ cs pl ds _ (h.below hb) hsz).mono ?_
    rintro e W7 ⟨y1, y2, y3, T, rfl, ow6, f6, q⟩
    clear c0 c1 c2 c3 c4
    obtain ⟨⟨D1, e1, rfl⟩, ⟨D2, e2, rfl⟩, ⟨D3, e3, rfl⟩⟩ := ow6.rd.forms
    have hzq : W6.heap.size ≤ W7.heap.size := by have := q.size; (try simp at this); omega
    replace Lc := Lc.below q
    replace Lr := Lr.below q
    replace Lo := Lo.below q
    have OQ' := Lib.hid (OQ.out.below q)
    clear OQ; have OQ := OQ'; clear OQ'
    have FQ' := Lib.hid (fresh_mono (w' := W7) FQ.out (Nat.le_refl _) hzq)
    clear FQ; have FQ := FQ'; clear FQ'
    replace hb : Below w.heap.size w W7 := hb.trans (q.mono hb.size)
    have hlow : W6.heap.size ≤ W6.heap.size := by first | exact Nat.le_refl _ | (simp; done) | (simp; omega) | omega
    have FZ := Lib.hid (fresh_mono f6 hlow (Nat.le_refl _))
    have DZ : Hid (∀ x ∈ T, x ∉ [w.heap.size, w.heap.size + 1, go]) := (fun x hx => by have := (FZ.out.2 x hx).1; simp; omega)
    have OZ := Lib.hid ow6
    clear ow6 f6 hlow
    clear q
    have r0 := (Lr 0 _ rfl).1
    have rf0 := (Lr 0 _ rfl).2
    have r1 := (Lr 1 _ rfl).1
    have rf1 := (Lr 1 _ rfl).2
    have r2 := (Lr 2 _ rfl).1
    have rf2 := (Lr 2 _ rfl).2
    have r3 := (Lr 3 _ rfl).1
    have rf3 := (Lr 3 _ rfl).2
    have r4 := (Lr 4 _ rfl).1
    have rf4 := (Lr 4 _ rfl).2
    go_wp2_with fail
    refine bodyPost_ret (v := .tuple #[.agg #[.int .i64 n, .slice D1 cs.length e1, .slice D2 pl.length e2, .slice D3 ds.length e3, .int .i64 m], .bool false]) (by simp [results, Try.results39, go_sem, *]) rfl (bec_f (fun hh => absurd (show theatreB n m cs pl ds = true from hh.1) (by rw [hq.out]; simp)) ⟨_, _, _, T, rfl, ?_, ?_, ?_⟩)
    · exact OZ.out.chg (T := [w.heap.size + 1]) (by repeat' (first | (with_reducible exact Chg.refl _ _) | (with_reducible refine chg_set ?_ (by simp)))) (fun x hx hx' => DZ.out x hx (by simp at hx'; subst hx'; simp))
    · exact fresh_mono FZ.out (by omega) (by simp)
    · exact Below.chg hb (S := [w.heap.size + 1]) (by repeat' (first | (with_reducible exact Chg.refl _ _) | (with_reducible refine chg_set ?_ (by simp)))) hb.size (fun x hx => by simp at hx; omega)
theorem teach2 (n m kx px : Int) (cs : List RCross) (pl : List RPl) (ds : List Int) : ∃ n' m' ok cs' pl' ds', (szTheatre cs' pl' ds' ≤ szTheatre cs pl ds ∨ szTheatre cs' pl' ds' ≤ 148) ∧
    (∀ W v1 v2 v3, RdTheatre W v1 v2 v3 cs pl ds → szTheatre cs pl ds ≤ 1048576 → Calls Try.prog 39 #[.agg #[.int .i64 n, v1, v2, v3, .int .i64 m], .int .i64 kx, .int .i64 px] W (RetT W.heap.size n' m' ok cs' pl' ds' W)) ∧
    (∀ W v1 v2 v3, RdTheatre W v1 v2 v3 cs pl ds → szTheatre cs pl ds ≤ 1048576 → Calls Try.prog 41 #[.agg #[.int .i64 n, v1, v2, v3, .int .i64 m], .int .i64 kx, .int .i64 px] W (RetT W.heap.size n' m' ok cs' pl' ds' W)) :=
  ⟨_, _, _, _, _, _, bec_sz ⟨n, m, cs, pl, ds⟩ _ _, fun W v1 v2 v3 hr hs => specTeachPlayer_any n m kx px v1 v2 v3 cs pl ds W hr hs, fun W v1 v2 v3 hr hs => implTeachPlayer_any n m kx px v1 v2 v3 cs pl ds W hr hs⟩
end Go.Proofs.Ytkejgogheonakaa
