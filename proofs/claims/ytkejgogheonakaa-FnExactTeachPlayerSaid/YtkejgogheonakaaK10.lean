/- Contracts: theatres that become others: becomes, HirePlayer, MovePuppet. Written by a program (gen_k10.py). -/
import Derived.Test.YtkejgogheonakaaCPTheatre
import Derived.Test.YtkejgogheonakaaK5
import Derived.Test.YtkejgogheonakaaK7
import Derived.Deep.DeepCutAuto
namespace Go.Proofs.Ytkejgogheonakaa
open Go.RowKit
/-- A theatre as data. -/
structure Th where
  n : Int
  m : Int
  cs : List RCross
  pl : List RPl
  ds : List Int
def Th.ok (t : Th) : Bool := theatreB t.n t.m t.cs t.pl t.ds
def Th.sz (t : Th) : Nat := szTheatre t.cs t.pl t.ds
/-- A theatre and a Bool are returned, in blocks of the call's own from B on. -/
def RetT (B : Nat) (n m : Int) (ok : Bool) (cs : List RCross) (pl : List RPl) (ds : List Int) (w : World) (e : Ending) (w' : World) : Prop :=
  ∃ x1 x2 x3 S, e = .returned (.tuple #[.agg #[.int .i64 n, x1, x2, x3, .int .i64 m], .bool ok]) ∧ OwTheatre w' S x1 x2 x3 cs pl ds ∧ Fresh B w' S ∧ Below w.heap.size w w'
def RetTh (B : Nat) (r : Th × Bool) : World → Ending → World → Prop := RetT B r.1.n r.1.m r.2 r.1.cs r.1.pl r.1.ds
def becF (t u : Th) (ok : Bool) : Th × Bool := if t.ok = true ∧ ok = true ∧ u.ok = true then (u, true) else (t, false)
theorem theatreB_sz {n m : Int} {cs : List RCross} {pl : List RPl} {ds : List Int} (h : theatreB n m cs pl ds = true) : szTheatre cs pl ds ≤ 148 := by
  rw [theatreB, Bool.and_eq_true, Bool.and_eq_true] at h
  have h1 := companyB_sz h.1.1
  have h2 := h.1.2
  rw [keepsB, Bool.and_eq_true, Bool.and_eq_true] at h2
  have h3 := (season_bd h2.1.1).1
  unfold szTheatre
  omega
theorem bec_sz (t u : Th) (ok : Bool) : (becF t u ok).1.sz ≤ t.sz ∨ (becF t u ok).1.sz ≤ 148 := by
  unfold becF
  split
  · rename_i h; exact .inr (theatreB_sz h.2.2)
  · exact .inl (Nat.le_refl _)
theorem bec_t {B : Nat} {t u : Th} {ok : Bool} {w w' : World} {e : Ending} (h : t.ok = true ∧ ok = true ∧ u.ok = true) (hr : RetTh B (u, true) w e w') : RetTh B (becF t u ok) w e w' := by rw [becF, if_pos h]; exact hr
theorem bec_f {B : Nat} {t u : Th} {ok : Bool} {w w' : World} {e : Ending} (h : ¬ (t.ok = true ∧ ok = true ∧ u.ok = true)) (hr : RetTh B (t, false) w e w') : RetTh B (becF t u ok) w e w' := by rw [becF, if_neg h]; exact hr
set_option maxHeartbeats 8000000 in
set_option maxRecDepth 100000 in
theorem becomes_any (n m n' m' : Int) (v1 v2 v3 y1 y2 y3 : Value) (cs cs' : List RCross) (pl pl' : List RPl) (ds ds' : List Int) (ok : Bool) (B : Nat) (S : List Nat) (w : World) (h : RdTheatre w v1 v2 v3 cs pl ds) (hsz : szTheatre cs pl ds ≤ 1048576) (how : OwTheatre w S y1 y2 y3 cs' pl' ds') (hf : Fresh B w S) (hB : B ≤ w.heap.size) :
    Calls Try.prog 91 #[.agg #[.int .i64 n, v1, v2, v3, .int .i64 m], .agg #[.int .i64 n', y1, y2, y3, .int .i64 m'], .bool ok] w (RetTh B (becF ⟨n, m, cs, pl, ds⟩ ⟨n', m', cs', pl', ds'⟩ ok) w) := by
  obtain ⟨⟨A1, n1, rfl⟩, ⟨A2, n2, rfl⟩, ⟨A3, n3, rfl⟩⟩ := h.forms
  obtain ⟨⟨B1, k1, rfl⟩, ⟨B2, k2, rfl⟩, ⟨B3, k3, rfl⟩⟩ := how.rd.forms
  have Hok := Lib.hid how
  clear how
  go_enter Try.func91, Try.ntmps91
  go_wp2_with fail
  refine twoB (implTheatreOk_any n m _ _ _ cs pl ds _ (h.below (by (repeat' (first | (with_reducible exact Below.refl _ _) | (with_reducible assumption) | (with_reducible refine Below.setCell ?_ (by first | omega | (simp; omega) | (simp; done)) _) | (with_reducible refine Below.alloc ?_ (by first | omega | (simp; omega) | (simp; done)) _) | (with_reducible refine Below.drew ?_) | (with_reducible refine below_drewN ?_ _)))))) (fun W1 hq q => ?_) (fun W1 hq q => ?_)
  · skip
    have Lc : Loc W1 (w.heap.size) [.int .i64 n, .slice A1 cs.length n1, .slice A2 pl.length n2, .slice A3 ds.length n3, .int .i64 m] := by have := (((Loc.new w #[.int .i64 n, .slice A1 cs.length n1, .slice A2 pl.length n2, .slice A3 ds.length n3, .int .i64 m] 68).alloc _).alloc _).below q; simpa using this
    have Ld : Loc W1 (w.heap.size + 1) [.int .i64 n', .slice B1 cs'.length k1, .slice B2 pl'.length k2, .slice B3 ds'.length k3, .int .i64 m'] := by have := ((Loc.new (w.alloc (.cells #[.int .i64 n, .slice A1 cs.length n1, .slice A2 pl.length n2, .slice A3 ds.length n3, .int .i64 m] 68)) #[.int .i64 n', .slice B1 cs'.length k1, .slice B2 pl'.length k2, .slice B3 ds'.length k3, .int .i64 m'] 68).alloc _).below q; simpa using this
    have Lr : Loc W1 (w.heap.size + 1 + 1) [.int .i64 0, .slice none 0 0, .slice none 0 0, .slice none 0 0, .int .i64 0] := by have := (Loc.new ((w.alloc (.cells #[.int .i64 n, .slice A1 cs.length n1, .slice A2 pl.length n2, .slice A3 ds.length n3, .int .i64 m] 68)).alloc (.cells #[.int .i64 n', .slice B1 cs'.length k1, .slice B2 pl'.length k2, .slice B3 ds'.length k3, .int .i64 m'] 68)) #[.int .i64 0, .slice none 0 0, .slice none 0 0, .slice none 0 0, .int .i64 0] 68).below q; simpa using this
    have hb : Below w.heap.size w W1 := Below.trans (by (repeat' (first | (with_reducible exact Below.refl _ _) | (with_reducible assumption) | (with_reducible refine Below.setCell ?_ (by first | omega | (simp; omega) | (simp; done)) _) | (with_reducible refine Below.alloc ?_ (by first | omega | (simp; omega) | (simp; done)) _) | (with_reducible refine Below.drew ?_) | (with_reducible refine below_drewN ?_ _)))) (q.mono (by simp <;> omega))
    have hz0 : w.heap.size + 1 + 1 + 1 ≤ W1.heap.size := by have := q.size; simp at this; omega
    clear q
    have OK : Hid (OwTheatre W1 S _ _ _ cs' pl' ds') := Lib.hid (Hok.out.below hb)
    have FK : Hid (Fresh B W1 S) := Lib.hid (fresh_mono hf (Nat.le_refl _) hb.size)
    have DK : Hid (∀ x ∈ S, x ∉ [w.heap.size, w.heap.size + 1, w.heap.size + 1 + 1]) := (fun x hx => by have := (hf.2 x hx).2; simp; omega)
    cases ok
    · skip
      have c0 := (Lc 0 _ rfl).1
      have c1 := (Lc 1 _ rfl).1
      have c2 := (Lc 2 _ rfl).1
      have c3 := (Lc 3 _ rfl).1
      have c4 := (Lc 4 _ rfl).1
      go_wp2_with fail
      refine (theatreCopied_any n m _ _ _ cs pl ds _ (h.below hb) hsz).mono ?_
      rintro e W2 ⟨y1, y2, y3, T, rfl, ow6, f6, q⟩
      clear c0 c1 c2 c3 c4
      obtain ⟨⟨D1, e1, rfl⟩, ⟨D2, e2, rfl⟩, ⟨D3, e3, rfl⟩⟩ := ow6.rd.forms
      have hzq : W1.heap.size ≤ W2.heap.size := by have := q.size; (try simp at this); omega
      replace Lc := Lc.below q
      replace Ld := Ld.below q
      replace Lr := Lr.below q
      have OK' := Lib.hid (OK.out.below q)
      clear OK; have OK := OK'; clear OK'
      have FK' := Lib.hid (fresh_mono (w' := W2) FK.out (Nat.le_refl _) hzq)
      clear FK; have FK := FK'; clear FK'
      replace hb : Below w.heap.size w W2 := hb.trans (q.mono hb.size)
      have hlow : W1.heap.size ≤ W1.heap.size := by first | exact Nat.le_refl _ | (simp; done) | (simp; omega) | omega
      have FZ := Lib.hid (fresh_mono f6 hlow (Nat.le_refl _))
      have DZ : Hid (∀ x ∈ T, x ∉ [w.heap.size, w.heap.size + 1, w.heap.size + 1 + 1]) := (fun x hx => by have := (FZ.out.2 x hx).1; simp; omega)
      have OZ := Lib.hid ow6
      clear ow6 f6 hlow
      clear q
      have r0 := (Lr 0 _ rfl).1
      have rf0 := (Lr 0 _ rfl).2
      have r1 := (Lr 1 _ rfl).1
      have rf1 := (Lr 1 _ rfl).2
      have r2 := (Lr 2 _ rfl).1
      have rf2 := (Lr 2 _ rfl).2
      have r3 := (Lr 3 _ rfl).1
      have rf3 := (Lr 3 _ rfl).2
      have r4 := (Lr 4 _ rfl).1
      have rf4 := (Lr 4 _ rfl).2
      go_wp2_with fail
      refine bodyPost_ret (v := .tuple #[.agg #[.int .i64 n, .slice D1 cs.length e1, .slice D2 pl.length e2, .slice D3 ds.length e3, .int .i64 m], .bool false]) (by simp [results, Try.results91, go_sem, *]) rfl (bec_f (by simp) ⟨_, _, _, T, rfl, ?_, ?_, ?_⟩)
      · exact OZ.out.chg (T := [w.heap.size + 1 + 1]) (by repeat' (first | (with_reducible exact Chg.refl _ _) | (with_reducible refine chg_set ?_ (by simp)))) (fun x hx hx' => DZ.out x hx (by simp at hx'; subst hx'; simp))
      · exact fresh_mono FZ.out (by omega) (by simp)
      · exact Below.chg hb (S := [w.heap.size + 1 + 1]) (by repeat' (first | (with_reducible exact Chg.refl _ _) | (with_reducible refine chg_set ?_ (by simp)))) hb.size (fun x hx => by simp at hx; omega)
    · skip
      have d0 := (Ld 0 _ rfl).1
      have d1 := (Ld 1 _ rfl).1
      have d2 := (Ld 2 _ rfl).1
      have d3 := (Ld 3 _ rfl).1
      have d4 := (Ld 4 _ rfl).1
      go_wp2_with fail
      refine twoB (implTheatreOk_any n' m' _ _ _ cs' pl' ds' _ OK.out.rd) (fun W2 hq' q => ?_) (fun W2 hq' q => ?_)
      · skip
        clear d0 d1 d2 d3 d4
        have hzq : W1.heap.size ≤ W2.heap.size := by have := q.size; (try simp at this); omega
        replace Lc := Lc.below q
        replace Ld := Ld.below q
        replace Lr := Lr.below q
        have OK' := Lib.hid (OK.out.below q)
        clear OK; have OK := OK'; clear OK'
        have FK' := Lib.hid (fresh_mono (w' := W2) FK.out (Nat.le_refl _) hzq)
        clear FK; have FK := FK'; clear FK'
        replace hb : Below w.heap.size w W2 := hb.trans (q.mono hb.size)
        clear q
        have d0 := (Ld 0 _ rfl).1
        have d1 := (Ld 1 _ rfl).1
        have d2 := (Ld 2 _ rfl).1
        have d3 := (Ld 3 _ rfl).1
        have d4 := (Ld 4 _ rfl).1
        have r0 := (Lr 0 _ rfl).1
        have rf0 := (Lr 0 _ rfl).2
        have r1 := (Lr 1 _ rfl).1
        have rf1 := (Lr 1 _ rfl).2
        have r2 := (Lr 2 _ rfl).1
        have rf2 := (Lr 2 _ rfl).2
        have r3 := (Lr 3 _ rfl).1
        have rf3 := (Lr 3 _ rfl).2
        have r4 := (Lr 4 _ rfl).1
        have rf4 := (Lr 4 _ rfl).2
        go_wp2_with fail
        refine bodyPost_ret (v := .tuple #[.agg #[.int .i64 n', .slice B1 cs'.length k1, .slice B2 pl'.length k2, .slice B3 ds'.length k3, .int .i64 m'], .bool true]) (by simp [results, Try.results91, go_sem, *]) rfl (bec_t ⟨hq.out, rfl, hq'.out⟩ ⟨_, _, _, S, rfl, ?_, ?_, ?_⟩)
        · exact OK.out.chg (T := [w.heap.size + 1 + 1]) (by repeat' (first | (with_reducible exact Chg.refl _ _) | (with_reducible refine chg_set ?_ (by simp)))) (fun x hx hx' => DK.out x hx (by simp at hx'; subst hx'; simp))
        · exact fresh_mono FK.out (by omega) (by simp)
        · exact Below.chg hb (S := [w.heap.size + 1 + 1]) (by repeat' (first | (with_reducible exact Chg.refl _ _) | (with_reducible refine chg_set ?_ (by simp)))) hb.size (fun x hx => by simp at hx; omega)
      · skip
        clear d0 d1 d2 d3 d4
        have hzq : W1.heap.size ≤ W2.heap.size := by have := q.size; (try simp at this); omega
        replace Lc := Lc.below q
        replace Ld := Ld.below q
        replace Lr := Lr.below q
        have OK' := Lib.hid (OK.out.below q)
        clear OK; have OK := OK'; clear OK'
        have FK' := Lib.hid (fresh_mono (w' := W2) FK.out (Nat.le_refl _) hzq)
        clear FK; have FK := FK'; clear FK'
        replace hb : Below w.heap.size w W2 := hb.trans (q.mono hb.size)
        clear q
        have c0 := (Lc 0 _ rfl).1
        have c1 := (Lc 1 _ rfl).1
        have c2 := (Lc 2 _ rfl).1
        have c3 := (Lc 3 _ rfl).1
        have c4 := (Lc 4 _ rfl).1
        go_wp2_with fail
        refine (theatreCopied_any n m _ _ _ cs pl ds _ (h.below hb) hsz).mono ?_
        rintro e W3 ⟨y1, y2, y3, T, rfl, ow6, f6, q⟩
        clear c0 c1 c2 c3 c4
        obtain ⟨⟨D1, e1, rfl⟩, ⟨D2, e2, rfl⟩, ⟨D3, e3, rfl⟩⟩ := ow6.rd.forms
        have hzq : W2.heap.size ≤ W3.heap.size := by have := q.size; (try simp at this); omega
        replace Lc := Lc.below q
        replace Ld := Ld.below q
        replace Lr := Lr.below q
        have OK' := Lib.hid (OK.out.below q)
        clear OK; have OK := OK'; clear OK'
        have FK' := Lib.hid (fresh_mono (w' := W3) FK.out (Nat.le_refl _) hzq)
        clear FK; have FK := FK'; clear FK'
        replace hb : Below w.heap.size w W3 := hb.trans (q.mono hb.size)
        have hlow : W2.heap.size ≤ W2.heap.size := by first | exact Nat.le_refl _ | (simp; done) | (simp; omega) | omega
        have FZ := Lib.hid (fresh_mono f6 hlow (Nat.le_refl _))
        have DZ : Hid (∀ x ∈ T, x ∉ [w.heap.size, w.heap.size + 1, w.heap.size + 1 + 1]) := (fun x hx => by have := (FZ.out.2 x hx).1; simp; omega)
        have OZ := Lib.hid ow6
        clear ow6 f6 hlow
        clear q
        have r0 := (Lr 0 _ rfl).1
        have rf0 := (Lr 0 _ rfl).2
        have r1 := (Lr 1 _ rfl).1
        have rf1 := (Lr 1 _ rfl).2
        have r2 := (Lr 2 _ rfl).1
        have rf2 := (Lr 2 _ rfl).2
        have r3 := (Lr 3 _ rfl).1
        have rf3 := (Lr 3 _ rfl).2
        have r4 := (Lr 4 _ rfl).1
        have rf4 := (Lr 4 _ rfl).2
        go_wp2_with fail
        refine bodyPost_ret (v := .tuple #[.agg #[.int .i64 n, .slice D1 cs.length e1, .slice D2 pl.length e2, .slice D3 ds.length e3, .int .i64 m], .bool false]) (by simp [results, Try.results91, go_sem, *]) rfl (bec_f (fun hh => absurd (show theatreB n' m' cs' pl' ds' = true from hh.2.2) (by rw [hq'.out]; simp)) ⟨_, _, _, T, rfl, ?_, ?_, ?_⟩)
        · exact OZ.out.chg (T := [w.heap.size + 1 + 1]) (by repeat' (first | (with_reducible exact Chg.refl _ _) | (with_reducible refine chg_set ?_ (by simp)))) (fun x hx hx' => DZ.out x hx (by simp at hx'; subst hx'; simp))
        · exact fresh_mono FZ.out (by omega) (by simp)
        · exact Below.chg hb (S := [w.heap.size + 1 + 1]) (by repeat' (first | (with_reducible exact Chg.refl _ _) | (with_reducible refine chg_set ?_ (by simp)))) hb.size (fun x hx => by simp at hx; omega)
  · skip
    have Lc : Loc W1 (w.heap.size) [.int .i64 n, .slice A1 cs.length n1, .slice A2 pl.length n2, .slice A3 ds.length n3, .int .i64 m] := by have := (((Loc.new w #[.int .i64 n, .slice A1 cs.length n1, .slice A2 pl.length n2, .slice A3 ds.length n3, .int .i64 m] 68).alloc _).alloc _).below q; simpa using this
    have Ld : Loc W1 (w.heap.size + 1) [.int .i64 n', .slice B1 cs'.length k1, .slice B2 pl'.length k2, .slice B3 ds'.length k3, .int .i64 m'] := by have := ((Loc.new (w.alloc (.cells #[.int .i64 n, .slice A1 cs.length n1, .slice A2 pl.length n2, .slice A3 ds.length n3, .int .i64 m] 68)) #[.int .i64 n', .slice B1 cs'.length k1, .slice B2 pl'.length k2, .slice B3 ds'.length k3, .int .i64 m'] 68).alloc _).below q; simpa using this
    have Lr : Loc W1 (w.heap.size + 1 + 1) [.int .i64 0, .slice none 0 0, .slice none 0 0, .slice none 0 0, .int .i64 0] := by have := (Loc.new ((w.alloc (.cells #[.int .i64 n, .slice A1 cs.length n1, .slice A2 pl.length n2, .slice A3 ds.length n3, .int .i64 m] 68)).alloc (.cells #[.int .i64 n', .slice B1 cs'.length k1, .slice B2 pl'.length k2, .slice B3 ds'.length k3, .int .i64 m'] 68)) #[.int .i64 0, .slice none 0 0, .slice none 0 0, .slice none 0 0, .int .i64 0] 68).below q; simpa using this
    have hb : Below w.heap.size w W1 := Below.trans (by (repeat' (first | (with_reducible exact Below.refl _ _) | (with_reducible assumption) | (with_reducible refine Below.setCell ?_ (by first | omega | (simp; omega) | (simp; done)) _) | (with_reducible refine Below.alloc ?_ (by first | omega | (simp; omega) | (simp; done)) _) | (with_reducible refine Below.drew ?_) | (with_reducible refine below_drewN ?_ _)))) (q.mono (by simp <;> omega))
    have hz0 : w.heap.size + 1 + 1 + 1 ≤ W1.heap.size := by have := q.size; simp at this; omega
    clear q
    have OK : Hid (OwTheatre W1 S _ _ _ cs' pl' ds') := Lib.hid (Hok.out.below hb)
    have FK : Hid (Fresh B W1 S) := Lib.hid (fresh_mono hf (Nat.le_refl _) hb.size)
    have DK : Hid (∀ x ∈ S, x ∉ [w.heap.size, w.heap.size + 1, w.heap.size + 1 + 1]) := (fun x hx => by have := (hf.2 x hx).2; simp; omega)
    cases ok
    · skip
      have c0 := (Lc 0 _ rfl).1
      have c1 := (Lc 1 _ rfl).1
      have c2 := (Lc 2 _ rfl).1
      have c3 := (Lc 3 _ rfl).1
      have c4 := (Lc 4 _ rfl).1
      go_wp2_with fail
      refine (theatreCopied_any n m _ _ _ cs pl ds _ (h.below hb) hsz).mono ?_
      rintro e W2 ⟨y1, y2, y3, T, rfl, ow6, f6, q⟩
      clear c0 c1 c2 c3 c4
      obtain ⟨⟨D1, e1, rfl⟩, ⟨D2, e2, rfl⟩, ⟨D3, e3, rfl⟩⟩ := ow6.rd.forms
      have hzq : W1.heap.size ≤ W2.heap.size := by have := q.size; (try simp at this); omega
      replace Lc := Lc.below q
      replace Ld := Ld.below q
      replace Lr := Lr.below q
      have OK' := Lib.hid (OK.out.below q)
      clear OK; have OK := OK'; clear OK'
      have FK' := Lib.hid (fresh_mono (w' := W2) FK.out (Nat.le_refl _) hzq)
      clear FK; have FK := FK'; clear FK'
      replace hb : Below w.heap.size w W2 := hb.trans (q.mono hb.size)
      have hlow : W1.heap.size ≤ W1.heap.size := by first | exact Nat.le_refl _ | (simp; done) | (simp; omega) | omega
      have FZ := Lib.hid (fresh_mono f6 hlow (Nat.le_refl _))
      have DZ : Hid (∀ x ∈ T, x ∉ [w.heap.size, w.heap.size + 1, w.heap.size + 1 + 1]) := (fun x hx => by have := (FZ.out.2 x hx).1; simp; omega)
      have OZ := Lib.hid ow6
      clear ow6 f6 hlow
      clear q
      have r0 := (Lr 0 _ rfl).1
      have rf0 := (Lr 0 _ rfl).2
      have r1 := (Lr 1 _ rfl).1
      have rf1 := (Lr 1 _ rfl).2
      have r2 := (Lr 2 _ rfl).1
      have rf2 := (Lr 2 _ rfl).2
      have r3 := (Lr 3 _ rfl).1
      have rf3 := (Lr 3 _ rfl).2
      have r4 := (Lr 4 _ rfl).1
      have rf4 := (Lr 4 _ rfl).2
      go_wp2_with fail
      refine bodyPost_ret (v := .tuple #[.agg #[.int .i64 n, .slice D1 cs.length e1, .slice D2 pl.length e2, .slice D3 ds.length e3, .int .i64 m], .bool false]) (by simp [results, Try.results91, go_sem, *]) rfl (bec_f (fun hh => absurd (show theatreB n m cs pl ds = true from hh.1) (by rw [hq.out]; simp)) ⟨_, _, _, T, rfl, ?_, ?_, ?_⟩)
      · exact OZ.out.chg (T := [w.heap.size + 1 + 1]) (by repeat' (first | (with_reducible exact Chg.refl _ _) | (with_reducible refine chg_set ?_ (by simp)))) (fun x hx hx' => DZ.out x hx (by simp at hx'; subst hx'; simp))
      · exact fresh_mono FZ.out (by omega) (by simp)
      · exact Below.chg hb (S := [w.heap.size + 1 + 1]) (by repeat' (first | (with_reducible exact Chg.refl _ _) | (with_reducible refine chg_set ?_ (by simp)))) hb.size (fun x hx => by simp at hx; omega)
    · skip
      have c0 := (Lc 0 _ rfl).1
      have c1 := (Lc 1 _ rfl).1
      have c2 := (Lc 2 _ rfl).1
      have c3 := (Lc 3 _ rfl).1
      have c4 := (Lc 4 _ rfl).1
      go_wp2_with fail
      refine (theatreCopied_any n m _ _ _ cs pl ds _ (h.below hb) hsz).mono ?_
      rintro e W2 ⟨y1, y2, y3, T, rfl, ow6, f6, q⟩
      clear c0 c1 c2 c3 c4
      obtain ⟨⟨D1, e1, rfl⟩, ⟨D2, e2, rfl⟩, ⟨D3, e3, rfl⟩⟩ := ow6.rd.forms
      have hzq : W1.heap.size ≤ W2.heap.size := by have := q.size; (try simp at this); omega
      replace Lc := Lc.below q
      replace Ld := Ld.below q
      replace Lr := Lr.below q
      have OK' := Lib.hid (OK.out.below q)
      clear OK; have OK := OK'; clear OK'
      have FK' := Lib.hid (fresh_mono (w' := W2) FK.out (Nat.le_refl _) hzq)
      clear FK; have FK := FK'; clear FK'
      replace hb : Below w.heap.size w W2 := hb.trans (q.mono hb.size)
      have hlow : W1.heap.size ≤ W1.heap.size := by first | exact Nat.le_refl _ | (simp; done) | (simp; omega) | omega
      have FZ := Lib.hid (fresh_mono f6 hlow (Nat.le_refl _))
      have DZ : Hid (∀ x ∈ T, x ∉ [w.heap.size, w.heap.size + 1, w.heap.size + 1 + 1]) := (fun x hx => by have := (FZ.out.2 x hx).1; simp; omega)
      have OZ := Lib.hid ow6
      clear ow6 f6 hlow
      clear q
      have r0 := (Lr 0 _ rfl).1
      have rf0 := (Lr 0 _ rfl).2
      have r1 := (Lr 1 _ rfl).1
      have rf1 := (Lr 1 _ rfl).2
      have r2 := (Lr 2 _ rfl).1
      have rf2 := (Lr 2 _ rfl).2
      have r3 := (Lr 3 _ rfl).1
      have rf3 := (Lr 3 _ rfl).2
      have r4 := (Lr 4 _ rfl).1
      have rf4 := (Lr 4 _ rfl).2
      go_wp2_with fail
      refine bodyPost_ret (v := .tuple #[.agg #[.int .i64 n, .slice D1 cs.length e1, .slice D2 pl.length e2, .slice D3 ds.length e3, .int .i64 m], .bool false]) (by simp [results, Try.results91, go_sem, *]) rfl (bec_f (fun hh => absurd (show theatreB n m cs pl ds = true from hh.1) (by rw [hq.out]; simp)) ⟨_, _, _, T, rfl, ?_, ?_, ?_⟩)
      · exact OZ.out.chg (T := [w.heap.size + 1 + 1]) (by repeat' (first | (with_reducible exact Chg.refl _ _) | (with_reducible refine chg_set ?_ (by simp)))) (fun x hx hx' => DZ.out x hx (by simp at hx'; subst hx'; simp))
      · exact fresh_mono FZ.out (by omega) (by simp)
      · exact Below.chg hb (S := [w.heap.size + 1 + 1]) (by repeat' (first | (with_reducible exact Chg.refl _ _) | (with_reducible refine chg_set ?_ (by simp)))) hb.size (fun x hx => by simp at hx; omega)
def moveF (t : Th) (a : Int) (f : Bool) : Th × Bool := becF t ⟨t.n, t.m, withC t.n t.cs t.pl [(a, f)], t.pl, t.ds⟩ (withB t.n t.cs t.pl [(a, f)])
theorem with_ok {n m : Int} {cs l : List RCross} {pl : List RPl} {ds : List Int} (h : theatreB n m cs pl ds = true) (hw : withB n cs pl l = true) : theatreB n m (withC n cs pl l) pl ds = true := by
  rw [withC, hw]
  rw [withB, Bool.and_eq_true] at hw
  unfold theatreB at h ⊢
  rw [Bool.and_eq_true, Bool.and_eq_true] at h ⊢
  exact ⟨⟨hw.2, h.1.2⟩, h.2⟩
theorem becomes_eq {n m n' m' : Int} {v1 v2 v3 y1 y2 y3 : Value} {cs cs' : List RCross} {pl pl' : List RPl} {ds ds' : List Int} {ok : Bool} {B : Nat} {S : List Nat} {rn rm : Int} {rcs : List RCross} {rpl : List RPl} {rds : List Int} {rb : Bool} {w : World}
    (hr : becF ⟨n, m, cs, pl, ds⟩ ⟨n', m', cs', pl', ds'⟩ ok = (⟨rn, rm, rcs, rpl, rds⟩, rb)) (h : RdTheatre w v1 v2 v3 cs pl ds) (hsz : szTheatre cs pl ds ≤ 1048576) (how : OwTheatre w S y1 y2 y3 cs' pl' ds') (hf : Fresh B w S) (hB : B ≤ w.heap.size) :
    Calls Try.prog 91 #[.agg #[.int .i64 n, v1, v2, v3, .int .i64 m], .agg #[.int .i64 n', y1, y2, y3, .int .i64 m'], .bool ok] w (RetT B rn rm rb rcs rpl rds w) := by
  have := becomes_any n m n' m' v1 v2 v3 y1 y2 y3 cs cs' pl pl' ds ds' ok B S w h hsz how hf hB
  rw [hr] at this
  exact this
end Go.Proofs.Ytkejgogheonakaa
