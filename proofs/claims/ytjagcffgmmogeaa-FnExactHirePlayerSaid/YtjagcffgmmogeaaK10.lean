/- Contracts: theatres that become others: becomes, HirePlayer, MovePuppet. Written by a program (gen_k10.py). -/
import Derived.Test.YtjagcffgmmogeaaCPTheatre
import Derived.Test.YtjagcffgmmogeaaK5
import Derived.Test.YtjagcffgmmogeaaK7
import Derived.Deep.DeepCutAuto
namespace Go.Proofs.Ytjagcffgmmogeaa
open Go.RowKit
/-- A theatre as data. -/
structure Th where
  n : Int
  m : Int
  cs : List RCross
  pl : List RPl
  ds : List Int
def Th.ok (t : Th) : Bool := theatreB t.n t.m t.cs t.pl t.ds
def Th.sz (t : Th) : Nat := szTheatre t.cs t.pl t.ds
/-- A theatre and a Bool are returned, in blocks of the call's own from B on. -/
def RetT (B : Nat) (n m : Int) (ok : Bool) (cs : List RCross) (pl : List RPl) (ds : List Int) (w : World) (e : Ending) (w' : World) : Prop :=
  ∃ x1 x2 x3 S, e = .returned (.tuple #[.agg #[.int .i64 n, x1, x2, x3, .int .i64 m], .bool ok]) ∧ OwTheatre w' S x1 x2 x3 cs pl ds ∧ Fresh B w' S ∧ Below w.heap.size w w'
def RetTh (B : Nat) (r : Th × Bool) : World → Ending → World → Prop := RetT B r.1.n r.1.m r.2 r.1.cs r.1.pl r.1.ds
def becF (t u : Th) (ok : Bool) : Th × Bool := if t.ok = true ∧ ok = true ∧ u.ok = true then (u, true) else (t, false)
theorem theatreB_sz {n m : Int} {cs : List RCross} {pl : List RPl} {ds : List Int} (h : theatreB n m cs pl ds = true) : szTheatre cs pl ds ≤ 148 := by
  rw [theatreB, Bool.and_eq_true, Bool.and_eq_true] at h
  have h1 := companyB_sz h.1.1
  have h2 := h.1.2
  rw [keepsB, Bool.and_eq_true, Bool.and_eq_true] at h2
  have h3 := (season_bd h2.1.1).1
  unfold szTheatre
  omega
theorem bec_sz (t u : Th) (ok : Bool) : (becF t u ok).1.sz ≤ t.sz ∨ (becF t u ok).1.sz ≤ 148 := by
  unfold becF
  split
  · rename_i h; exact .inr (theatreB_sz h.2.2)
  · exact .inl (Nat.le_refl _)
theorem bec_t {B : Nat} {t u : Th} {ok : Bool} {w w' : World} {e : Ending} (h : t.ok = true ∧ ok = true ∧ u.ok = true) (hr : RetTh B (u, true) w e w') : RetTh B (becF t u ok) w e w' := by rw [becF, if_pos h]; exact hr
theorem bec_f {B : Nat} {t u : Th} {ok : Bool} {w w' : World} {e : Ending} (h : ¬ (t.ok = true ∧ ok = true ∧ u.ok = true)) (hr : RetTh B (t, false) w e w') : RetTh B (becF t u ok) w e w' := by rw [becF, if_neg h]; exact hr
set_option maxHeartbeats 8000000 in
set_option maxRecDepth 100000 in
theorem becomes_any (n m n' m' : Int) (v1 v2 v3 y1 y2 y3 : Value) (cs cs' : List RCross) (pl pl' : List RPl) (ds ds' : List Int) (ok : Bool) (B : Nat) (S : List Nat) (w : World) (h : RdTheatre w v1 v2 v3 cs pl ds) (hsz : szTheatre cs pl ds ≤ 1048576) (how : OwTheatre w S y1 y2 y3 cs' pl' ds') (hf : Fresh B w S) (hB : B ≤ w.heap.size) :
    Calls Try.prog 79 #[.agg #[.int .i64 n, v1, v2, v3, .int .i64 m], .agg #[.int .i64 n', y1, y2, y3, .int .i64 m'], .bool ok] w (RetTh B (becF ⟨n, m, cs, pl, ds⟩ ⟨n', m', cs', pl', ds'⟩ ok) w) := by
  obtain ⟨⟨A1, n1, rfl⟩, ⟨A2, n2, rfl⟩, ⟨A3, n3, rfl⟩⟩ := h.forms
  obtain ⟨⟨B1, k1, rfl⟩, ⟨B2, k2, rfl⟩, ⟨B3, k3, rfl⟩⟩ := how.rd.forms
  have Hok := Lib.hid how
  clear how
  go_enter Try.func79, Try.ntmps79
  go_wp2_with fail
  refine twoB (implTheatreOk_any n m _ _ _ cs pl ds _ (h.below (by (repeat' (first | (with_reducible exact Below.refl _ _) | (with_reducible assumption) | (with_reducible refine Below.setCell ?_ (by first | omega | (simp; omega) | (simp; done)) _) | (with_reducible refine Below.alloc ?_ (by first | omega | (simp; omega) | (simp; done)) _) | (with_reducible refine Below.drew ?_) | (with_reducible refine below_drewN ?_ _)))))) (fun W1 hq q => ?_) (fun W1 hq q => ?_)
  · skip
    have Lc : Loc W1 (w.heap.size) [.int .i64 n, .slice A1 cs.length n1, .slice A2 pl.length n2, .slice A3 ds.length n3, .int .i64 m] := by have := (((Loc.new w #[.int .i64 n, .slice A1 cs.length n1, .slice A2 pl.length n2, .slice A3 ds.length n3, .int .i64 m] 45).alloc _).alloc _).below q; simpa using this
    have Ld : Loc W1 (w.heap.size + 1) [.int .i64 n', .slice B1 cs'.length k1, .slice B2 pl'.length k2, .slice B3 ds'.length k3, .int .i64 m'] := by have := ((Loc.new (w.alloc (.cells #[.int .i64 n, .slice A1 cs.length n1, .slice A2 pl.length n2, .slice A3 ds.length n3, .int .i64 m] 45)) #[.int .i64 n', .slice B1 cs'.length k1, .slice B2 pl'.length k2, .slice B3 ds'.length k3, .int .i64 m'] 45).alloc _).below q; simpa using this
    have Lr : Loc W1 (w.heap.size + 1 + 1) [.int .i64 0, .slice none 0 0, .slice none 0 0, .slice none 0 0, .int .i64 0] := by have := (Loc.new ((w.alloc (.cells #[.int .i64 n, .slice A1 cs.length n1, .slice A2 pl.length n2, .slice A3 ds.length n3, .int .i64 m] 45)).alloc (.cells #[.int .i64 n', .slice B1 cs'.length k1, .slice B2 pl'.length k2, .slice B3 ds'.length k3, .int .i64 m'] 45)) #[.int .i64 0, .slice none 0 0, .slice none 0 0, .slice none 0 0, .int .i64 0] 45).below q; simpa using this
    have hb : Below w.heap.size w W1 := Below.trans (by (repeat' (first | (with_reducible exact Below.refl _ _) | (with_reducible assumption) | (with_reducible refine Below.setCell ?_ (by first | omega | (simp; omega) | (simp; done)) _) | (with_reducible refine Below.alloc ?_ (by first | omega | (simp; omega) | (simp; done)) _) | (with_reducible refine Below.drew ?_) | (with_reducible refine below_drewN ?_ _)))) (q.mono (by simp <;> omega))
    have hz0 : w.heap.size + 1 + 1 + 1 ≤ W1.heap.size := by have := q.size; simp at this; omega
    clear q
    have OK : Hid (OwTheatre W1 S _ _ _ cs' pl' ds') := Lib.hid (Hok.out.below hb)
    have FK : Hid (Fresh B W1 S) := Lib.hid (fresh_mono hf (Nat.le_refl _) hb.size)
    have DK : Hid (∀ x ∈ S, x ∉ [w.heap.size, w.heap.size + 1, w.heap.size + 1 + 1]) := (fun x hx => by have := (hf.2 x hx).2; simp; omega)
    cases ok
    · skip
      have c0 := (Lc 0 _ rfl).1
      have c1 := (Lc 1 _ rfl).1
      have c2 := (Lc 2 _ rfl).1
      have c3 := (Lc 3 _ rfl).1
      have c4 := (Lc 4 _ rfl).1
      go_wp2_with fail
      refine (theatreCopied_any n m _ _ _ cs pl ds _ (h.below hb) hsz).mono ?_
      rintro e W2 ⟨y1, y2, y3, T, rfl, ow6, f6, q⟩
      clear c0 c1 c2 c3 c4
      obtain ⟨⟨D1, e1, rfl⟩, ⟨D2, e2, rfl⟩, ⟨D3, e3, rfl⟩⟩ := ow6.rd.forms
      have hzq : W1.heap.size ≤ W2.heap.size := by have := q.size; (try simp at this); omega
      replace Lc := Lc.below q
      replace Ld := Ld.below q
      replace Lr := Lr.below q
      have OK' := Lib.hid (OK.out.below q)
      clear OK; have OK := OK'; clear OK'
      have FK' := Lib.hid (fresh_mono (w' := W2) FK.out (Nat.le_refl _) hzq)
      clear FK; have FK := FK'; clear FK'
      replace hb : Below w.heap.size w W2 := hb.trans (q.mono hb.size)
      have hlow : W1.heap.size ≤ W1.heap.size := by first | exact Nat.le_refl _ | (simp; done) | (simp; omega) | omega
      have FZ := Lib.hid (fresh_mono f6 hlow (Nat.le_refl _))
      have DZ : Hid (∀ x ∈ T, x ∉ [w.heap.size, w.heap.size + 1, w.heap.size + 1 + 1]) := (fun x hx => by have := (FZ.out.2 x hx).1; simp; omega)
      have OZ := Lib.hid ow6
      clear ow6 f6 hlow
      clear q
      have r0 := (Lr 0 _ rfl).1
      have rf0 := (Lr 0 _ rfl).2
      have r1 := (Lr 1 _ rfl).1
      have rf1 := (Lr 1 _ rfl).2
      have r2 := (Lr 2 _ rfl).1
      have rf2 := (Lr 2 _ rfl).2
      have r3 := (Lr 3 _ rfl).1
      have rf3 := (Lr 3 _ rfl).2
      have r4 := (Lr 4 _ rfl).1
      have rf4 := (Lr 4 _ rfl).2
      go_wp2_with fail
      refine bodyPost_ret (v := .tuple #[.agg #[.int .i64 n, .slice D1 cs.length e1, .slice D2 pl.length e2, .slice D3 ds.length e3, .int .i64 m], .bool false]) (by simp [results, Try.results79, go_sem, *]) rfl (bec_f (by simp) ⟨_, _, _, T, rfl, ?_, ?_, ?_⟩)
      · exact OZ.out.chg (T := [w.heap.size + 1 + 1]) (by repeat' (first | (with_reducible exact Chg.refl _ _) | (with_reducible refine chg_set ?_ (by simp)))) (fun x hx hx' => DZ.out x hx (by simp at hx'; subst hx'; simp))
      · exact fresh_mono FZ.out (by omega) (by simp)
      · exact Below.chg hb (S := [w.heap.size + 1 + 1]) (by repeat' (first | (with_reducible exact Chg.refl _ _) | (with_reducible refine chg_set ?_ (by simp)))) hb.size (fun x hx => by simp at hx; omega)
    · skip
      have d0 := (Ld 0 _ rfl).1
      have d1 := (Ld 1 _ rfl).1
      have d2 := (Ld 2 _ rfl).1
      have d3 := (Ld 3 _ rfl).1
      have d4 := (Ld 4 _ rfl).1
      go_wp2_with fail
      refine twoB (implTheatreOk_any n' m' _ _ _ cs' pl' ds' _ OK.out.rd) (fun W2 hq' q => ?_) (fun W2 hq' q => ?_)
      · skip
        clear d0 d1 d2 d3 d4
        have hzq : W1.heap.size ≤ W2.heap.size := by have := q.size; (try simp at this); omega
        replace Lc := Lc.below q
        replace Ld := Ld.below q
        replace Lr := Lr.below q
        have OK' := Lib.hid (OK.out.below q)
        clear OK; have OK := OK'; clear OK'
        have FK' := Lib.hid (fresh_mono (w' := W2) FK.out (Nat.le_refl _) hzq)
        clear FK; have FK := FK'; clear FK'
        replace hb : Below w.heap.size w W2 := hb.trans (q.mono hb.size)
        clear q
        have d0 := (Ld 0 _ rfl).1
        have d1 := (Ld 1 _ rfl).1
        have d2 := (Ld 2 _ rfl).1
        have d3 := (Ld 3 _ rfl).1
        have d4 := (Ld 4 _ rfl).1
        have r0 := (Lr 0 _ rfl).1
        have rf0 := (Lr 0 _ rfl).2
        have r1 := (Lr 1 _ rfl).1
        have rf1 := (Lr 1 _ rfl).2
        have r2 := (Lr 2 _ rfl).1
        have rf2 := (Lr 2 _ rfl).2
        have r3 := (Lr 3 _ rfl).1
        have rf3 := (Lr 3 _ rfl).2
        have r4 := (Lr 4 _ rfl).1
        have rf4 := (Lr 4 _ rfl).2
        go_wp2_with fail
        refine bodyPost_ret (v := .tuple #[.agg #[.int .i64 n', .slice B1 cs'.length k1, .slice B2 pl'.length k2, .slice B3 ds'.length k3, .int .i64 m'], .bool true]) (by simp [results, Try.results79, go_sem, *]) rfl (bec_t ⟨hq.out, rfl, hq'.out⟩ ⟨_, _, _, S, rfl, ?_, ?_, ?_⟩)
        · exact OK.out.chg (T := [w.heap.size + 1 + 1]) (by repeat' (first | (with_reducible exact Chg.refl _ _) | (with_reducible refine chg_set ?_ (by simp)))) (fun x hx hx' => DK.out x hx (by simp at hx'; subst hx'; simp))
        · exact fresh_mono FK.out (by omega) (by simp)
        · exact Below.chg hb (S := [w.heap.size + 1 + 1]) (by repeat' (first | (with_reducible exact Chg.refl _ _) | (with_reducible refine chg_set ?_ (by simp)))) hb.size (fun x hx => by simp at hx; omega)
      · skip
        clear d0 d1 d2 d3 d4
        have hzq : W1.heap.size ≤ W2.heap.size := by have := q.size; (try simp at this); omega
        replace Lc := Lc.below q
        replace Ld := Ld.below q
        replace Lr := Lr.below q
        have OK' := Lib.hid (OK.out.below q)
        clear OK; have OK := OK'; clear OK'
        have FK' := Lib.hid (fresh_mono (w' := W2) FK.out (Nat.le_refl _) hzq)
        clear FK; have FK := FK'; clear FK'
        replace hb : Below w.heap.size w W2 := hb.trans (q.mono hb.size)
        clear q
        have c0 := (Lc 0 _ rfl).1
        have c1 := (Lc 1 _ rfl).1
        have c2 := (Lc 2 _ rfl).1
        have c3 := (Lc 3 _ rfl).1
        have c4 := (Lc 4 _ rfl).1
        go_wp2_with fail
        refine (theatreCopied_any n m _ _ _ cs pl ds _ (h.below hb) hsz).mono ?_
        rintro e W3 ⟨y1, y2, y3, T, rfl, ow6, f6, q⟩
        clear c0 c1 c2 c3 c4
        obtain ⟨⟨D1, e1, rfl⟩, ⟨D2, e2, rfl⟩, ⟨D3, e3, rfl⟩⟩ := ow6.rd.forms
        have hzq : W2.heap.size ≤ W3.heap.size := by have := q.size; (try simp at this); omega
        replace Lc := Lc.below q
        replace Ld := Ld.below q
        replace Lr := Lr.below q
        have OK' := Lib.hid (OK.out.below q)
        clear OK; have OK := OK'; clear OK'
        have FK' := Lib.hid (fresh_mono (w' := W3) FK.out (Nat.le_refl _) hzq)
        clear FK; have FK := FK'; clear FK'
        replace hb : Below w.heap.size w W3 := hb.trans (q.mono hb.size)
        have hlow : W2.heap.size ≤ W2.heap.size := by first | exact Nat.le_refl _ | (simp; done) | (simp; omega) | omega
        have FZ := Lib.hid (fresh_mono f6 hlow (Nat.le_refl _))
        have DZ : Hid (∀ x ∈ T, x ∉ [w.heap.size, w.heap.size + 1, w.heap.size + 1 + 1]) := (fun x hx => by have := (FZ.out.2 x hx).1; simp; omega)
        have OZ := Lib.hid ow6
        clear ow6 f6 hlow
        clear q
        have r0 := (Lr 0 _ rfl).1
        have rf0 := (Lr 0 _ rfl).2
        have r1 := (Lr 1 _ rfl).1
        have rf1 := (Lr 1 _ rfl).2
        have r2 := (Lr 2 _ rfl).1
        have rf2 := (Lr 2 _ rfl).2
        have r3 := (Lr 3 _ rfl).1
        have rf3 := (Lr 3 _ rfl).2
        have r4 := (Lr 4 _ rfl).1
        have rf4 := (Lr 4 _ rfl).2
        go_wp2_with fail
        refine bodyPost_ret (v := .tuple #[.agg #[.int .i64 n, .slice D1 cs.length e1, .slice D2 pl.length e2, .slice D3 ds.length e3, .int .i64 m], .bool false]) (by simp [results, Try.results79, go_sem, *]) rfl (bec_f (fun hh => absurd (show theatreB n' m' cs' pl' ds' = true from hh.2.2) (by rw [hq'.out]; simp)) ⟨_, _, _, T, rfl, ?_, ?_, ?_⟩)
        · exact OZ.out.chg (T := [w.heap.size + 1 + 1]) (by repeat' (first | (with_reducible exact Chg.refl _ _) | (with_reducible refine chg_set ?_ (by simp)))) (fun x hx hx' => DZ.out x hx (by simp at hx'; subst hx'; simp))
        · exact fresh_mono FZ.out (by omega) (by simp)
        · exact Below.chg hb (S := [w.heap.size + 1 + 1]) (by repeat' (first | (with_reducible exact Chg.refl _ _) | (with_reducible refine chg_set ?_ (by simp)))) hb.size (fun x hx => by simp at hx; omega)
  · skip
    have Lc : Loc W1 (w.heap.size) [.int .i64 n, .slice A1 cs.length n1, .slice A2 pl.length n2, .slice A3 ds.length n3, .int .i64 m] := by have := (((Loc.new w #[.int .i64 n, .slice A1 cs.length n1, .slice A2 pl.length n2, .slice A3 ds.length n3, .int .i64 m] 45).alloc _).alloc _).below q; simpa using this
    have Ld : Loc W1 (w.heap.size + 1) [.int .i64 n', .slice B1 cs'.length k1, .slice B2 pl'.length k2, .slice B3 ds'.length k3, .int .i64 m'] := by have := ((Loc.new (w.alloc (.cells #[.int .i64 n, .slice A1 cs.length n1, .slice A2 pl.length n2, .slice A3 ds.length n3, .int .i64 m] 45)) #[.int .i64 n', .slice B1 cs'.length k1, .slice B2 pl'.length k2, .slice B3 ds'.length k3, .int .i64 m'] 45).alloc _).below q; simpa using this
    have Lr : Loc W1 (w.heap.size + 1 + 1) [.int .i64 0, .slice none 0 0, .slice none 0 0, .slice none 0 0, .int .i64 0] := by have := (Loc.new ((w.alloc (.cells #[.int .i64 n, .slice A1 cs.length n1, .slice A2 pl.length n2, .slice A3 ds.length n3, .int .i64 m] 45)).alloc (.cells #[.int .i64 n', .slice B1 cs'.length k1, .slice B2 pl'.length k2, .slice B3 ds'.length k3, .int .i64 m'] 45)) #[.int .i64 0, .slice none 0 0, .slice none 0 0, .slice none 0 0, .int .i64 0] 45).below q; simpa using this
    have hb : Below w.heap.size w W1 := Below.trans (by (repeat' (first | (with_reducible exact Below.refl _ _) | (with_reducible assumption) | (with_reducible refine Below.setCell ?_ (by first | omega | (simp; omega) | (simp; done)) _) | (with_reducible refine Below.alloc ?_ (by first | omega | (simp; omega) | (simp; done)) _) | (with_reducible refine Below.drew ?_) | (with_reducible refine below_drewN ?_ _)))) (q.mono (by simp <;> omega))
    have hz0 : w.heap.size + 1 + 1 + 1 ≤ W1.heap.size := by have := q.size; simp at this; omega
    clear q
    have OK : Hid (OwTheatre W1 S _ _ _ cs' pl' ds') := Lib.hid (Hok.out.below hb)
    have FK : Hid (Fresh B W1 S) := Lib.hid (fresh_mono hf (Nat.le_refl _) hb.size)
    have DK : Hid (∀ x ∈ S, x ∉ [w.heap.size, w.heap.size + 1, w.heap.size + 1 + 1]) := (fun x hx => by have := (hf.2 x hx).2; simp; omega)
    cases ok
    · skip
      have c0 := (Lc 0 _ rfl).1
      have c1 := (Lc 1 _ rfl).1
      have c2 := (Lc 2 _ rfl).1
      have c3 := (Lc 3 _ rfl).1
      have c4 := (Lc 4 _ rfl).1
      go_wp2_with fail
      refine (theatreCopied_any n m _ _ _ cs pl ds _ (h.below hb) hsz).mono ?_
      rintro e W2 ⟨y1, y2, y3, T, rfl, ow6, f6, q⟩
      clear c0 c1 c2 c3 c4
      obtain ⟨⟨D1, e1, rfl⟩, ⟨D2, e2, rfl⟩, ⟨D3, e3, rfl⟩⟩ := ow6.rd.forms
      have hzq : W1.heap.size ≤ W2.heap.size := by have := q.size; (try simp at this); omega
      replace Lc := Lc.below q
      replace Ld := Ld.below q
      replace Lr := Lr.below q
      have OK' := Lib.hid (OK.out.below q)
      clear OK; have OK := OK'; clear OK'
      have FK' := Lib.hid (fresh_mono (w' := W2) FK.out (Nat.le_refl _) hzq)
      clear FK; have FK := FK'; clear FK'
      replace hb : Below w.heap.size w W2 := hb.trans (q.mono hb.size)
      have hlow : W1.heap.size ≤ W1.heap.size := by first | exact Nat.le_refl _ | (simp; done) | (simp; omega) | omega
      have FZ := Lib.hid (fresh_mono f6 hlow (Nat.le_refl _))
      have DZ : Hid (∀ x ∈ T, x ∉ [w.heap.size, w.heap.size + 1, w.heap.size + 1 + 1]) := (fun x hx => by have := (FZ.out.2 x hx).1; simp; omega)
      have OZ := Lib.hid ow6
      clear ow6 f6 hlow
      clear q
      have r0 := (Lr 0 _ rfl).1
      have rf0 := (Lr 0 _ rfl).2
      have r1 := (Lr 1 _ rfl).1
      have rf1 := (Lr 1 _ rfl).2
      have r2 := (Lr 2 _ rfl).1
      have rf2 := (Lr 2 _ rfl).2
      have r3 := (Lr 3 _ rfl).1
      have rf3 := (Lr 3 _ rfl).2
      have r4 := (Lr 4 _ rfl).1
      have rf4 := (Lr 4 _ rfl).2
      go_wp2_with fail
      refine bodyPost_ret (v := .tuple #[.agg #[.int .i64 n, .slice D1 cs.length e1, .slice D2 pl.length e2, .slice D3 ds.length e3, .int .i64 m], .bool false]) (by simp [results, Try.results79, go_sem, *]) rfl (bec_f (fun hh => absurd (show theatreB n m cs pl ds = true from hh.1) (by rw [hq.out]; simp)) ⟨_, _, _, T, rfl, ?_, ?_, ?_⟩)
      · exact OZ.out.chg (T := [w.heap.size + 1 + 1]) (by repeat' (first | (with_reducible exact Chg.refl _ _) | (with_reducible refine chg_set ?_ (by simp)))) (fun x hx hx' => DZ.out x hx (by simp at hx'; subst hx'; simp))
      · exact fresh_mono FZ.out (by omega) (by simp)
      · exact Below.chg hb (S := [w.heap.size + 1 + 1]) (by repeat' (first | (with_reducible exact Chg.refl _ _) | (with_reducible refine chg_set ?_ (by simp)))) hb.size (fun x hx => by simp at hx; omega)
    · skip
      have c0 := (Lc 0 _ rfl).1
      have c1 := (Lc 1 _ rfl).1
      have c2 := (Lc 2 _ rfl).1
      have c3 := (Lc 3 _ rfl).1
      have c4 := (Lc 4 _ rfl).1
      go_wp2_with fail
      refine (theatreCopied_any n m _ _ _ cs pl ds _ (h.below hb) hsz).mono ?_
      rintro e W2 ⟨y1, y2, y3, T, rfl, ow6, f6, q⟩
      clear c0 c1 c2 c3 c4
      obtain ⟨⟨D1, e1, rfl⟩, ⟨D2, e2, rfl⟩, ⟨D3, e3, rfl⟩⟩ := ow6.rd.forms
      have hzq : W1.heap.size ≤ W2.heap.size := by have := q.size; (try simp at this); omega
      replace Lc := Lc.below q
      replace Ld := Ld.below q
      replace Lr := Lr.below q
      have OK' := Lib.hid (OK.out.below q)
      clear OK; have OK := OK'; clear OK'
      have FK' := Lib.hid (fresh_mono (w' := W2) FK.out (Nat.le_refl _) hzq)
      clear FK; have FK := FK'; clear FK'
      replace hb : Below w.heap.size w W2 := hb.trans (q.mono hb.size)
      have hlow : W1.heap.size ≤ W1.heap.size := by first | exact Nat.le_refl _ | (simp; done) | (simp; omega) | omega
      have FZ := Lib.hid (fresh_mono f6 hlow (Nat.le_refl _))
      have DZ : Hid (∀ x ∈ T, x ∉ [w.heap.size, w.heap.size + 1, w.heap.size + 1 + 1]) := (fun x hx => by have := (FZ.out.2 x hx).1; simp; omega)
      have OZ := Lib.hid ow6
      clear ow6 f6 hlow
      clear q
      have r0 := (Lr 0 _ rfl).1
      have rf0 := (Lr 0 _ rfl).2
      have r1 := (Lr 1 _ rfl).1
      have rf1 := (Lr 1 _ rfl).2
      have r2 := (Lr 2 _ rfl).1
      have rf2 := (Lr 2 _ rfl).2
      have r3 := (Lr 3 _ rfl).1
      have rf3 := (Lr 3 _ rfl).2
      have r4 := (Lr 4 _ rfl).1
      have rf4 := (Lr 4 _ rfl).2
      go_wp2_with fail
      refine bodyPost_ret (v := .tuple #[.agg #[.int .i64 n, .slice D1 cs.length e1, .slice D2 pl.length e2, .slice D3 ds.length e3, .int .i64 m], .bool false]) (by simp [results, Try.results79, go_sem, *]) rfl (bec_f (fun hh => absurd (show theatreB n m cs pl ds = true from hh.1) (by rw [hq.out]; simp)) ⟨_, _, _, T, rfl, ?_, ?_, ?_⟩)
      · exact OZ.out.chg (T := [w.heap.size + 1 + 1]) (by repeat' (first | (with_reducible exact Chg.refl _ _) | (with_reducible refine chg_set ?_ (by simp)))) (fun x hx hx' => DZ.out x hx (by simp at hx'; subst hx'; simp))
      · exact fresh_mono FZ.out (by omega) (by simp)
      · exact Below.chg hb (S := [w.heap.size + 1 + 1]) (by repeat' (first | (with_reducible exact Chg.refl _ _) | (with_reducible refine chg_set ?_ (by simp)))) hb.size (fun x hx => by simp at hx; omega)
def moveF (t : Th) (a : Int) (f : Bool) : Th × Bool := becF t ⟨t.n, t.m, withC t.n t.cs t.pl [(a, f)], t.pl, t.ds⟩ (withB t.n t.cs t.pl [(a, f)])
theorem with_ok {n m : Int} {cs l : List RCross} {pl : List RPl} {ds : List Int} (h : theatreB n m cs pl ds = true) (hw : withB n cs pl l = true) : theatreB n m (withC n cs pl l) pl ds = true := by
  rw [withC, hw]
  rw [withB, Bool.and_eq_true] at hw
  unfold theatreB at h ⊢
  rw [Bool.and_eq_true, Bool.and_eq_true] at h ⊢
  exact ⟨⟨hw.2, h.1.2⟩, h.2⟩
theorem becomes_eq {n m n' m' : Int} {v1 v2 v3 y1 y2 y3 : Value} {cs cs' : List RCross} {pl pl' : List RPl} {ds ds' : List Int} {ok : Bool} {B : Nat} {S : List Nat} {rn rm : Int} {rcs : List RCross} {rpl : List RPl} {rds : List Int} {rb : Bool} {w : World}
    (hr : becF ⟨n, m, cs, pl, ds⟩ ⟨n', m', cs', pl', ds'⟩ ok = (⟨rn, rm, rcs, rpl, rds⟩, rb)) (h : RdTheatre w v1 v2 v3 cs pl ds) (hsz : szTheatre cs pl ds ≤ 1048576) (how : OwTheatre w S y1 y2 y3 cs' pl' ds') (hf : Fresh B w S) (hB : B ≤ w.heap.size) :
    Calls Try.prog 79 #[.agg #[.int .i64 n, v1, v2, v3, .int .i64 m], .agg #[.int .i64 n', y1, y2, y3, .int .i64 m'], .bool ok] w (RetT B rn rm rb rcs rpl rds w) := by
  have := becomes_any n m n' m' v1 v2 v3 y1 y2 y3 cs cs' pl pl' ds ds' ok B S w h hsz how hf hB
  rw [hr] at this
  exact this
set_option maxHeartbeats 8000000 in
set_option maxRecDepth 100000 in
theorem implMovePuppet_any (n m a : Int) (f : Bool) (v1 v2 v3 : Value) (cs : List RCross) (pl : List RPl) (ds : List Int) (w : World) (h : RdTheatre w v1 v2 v3 cs pl ds) (hsz : szTheatre cs pl ds ≤ 1048576) :
    Calls Try.prog 34 #[.agg #[.int .i64 n, v1, v2, v3, .int .i64 m], .int .i64 a, .bool f] w (RetTh w.heap.size (moveF ⟨n, m, cs, pl, ds⟩ a f) w) := by
  obtain ⟨⟨A1, n1, rfl⟩, ⟨A2, n2, rfl⟩, ⟨A3, n3, rfl⟩⟩ := h.forms
  have hszc : szCompany cs pl ≤ 1048576 := by unfold szTheatre at hsz; omega
  unfold moveF
  obtain ⟨⟨⟨rn, rm, rcs, rpl, rds⟩, rb⟩, hres⟩ : ∃ res, becF ⟨n, m, cs, pl, ds⟩ ⟨n, m, withC n cs pl [(a, f)], pl, ds⟩ (withB n cs pl [(a, f)]) = res := ⟨_, rfl⟩
  rw [hres]
  change Calls _ _ _ _ (RetT w.heap.size rn rm rb rcs rpl rds w)
  have Hres := Lib.hid hres
  clear hres
  go_enter Try.func34, Try.ntmps34
  go_wp2_with fail
  refine (theatreCopied_any n m _ _ _ cs pl ds _ (h.below (by (repeat' (first | (with_reducible exact Below.refl _ _) | (with_reducible assumption) | (with_reducible refine Below.setCell ?_ (by first | omega | (simp; omega) | (simp; done)) _) | (with_reducible refine Below.alloc ?_ (by first | omega | (simp; omega) | (simp; done)) _) | (with_reducible refine Below.drew ?_) | (with_reducible refine below_drewN ?_ _))))) hsz).mono ?_
  rintro e W1 ⟨x1, x2, x3, S, rfl, ow, f1, q⟩
  obtain ⟨⟨B1, k1, rfl⟩, ⟨B2, k2, rfl⟩, ⟨B3, k3, rfl⟩⟩ := ow.rd.forms
  have Lc : Loc W1 (w.heap.size) [.int .i64 n, .slice A1 cs.length n1, .slice A2 pl.length n2, .slice A3 ds.length n3, .int .i64 m] := by have := ((Loc.new w #[.int .i64 n, .slice A1 cs.length n1, .slice A2 pl.length n2, .slice A3 ds.length n3, .int .i64 m] 45).alloc _).below q; simpa using this
  have Lr : Loc W1 (w.heap.size + 1) [.int .i64 0, .slice none 0 0, .slice none 0 0, .slice none 0 0, .int .i64 0] := by have := (Loc.new (w.alloc (.cells #[.int .i64 n, .slice A1 cs.length n1, .slice A2 pl.length n2, .slice A3 ds.length n3, .int .i64 m] 45)) #[.int .i64 0, .slice none 0 0, .slice none 0 0, .slice none 0 0, .int .i64 0] 45).below q; simpa using this
  have hb : Below w.heap.size w W1 := Below.trans (by (repeat' (first | (with_reducible exact Below.refl _ _) | (with_reducible assumption) | (with_reducible refine Below.setCell ?_ (by first | omega | (simp; omega) | (simp; done)) _) | (with_reducible refine Below.alloc ?_ (by first | omega | (simp; omega) | (simp; done)) _) | (with_reducible refine Below.drew ?_) | (with_reducible refine below_drewN ?_ _)))) (q.mono (by simp <;> omega))
  have hz0 : w.heap.size + 1 + 1 ≤ W1.heap.size := by have := q.size; simp at this; omega
  have hlow : w.heap.size + 1 + 1 ≤ (((w.alloc (.cells #[.int .i64 n, .slice A1 cs.length n1, .slice A2 pl.length n2, .slice A3 ds.length n3, .int .i64 m] 45)).alloc (.cells #[.int .i64 0, .slice none 0 0, .slice none 0 0, .slice none 0 0, .int .i64 0] 45))).heap.size := by first | exact Nat.le_refl _ | (simp; done) | (simp; omega) | omega
  have FK := Lib.hid (fresh_mono f1 hlow (Nat.le_refl _))
  have DK : Hid (∀ x ∈ S, x ∉ [w.heap.size, w.heap.size + 1]) := (fun x hx => by have := (FK.out.2 x hx).1; simp; omega)
  have OK := Lib.hid ow
  clear ow f1 hlow
  clear q
  go_upto_region 2 with (fail)
  replace Lc : Loc (W1.alloc (.cells #[.int .i64 n, .slice B1 cs.length k1, .slice B2 pl.length k2, .slice B3 ds.length k3, .int .i64 m] 45)) (w.heap.size) [.int .i64 n, .slice A1 cs.length n1, .slice A2 pl.length n2, .slice A3 ds.length n3, .int .i64 m] := Lc.alloc _
  replace Lr : Loc (W1.alloc (.cells #[.int .i64 n, .slice B1 cs.length k1, .slice B2 pl.length k2, .slice B3 ds.length k3, .int .i64 m] 45)) (w.heap.size + 1) [.int .i64 0, .slice none 0 0, .slice none 0 0, .slice none 0 0, .int .i64 0] := Lr.alloc _
  obtain ⟨go, hgo⟩ : ∃ g, W1.heap.size = g := ⟨_, rfl⟩
  have Lo : Loc (W1.alloc (.cells #[.int .i64 n, .slice B1 cs.length k1, .slice B2 pl.length k2, .slice B3 ds.length k3, .int .i64 m] 45)) W1.heap.size [.int .i64 n, .slice B1 cs.length k1, .slice B2 pl.length k2, .slice B3 ds.length k3, .int .i64 m] := Loc.new W1 #[.int .i64 n, .slice B1 cs.length k1, .slice B2 pl.length k2, .slice B3 ds.length k3, .int .i64 m] 45
  rw [hgo] at Lo
  have OK' := Lib.hid (OK.out.below (w' := (W1.alloc (.cells #[.int .i64 n, .slice B1 cs.length k1, .slice B2 pl.length k2, .slice B3 ds.length k3, .int .i64 m] 45))) ((Below.refl _ _).alloc (Nat.le_refl _) _))
  clear OK; have OK := OK'; clear OK'
  have DK' : Hid (∀ x ∈ S, x ∉ [w.heap.size, w.heap.size + 1, go]) := (fun x hx => by have := DK.out x hx; have := (FK.out.2 x hx).2; simp at *; omega)
  clear DK; have DK := DK'; clear DK'
  have FK' := Lib.hid (fresh_mono (w' := (W1.alloc (.cells #[.int .i64 n, .slice B1 cs.length k1, .slice B2 pl.length k2, .slice B3 ds.length k3, .int .i64 m] 45))) FK.out (Nat.le_refl _) (by simp))
  clear FK; have FK := FK'; clear FK'
  replace hb : Below w.heap.size w (W1.alloc (.cells #[.int .i64 n, .slice B1 cs.length k1, .slice B2 pl.length k2, .slice B3 ds.length k3, .int .i64 m] 45)) := hb.alloc hb.size _
  have hlto : go < (W1.alloc (.cells #[.int .i64 n, .slice B1 cs.length k1, .slice B2 pl.length k2, .slice B3 ds.length k3, .int .i64 m] 45)).heap.size := by simp; omega
  have hne_c_o : w.heap.size < go := by omega
  have hne_r_o : w.heap.size + 1 < go := by omega
  generalize W1.alloc (.cells #[.int .i64 n, .slice B1 cs.length k1, .slice B2 pl.length k2, .slice B3 ds.length k3, .int .i64 m] 45) = W2 at *
  rw [hgo]
  clear hgo
  obtain ⟨SK1, SK3, eK, oK, pK⟩ := OK.out
  have FKx := FK.out
  have DKx := DK.out
  rw [eK] at FKx DKx
  have OK1 := Lib.hid oK
  have OK3 := Lib.hid pK
  have FK1 := Lib.hid (fresh_left FKx)
  have FK3 := Lib.hid (fresh_right FKx)
  have DK1 : Hid (∀ x ∈ SK1, x ∉ [w.heap.size, w.heap.size + 1, go]) := (fun x hx => DKx x (List.mem_append_left _ hx))
  have DK3 : Hid (∀ x ∈ SK3, x ∉ [w.heap.size, w.heap.size + 1, go]) := (fun x hx => DKx x (List.mem_append_right _ hx))
  have JK : Hid (∀ x ∈ SK1, x ∉ SK3) := (nodup2 FKx.1).2.2.1
  clear OK FK DK FKx DKx oK pK
  have hU : ∀ x ∈ SK3, x < W2.heap.size := fun x hx => (FK3.out.2 x hx).2
  have o0 := (Lo 0 _ rfl).1
  have o1 := (Lo 1 _ rfl).1
  have o2 := (Lo 2 _ rfl).1
  have o3 := (Lo 3 _ rfl).1
  have o4 := (Lo 4 _ rfl).1
  go_wp2_with fail
  refine (implCrossOver_any n a f _ _ cs pl _ OK1.out.rd hszc).mono ?_
  rintro e W3 ⟨x4, x5, SX, rfl, ox, fx, q⟩
  clear o0 o1 o2 o3 o4
  obtain ⟨⟨C1, l1, rfl⟩, ⟨C2, l2, rfl⟩⟩ := ox.rd.forms
  have hzq : W2.heap.size ≤ W3.heap.size := by have := q.size; (try simp at this); omega
  replace Lc := Lc.below q
  replace Lr := Lr.below q
  replace Lo := Lo.below q
  have OK1' := Lib.hid (OK1.out.below q)
  clear OK1; have OK1 := OK1'; clear OK1'
  have FK1' := Lib.hid (fresh_mono (w' := W3) FK1.out (Nat.le_refl _) hzq)
  clear FK1; have FK1 := FK1'; clear FK1'
  have OK3' := Lib.hid (OK3.out.below q)
  clear OK3; have OK3 := OK3'; clear OK3'
  have FK3' := Lib.hid (fresh_mono (w' := W3) FK3.out (Nat.le_refl _) hzq)
  clear FK3; have FK3 := FK3'; clear FK3'
  replace hb : Below w.heap.size w W3 := hb.trans (q.mono hb.size)
  have hlow : W2.heap.size ≤ W2.heap.size := by first | exact Nat.le_refl _ | (simp; done) | (simp; omega) | omega
  have FX := Lib.hid (fresh_mono fx hlow (Nat.le_refl _))
  have DX : Hid (∀ x ∈ SX, x ∉ [w.heap.size, w.heap.size + 1, go]) := (fun x hx => by have := (FX.out.2 x hx).1; simp; omega)
  have OX := Lib.hid ox
  clear ox fx hlow
  clear q
  generalize withB n cs pl [(a, f)] = okc at *
  generalize withC n cs pl [(a, f)] = cs' at *
  have hJ : ∀ x ∈ SX, x ∉ SK3 := fun x hx hx' => by have := (FX.out.2 x hx).1; have := hU x hx'; omega
  have HJ := Lib.hid hJ
  clear hJ hU
  clear OK1 FK1 DK1
  go_upto_region 3 with (fail)
  replace Lc : Loc (W3.alloc (.cells #[.int .i64 n, .slice C1 cs'.length l1, .slice C2 pl.length l2] 30)) (w.heap.size) [.int .i64 n, .slice A1 cs.length n1, .slice A2 pl.length n2, .slice A3 ds.length n3, .int .i64 m] := Lc.alloc _
  replace Lr : Loc (W3.alloc (.cells #[.int .i64 n, .slice C1 cs'.length l1, .slice C2 pl.length l2] 30)) (w.heap.size + 1) [.int .i64 0, .slice none 0 0, .slice none 0 0, .slice none 0 0, .int .i64 0] := Lr.alloc _
  replace Lo : Loc (W3.alloc (.cells #[.int .i64 n, .slice C1 cs'.length l1, .slice C2 pl.length l2] 30)) (go) [.int .i64 n, .slice B1 cs.length k1, .slice B2 pl.length k2, .slice B3 ds.length k3, .int .i64 m] := Lo.alloc _
  obtain ⟨gp, hgp⟩ : ∃ g, W3.heap.size = g := ⟨_, rfl⟩
  have Lp : Loc (W3.alloc (.cells #[.int .i64 n, .slice C1 cs'.length l1, .slice C2 pl.length l2] 30)) W3.heap.size [.int .i64 n, .slice C1 cs'.length l1, .slice C2 pl.length l2] := Loc.new W3 #[.int .i64 n, .slice C1 cs'.length l1, .slice C2 pl.length l2] 30
  rw [hgp] at Lp
  have OK3' := Lib.hid (OK3.out.below (w' := (W3.alloc (.cells #[.int .i64 n, .slice C1 cs'.length l1, .slice C2 pl.length l2] 30))) ((Below.refl _ _).alloc (Nat.le_refl _) _))
  clear OK3; have OK3 := OK3'; clear OK3'
  have OX' := Lib.hid (OX.out.below (w' := (W3.alloc (.cells #[.int .i64 n, .slice C1 cs'.length l1, .slice C2 pl.length l2] 30))) ((Below.refl _ _).alloc (Nat.le_refl _) _))
  clear OX; have OX := OX'; clear OX'
  have DK3' : Hid (∀ x ∈ SK3, x ∉ [w.heap.size, w.heap.size + 1, go, gp]) := (fun x hx => by have := DK3.out x hx; have := (FK3.out.2 x hx).2; simp at *; omega)
  clear DK3; have DK3 := DK3'; clear DK3'
  have FK3' := Lib.hid (fresh_mono (w' := (W3.alloc (.cells #[.int .i64 n, .slice C1 cs'.length l1, .slice C2 pl.length l2] 30))) FK3.out (Nat.le_refl _) (by simp))
  clear FK3; have FK3 := FK3'; clear FK3'
  have DX' : Hid (∀ x ∈ SX, x ∉ [w.heap.size, w.heap.size + 1, go, gp]) := (fun x hx => by have := DX.out x hx; have := (FX.out.2 x hx).2; simp at *; omega)
  clear DX; have DX := DX'; clear DX'
  have FX' := Lib.hid (fresh_mono (w' := (W3.alloc (.cells #[.int .i64 n, .slice C1 cs'.length l1, .slice C2 pl.length l2] 30))) FX.out (Nat.le_refl _) (by simp))
  clear FX; have FX := FX'; clear FX'
  replace hb : Below w.heap.size w (W3.alloc (.cells #[.int .i64 n, .slice C1 cs'.length l1, .slice C2 pl.length l2] 30)) := hb.alloc hb.size _
  have hltp : gp < (W3.alloc (.cells #[.int .i64 n, .slice C1 cs'.length l1, .slice C2 pl.length l2] 30)).heap.size := by simp; omega
  have hne_c_p : w.heap.size < gp := by omega
  have hne_r_p : w.heap.size + 1 < gp := by omega
  have hne_o_p : go < gp := by omega
  generalize W3.alloc (.cells #[.int .i64 n, .slice C1 cs'.length l1, .slice C2 pl.length l2] 30) = W4 at *
  rw [hgp]
  clear hgp
  have p0 := (Lp 0 _ rfl).1
  have p1 := (Lp 1 _ rfl).1
  have p2 := (Lp 2 _ rfl).1
  have o0 := (Lo 0 _ rfl).1
  have of0 := (Lo 0 _ rfl).2
  have o1 := (Lo 1 _ rfl).1
  have of1 := (Lo 1 _ rfl).2
  have o2 := (Lo 2 _ rfl).1
  have of2 := (Lo 2 _ rfl).2
  have o3 := (Lo 3 _ rfl).1
  have of3 := (Lo 3 _ rfl).2
  have o4 := (Lo 4 _ rfl).1
  have of4 := (Lo 4 _ rfl).2
  go_upto_region 4 with (fail)
  clear p0 p1 p2 o0 of0 o1 of1 o2 of2 o3 of3 o4 of4
  replace Lc : Loc (W4.setCell ⟨go, 0, none⟩ (.int .i64 n)) (w.heap.size) [.int .i64 n, .slice A1 cs.length n1, .slice A2 pl.length n2, .slice A3 ds.length n3, .int .i64 m] := Lc.far (g := go) (i := 0) (u := .int .i64 n) (by omega)
  replace Lr : Loc (W4.setCell ⟨go, 0, none⟩ (.int .i64 n)) (w.heap.size + 1) [.int .i64 0, .slice none 0 0, .slice none 0 0, .slice none 0 0, .int .i64 0] := Lr.far (g := go) (i := 0) (u := .int .i64 n) (by omega)
  replace Lp : Loc (W4.setCell ⟨go, 0, none⟩ (.int .i64 n)) (gp) [.int .i64 n, .slice C1 cs'.length l1, .slice C2 pl.length l2] := Lp.far (g := go) (i := 0) (u := .int .i64 n) (by omega)
  replace Lo : Loc (W4.setCell ⟨go, 0, none⟩ (.int .i64 n)) (go) [.int .i64 n, .slice B1 cs.length k1, .slice B2 pl.length k2, .slice B3 ds.length k3, .int .i64 m] := Lo.set (i := 0) (v := .int .i64 n) rfl
  have hch : Chg [go] W4 (W4.setCell ⟨go, 0, none⟩ (.int .i64 n)) := chg_set (Chg.refl _ _) (by simp)
  have OK3' := Lib.hid (OK3.out.chg hch (fun x hx hx' => DK3.out x hx (by simp at hx'; subst hx'; simp)))
  clear OK3; have OK3 := OK3'; clear OK3'
  have FK3' := Lib.hid (fresh_mono (w' := (W4.setCell ⟨go, 0, none⟩ (.int .i64 n))) FK3.out (Nat.le_refl _) hch.size)
  clear FK3; have FK3 := FK3'; clear FK3'
  have OX' := Lib.hid (OX.out.chg hch (fun x hx hx' => DX.out x hx (by simp at hx'; subst hx'; simp)))
  clear OX; have OX := OX'; clear OX'
  have FX' := Lib.hid (fresh_mono (w' := (W4.setCell ⟨go, 0, none⟩ (.int .i64 n))) FX.out (Nat.le_refl _) hch.size)
  clear FX; have FX := FX'; clear FX'
  replace hb : Below w.heap.size w (W4.setCell ⟨go, 0, none⟩ (.int .i64 n)) := Below.chg hb hch hb.size (by simp; omega)
  have hzc := hch.size
  clear hch
  replace Lc : Loc ((W4.setCell ⟨go, 0, none⟩ (.int .i64 n)).setCell ⟨go, 1, none⟩ (.slice C1 cs'.length l1)) (w.heap.size) [.int .i64 n, .slice A1 cs.length n1, .slice A2 pl.length n2, .slice A3 ds.length n3, .int .i64 m] := Lc.far (g := go) (i := 1) (u := .slice C1 cs'.length l1) (by omega)
  replace Lr : Loc ((W4.setCell ⟨go, 0, none⟩ (.int .i64 n)).setCell ⟨go, 1, none⟩ (.slice C1 cs'.length l1)) (w.heap.size + 1) [.int .i64 0, .slice none 0 0, .slice none 0 0, .slice none 0 0, .int .i64 0] := Lr.far (g := go) (i := 1) (u := .slice C1 cs'.length l1) (by omega)
  replace Lp : Loc ((W4.setCell ⟨go, 0, none⟩ (.int .i64 n)).setCell ⟨go, 1, none⟩ (.slice C1 cs'.length l1)) (gp) [.int .i64 n, .slice C1 cs'.length l1, .slice C2 pl.length l2] := Lp.far (g := go) (i := 1) (u := .slice C1 cs'.length l1) (by omega)
  replace Lo : Loc ((W4.setCell ⟨go, 0, none⟩ (.int .i64 n)).setCell ⟨go, 1, none⟩ (.slice C1 cs'.length l1)) (go) [.int .i64 n, .slice C1 cs'.length l1, .slice B2 pl.length k2, .slice B3 ds.length k3, .int .i64 m] := Lo.set (i := 1) (v := .slice B1 cs.length k1) rfl
  have hch : Chg [go] (W4.setCell ⟨go, 0, none⟩ (.int .i64 n)) ((W4.setCell ⟨go, 0, none⟩ (.int .i64 n)).setCell ⟨go, 1, none⟩ (.slice C1 cs'.length l1)) := chg_set (Chg.refl _ _) (by simp)
  have OK3' := Lib.hid (OK3.out.chg hch (fun x hx hx' => DK3.out x hx (by simp at hx'; subst hx'; simp)))
  clear OK3; have OK3 := OK3'; clear OK3'
  have FK3' := Lib.hid (fresh_mono (w' := ((W4.setCell ⟨go, 0, none⟩ (.int .i64 n)).setCell ⟨go, 1, none⟩ (.slice C1 cs'.length l1))) FK3.out (Nat.le_refl _) hch.size)
  clear FK3; have FK3 := FK3'; clear FK3'
  have OX' := Lib.hid (OX.out.chg hch (fun x hx hx' => DX.out x hx (by simp at hx'; subst hx'; simp)))
  clear OX; have OX := OX'; clear OX'
  have FX' := Lib.hid (fresh_mono (w' := ((W4.setCell ⟨go, 0, none⟩ (.int .i64 n)).setCell ⟨go, 1, none⟩ (.slice C1 cs'.length l1))) FX.out (Nat.le_refl _) hch.size)
  clear FX; have FX := FX'; clear FX'
  replace hb : Below w.heap.size w ((W4.setCell ⟨go, 0, none⟩ (.int .i64 n)).setCell ⟨go, 1, none⟩ (.slice C1 cs'.length l1)) := Below.chg hb hch hb.size (by simp; omega)
  have hzc := hch.size
  clear hch
  replace Lc : Loc (((W4.setCell ⟨go, 0, none⟩ (.int .i64 n)).setCell ⟨go, 1, none⟩ (.slice C1 cs'.length l1)).setCell ⟨go, 2, none⟩ (.slice C2 pl.length l2)) (w.heap.size) [.int .i64 n, .slice A1 cs.length n1, .slice A2 pl.length n2, .slice A3 ds.length n3, .int .i64 m] := Lc.far (g := go) (i := 2) (u := .slice C2 pl.length l2) (by omega)
  replace Lr : Loc (((W4.setCell ⟨go, 0, none⟩ (.int .i64 n)).setCell ⟨go, 1, none⟩ (.slice C1 cs'.length l1)).setCell ⟨go, 2, none⟩ (.slice C2 pl.length l2)) (w.heap.size + 1) [.int .i64 0, .slice none 0 0, .slice none 0 0, .slice none 0 0, .int .i64 0] := Lr.far (g := go) (i := 2) (u := .slice C2 pl.length l2) (by omega)
  replace Lp : Loc (((W4.setCell ⟨go, 0, none⟩ (.int .i64 n)).setCell ⟨go, 1, none⟩ (.slice C1 cs'.length l1)).setCell ⟨go, 2, none⟩ (.slice C2 pl.length l2)) (gp) [.int .i64 n, .slice C1 cs'.length l1, .slice C2 pl.length l2] := Lp.far (g := go) (i := 2) (u := .slice C2 pl.length l2) (by omega)
  replace Lo : Loc (((W4.setCell ⟨go, 0, none⟩ (.int .i64 n)).setCell ⟨go, 1, none⟩ (.slice C1 cs'.length l1)).setCell ⟨go, 2, none⟩ (.slice C2 pl.length l2)) (go) [.int .i64 n, .slice C1 cs'.length l1, .slice C2 pl.length l2, .slice B3 ds.length k3, .int .i64 m] := Lo.set (i := 2) (v := .slice B2 pl.length k2) rfl
  have hch : Chg [go] ((W4.setCell ⟨go, 0, none⟩ (.int .i64 n)).setCell ⟨go, 1, none⟩ (.slice C1 cs'.length l1)) (((W4.setCell ⟨go, 0, none⟩ (.int .i64 n)).setCell ⟨go, 1, none⟩ (.slice C1 cs'.length l1)).setCell ⟨go, 2, none⟩ (.slice C2 pl.length l2)) := chg_set (Chg.refl _ _) (by simp)
  have OK3' := Lib.hid (OK3.out.chg hch (fun x hx hx' => DK3.out x hx (by simp at hx'; subst hx'; simp)))
  clear OK3; have OK3 := OK3'; clear OK3'
  have FK3' := Lib.hid (fresh_mono (w' := (((W4.setCell ⟨go, 0, none⟩ (.int .i64 n)).setCell ⟨go, 1, none⟩ (.slice C1 cs'.length l1)).setCell ⟨go, 2, none⟩ (.slice C2 pl.length l2))) FK3.out (Nat.le_refl _) hch.size)
  clear FK3; have FK3 := FK3'; clear FK3'
  have OX' := Lib.hid (OX.out.chg hch (fun x hx hx' => DX.out x hx (by simp at hx'; subst hx'; simp)))
  clear OX; have OX := OX'; clear OX'
  have FX' := Lib.hid (fresh_mono (w' := (((W4.setCell ⟨go, 0, none⟩ (.int .i64 n)).setCell ⟨go, 1, none⟩ (.slice C1 cs'.length l1)).setCell ⟨go, 2, none⟩ (.slice C2 pl.length l2))) FX.out (Nat.le_refl _) hch.size)
  clear FX; have FX := FX'; clear FX'
  replace hb : Below w.heap.size w (((W4.setCell ⟨go, 0, none⟩ (.int .i64 n)).setCell ⟨go, 1, none⟩ (.slice C1 cs'.length l1)).setCell ⟨go, 2, none⟩ (.slice C2 pl.length l2)) := Below.chg hb hch hb.size (by simp; omega)
  have hzc := hch.size
  clear hch
  generalize ((W4.setCell ⟨go, 0, none⟩ (.int .i64 n)).setCell ⟨go, 1, none⟩ (.slice C1 cs'.length l1)).setCell ⟨go, 2, none⟩ (.slice C2 pl.length l2) = W5 at *
  have FX' := Lib.hid (fresh_mono (B' := w.heap.size + 1 + 1) FX.out (by omega) (Nat.le_refl _))
  clear FX; have FX := FX'; clear FX'
  have OP : OwTheatre W5 (SX ++ SK3) (.slice C1 cs'.length l1) (.slice C2 pl.length l2) (.slice B3 ds.length k3) cs' pl ds := ⟨_, _, rfl, OX.out, OK3.out⟩
  have FQ := Lib.hid (fresh_join FX.out FK3.out (HJ.out))
  have DQ : Hid (∀ x ∈ SX ++ SK3, x ∉ [w.heap.size, w.heap.size + 1, go, gp]) := (fun x hx => (List.mem_append.1 hx).elim (DX.out x) (DK3.out x))
  have OQ := Lib.hid (OP)
  clear OX FX DX OK3 FK3 DK3
  obtain ⟨SQ, hSQ⟩ : ∃ T, SX ++ SK3 = T := ⟨_, rfl⟩
  rw [hSQ] at OQ FQ DQ
  clear hSQ
  clear OP
  have c0 := (Lc 0 _ rfl).1
  have c1 := (Lc 1 _ rfl).1
  have c2 := (Lc 2 _ rfl).1
  have c3 := (Lc 3 _ rfl).1
  have c4 := (Lc 4 _ rfl).1
  have o0 := (Lo 0 _ rfl).1
  have o1 := (Lo 1 _ rfl).1
  have o2 := (Lo 2 _ rfl).1
  have o3 := (Lo 3 _ rfl).1
  have o4 := (Lo 4 _ rfl).1
  go_wp2_with fail
  refine (becomes_eq (B := w.heap.size + 1 + 1) (S := SQ) Hres.out (h.below hb) hsz OQ.out FQ.out (by have := hb.size; omega)).mono ?_
  rintro e W6 ⟨z1, z2, z3, T, rfl, owr, fr, q⟩
  clear c0 c1 c2 c3 c4 o0 o1 o2 o3 o4
  obtain ⟨⟨Z1, e1, rfl⟩, ⟨Z2, e2, rfl⟩, ⟨Z3, e3, rfl⟩⟩ := owr.rd.forms
  have hzq : W5.heap.size ≤ W6.heap.size := by have := q.size; (try simp at this); omega
  replace Lc := Lc.below q
  replace Lr := Lr.below q
  replace Lo := Lo.below q
  replace Lp := Lp.below q
  have OQ' := Lib.hid (OQ.out.below q)
  clear OQ; have OQ := OQ'; clear OQ'
  have FQ' := Lib.hid (fresh_mono (w' := W6) FQ.out (Nat.le_refl _) hzq)
  clear FQ; have FQ := FQ'; clear FQ'
  replace hb : Below w.heap.size w W6 := hb.trans (q.mono hb.size)
  clear q
  have FR := Lib.hid fr
  have OR := Lib.hid owr
  clear fr owr Hres
  have r0 := (Lr 0 _ rfl).1
  have rf0 := (Lr 0 _ rfl).2
  have r1 := (Lr 1 _ rfl).1
  have rf1 := (Lr 1 _ rfl).2
  have r2 := (Lr 2 _ rfl).1
  have rf2 := (Lr 2 _ rfl).2
  have r3 := (Lr 3 _ rfl).1
  have rf3 := (Lr 3 _ rfl).2
  have r4 := (Lr 4 _ rfl).1
  have rf4 := (Lr 4 _ rfl).2
  go_wp2_with fail
  refine bodyPost_ret (v := .tuple #[.agg #[.int .i64 rn, .slice Z1 rcs.length e1, .slice Z2 rpl.length e2, .slice Z3 rds.length e3, .int .i64 rm], .bool rb]) (by simp [results, Try.results34, go_sem, *]) rfl ⟨_, _, _, T, rfl, ?_, ?_, ?_⟩
  · exact OR.out.chg (T := [w.heap.size + 1]) (by repeat' (first | (with_reducible exact Chg.refl _ _) | (with_reducible refine chg_set ?_ (by simp)))) (fun x hx hx' => by have := (FR.out.2 x hx).1; simp at hx'; omega)
  · exact fresh_mono FR.out (by omega) (by simp)
  · exact Below.chg hb (S := [w.heap.size + 1]) (by repeat' (first | (with_reducible exact Chg.refl _ _) | (with_reducible refine chg_set ?_ (by simp)))) hb.size (fun x hx => by simp at hx; omega)
set_option maxHeartbeats 8000000 in
set_option maxRecDepth 100000 in
theorem specMovePuppet_any (n m a : Int) (f : Bool) (v1 v2 v3 : Value) (cs : List RCross) (pl : List RPl) (ds : List Int) (w : World) (h : RdTheatre w v1 v2 v3 cs pl ds) (hsz : szTheatre cs pl ds ≤ 1048576) :
    Calls Try.prog 33 #[.agg #[.int .i64 n, v1, v2, v3, .int .i64 m], .int .i64 a, .bool f] w (RetTh w.heap.size (moveF ⟨n, m, cs, pl, ds⟩ a f) w) := by
  obtain ⟨⟨A1, n1, rfl⟩, ⟨A2, n2, rfl⟩, ⟨A3, n3, rfl⟩⟩ := h.forms
  have hszc : szCompany cs pl ≤ 1048576 := by unfold szTheatre at hsz; omega
  unfold moveF
  go_enter Try.func33, Try.ntmps33
  go_wp2_with fail
  refine (l38Copy_any n m _ _ _ cs pl ds _ (h.below (by (repeat' (first | (with_reducible exact Below.refl _ _) | (with_reducible assumption) | (with_reducible refine Below.setCell ?_ (by first | omega | (simp; omega) | (simp; done)) _) | (with_reducible refine Below.alloc ?_ (by first | omega | (simp; omega) | (simp; done)) _) | (with_reducible refine Below.drew ?_) | (with_reducible refine below_drewN ?_ _))))) hsz).mono ?_
  rintro e W1 ⟨x1, x2, x3, S, rfl, ow, f1, q⟩
  obtain ⟨⟨B1, k1, rfl⟩, ⟨B2, k2, rfl⟩, ⟨B3, k3, rfl⟩⟩ := ow.rd.forms
  have Lc : Loc W1 (w.heap.size) [.int .i64 n, .slice A1 cs.length n1, .slice A2 pl.length n2, .slice A3 ds.length n3, .int .i64 m] := by have := ((Loc.new w #[.int .i64 n, .slice A1 cs.length n1, .slice A2 pl.length n2, .slice A3 ds.length n3, .int .i64 m] 45).alloc _).below q; simpa using this
  have Lr : Loc W1 (w.heap.size + 1) [.int .i64 0, .slice none 0 0, .slice none 0 0, .slice none 0 0, .int .i64 0] := by have := (Loc.new (w.alloc (.cells #[.int .i64 n, .slice A1 cs.length n1, .slice A2 pl.length n2, .slice A3 ds.length n3, .int .i64 m] 45)) #[.int .i64 0, .slice none 0 0, .slice none 0 0, .slice none 0 0, .int .i64 0] 45).below q; simpa using this
  have hb : Below w.heap.size w W1 := Below.trans (by (repeat' (first | (with_reducible exact Below.refl _ _) | (with_reducible assumption) | (with_reducible refine Below.setCell ?_ (by first | omega | (simp; omega) | (simp; done)) _) | (with_reducible refine Below.alloc ?_ (by first | omega | (simp; omega) | (simp; done)) _) | (with_reducible refine Below.drew ?_) | (with_reducible refine below_drewN ?_ _)))) (q.mono (by simp <;> omega))
  have hz0 : w.heap.size + 1 + 1 ≤ W1.heap.size := by have := q.size; simp at this; omega
  have hlow : w.heap.size + 1 + 1 ≤ (((w.alloc (.cells #[.int .i64 n, .slice A1 cs.length n1, .slice A2 pl.length n2, .slice A3 ds.length n3, .int .i64 m] 45)).alloc (.cells #[.int .i64 0, .slice none 0 0, .slice none 0 0, .slice none 0 0, .int .i64 0] 45))).heap.size := by first | exact Nat.le_refl _ | (simp; done) | (simp; omega) | omega
  have FK := Lib.hid (fresh_mono f1 hlow (Nat.le_refl _))
  have DK : Hid (∀ x ∈ S, x ∉ [w.heap.size, w.heap.size + 1]) := (fun x hx => by have := (FK.out.2 x hx).1; simp; omega)
  have OK := Lib.hid ow
  clear ow f1 hlow
  clear q
  go_upto_region 2 with (fail)
  replace Lc : Loc (W1.alloc (.cells #[.int .i64 n, .slice B1 cs.length k1, .slice B2 pl.length k2, .slice B3 ds.length k3, .int .i64 m] 45)) (w.heap.size) [.int .i64 n, .slice A1 cs.length n1, .slice A2 pl.length n2, .slice A3 ds.length n3, .int .i64 m] := Lc.alloc _
  replace Lr : Loc (W1.alloc (.cells #[.int .i64 n, .slice B1 cs.length k1, .slice B2 pl.length k2, .slice B3 ds.length k3, .int .i64 m] 45)) (w.heap.size + 1) [.int .i64 0, .slice none 0 0, .slice none 0 0, .slice none 0 0, .int .i64 0] := Lr.alloc _
  obtain ⟨go, hgo⟩ : ∃ g, W1.heap.size = g := ⟨_, rfl⟩
  have Lo : Loc (W1.alloc (.cells #[.int .i64 n, .slice B1 cs.length k1, .slice B2 pl.length k2, .slice B3 ds.length k3, .int .i64 m] 45)) W1.heap.size [.int .i64 n, .slice B1 cs.length k1, .slice B2 pl.length k2, .slice B3 ds.length k3, .int .i64 m] := Loc.new W1 #[.int .i64 n, .slice B1 cs.length k1, .slice B2 pl.length k2, .slice B3 ds.length k3, .int .i64 m] 45
  rw [hgo] at Lo
  have OK' := Lib.hid (OK.out.below (w' := (W1.alloc (.cells #[.int .i64 n, .slice B1 cs.length k1, .slice B2 pl.length k2, .slice B3 ds.length k3, .int .i64 m] 45))) ((Below.refl _ _).alloc (Nat.le_refl _) _))
  clear OK; have OK := OK'; clear OK'
  have DK' : Hid (∀ x ∈ S, x ∉ [w.heap.size, w.heap.size + 1, go]) := (fun x hx => by have := DK.out x hx; have := (FK.out.2 x hx).2; simp at *; omega)
  clear DK; have DK := DK'; clear DK'
  have FK' := Lib.hid (fresh_mono (w' := (W1.alloc (.cells #[.int .i64 n, .slice B1 cs.length k1, .slice B2 pl.length k2, .slice B3 ds.length k3, .int .i64 m] 45))) FK.out (Nat.le_refl _) (by simp))
  clear FK; have FK := FK'; clear FK'
  replace hb : Below w.heap.size w (W1.alloc (.cells #[.int .i64 n, .slice B1 cs.length k1, .slice B2 pl.length k2, .slice B3 ds.length k3, .int .i64 m] 45)) := hb.alloc hb.size _
  have hlto : go < (W1.alloc (.cells #[.int .i64 n, .slice B1 cs.length k1, .slice B2 pl.length k2, .slice B3 ds.length k3, .int .i64 m] 45)).heap.size := by simp; omega
  have hne_c_o : w.heap.size < go := by omega
  have hne_r_o : w.heap.size + 1 < go := by omega
  generalize W1.alloc (.cells #[.int .i64 n, .slice B1 cs.length k1, .slice B2 pl.length k2, .slice B3 ds.length k3, .int .i64 m] 45) = W2 at *
  rw [hgo]
  clear hgo
  have c0 := (Lc 0 _ rfl).1
  have c1 := (Lc 1 _ rfl).1
  have c2 := (Lc 2 _ rfl).1
  have c3 := (Lc 3 _ rfl).1
  have c4 := (Lc 4 _ rfl).1
  go_wp2_with fail
  refine twoB (specTheatreOk_any n m _ _ _ cs pl ds _ (h.below hb)) (fun W3 hq q => ?_) (fun W3 hq q => ?_)
  · skip
    clear c0 c1 c2 c3 c4
    have hzq : W2.heap.size ≤ W3.heap.size := by have := q.size; (try simp at this); omega
    replace Lc := Lc.below q
    replace Lr := Lr.below q
    replace Lo := Lo.below q
    have OK' := Lib.hid (OK.out.below q)
    clear OK; have OK := OK'; clear OK'
    have FK' := Lib.hid (fresh_mono (w' := W3) FK.out (Nat.le_refl _) hzq)
    clear FK; have FK := FK'; clear FK'
    replace hb : Below w.heap.size w W3 := hb.trans (q.mono hb.size)
    clear q
    have c0 := (Lc 0 _ rfl).1
    have c1 := (Lc 1 _ rfl).1
    have c2 := (Lc 2 _ rfl).1
    have hU : ∀ x ∈ S, x < W3.heap.size := fun x hx => (FK.out.2 x hx).2
    go_wp2_with fail
    refine (specCrossOver_any n a f _ _ cs pl _ ((h.below hb).1) hszc).mono ?_
    rintro e W4 ⟨x4, x5, SX, rfl, ox, fx, q⟩
    clear c0 c1 c2
    obtain ⟨⟨C1, l1, rfl⟩, ⟨C2, l2, rfl⟩⟩ := ox.rd.forms
    have hzq : W3.heap.size ≤ W4.heap.size := by have := q.size; (try simp at this); omega
    replace Lc := Lc.below q
    replace Lr := Lr.below q
    replace Lo := Lo.below q
    have OK' := Lib.hid (OK.out.below q)
    clear OK; have OK := OK'; clear OK'
    have FK' := Lib.hid (fresh_mono (w' := W4) FK.out (Nat.le_refl _) hzq)
    clear FK; have FK := FK'; clear FK'
    replace hb : Below w.heap.size w W4 := hb.trans (q.mono hb.size)
    have hlow : W3.heap.size ≤ W3.heap.size := by first | exact Nat.le_refl _ | (simp; done) | (simp; omega) | omega
    have FX := Lib.hid (fresh_mono fx hlow (Nat.le_refl _))
    have DX : Hid (∀ x ∈ SX, x ∉ [w.heap.size, w.heap.size + 1, go]) := (fun x hx => by have := (FX.out.2 x hx).1; simp; omega)
    have OX := Lib.hid ox
    clear ox fx hlow
    clear q
    have Hw := Lib.hid (fun (h : theatreB n m cs pl ds = true) (hw : withB n cs pl [(a, f)] = true) => with_ok h hw)
    generalize withB n cs pl [(a, f)] = okc at *
    generalize withC n cs pl [(a, f)] = cs' at *
    have hJ : ∀ x ∈ SX, x ∉ S := fun x hx hx' => by have := (FX.out.2 x hx).1; have := hU x hx'; omega
    have HJ := Lib.hid hJ
    clear hJ hU
    go_upto_region 5 with (fail)
    replace Lc : Loc (W4.alloc (.cells #[.int .i64 n, .slice C1 cs'.length l1, .slice C2 pl.length l2] 30)) (w.heap.size) [.int .i64 n, .slice A1 cs.length n1, .slice A2 pl.length n2, .slice A3 ds.length n3, .int .i64 m] := Lc.alloc _
    replace Lr : Loc (W4.alloc (.cells #[.int .i64 n, .slice C1 cs'.length l1, .slice C2 pl.length l2] 30)) (w.heap.size + 1) [.int .i64 0, .slice none 0 0, .slice none 0 0, .slice none 0 0, .int .i64 0] := Lr.alloc _
    replace Lo : Loc (W4.alloc (.cells #[.int .i64 n, .slice C1 cs'.length l1, .slice C2 pl.length l2] 30)) (go) [.int .i64 n, .slice B1 cs.length k1, .slice B2 pl.length k2, .slice B3 ds.length k3, .int .i64 m] := Lo.alloc _
    obtain ⟨gp, hgp⟩ : ∃ g, W4.heap.size = g := ⟨_, rfl⟩
    have Lp : Loc (W4.alloc (.cells #[.int .i64 n, .slice C1 cs'.length l1, .slice C2 pl.length l2] 30)) W4.heap.size [.int .i64 n, .slice C1 cs'.length l1, .slice C2 pl.length l2] := Loc.new W4 #[.int .i64 n, .slice C1 cs'.length l1, .slice C2 pl.length l2] 30
    rw [hgp] at Lp
    have OK' := Lib.hid (OK.out.below (w' := (W4.alloc (.cells #[.int .i64 n, .slice C1 cs'.length l1, .slice C2 pl.length l2] 30))) ((Below.refl _ _).alloc (Nat.le_refl _) _))
    clear OK; have OK := OK'; clear OK'
    have OX' := Lib.hid (OX.out.below (w' := (W4.alloc (.cells #[.int .i64 n, .slice C1 cs'.length l1, .slice C2 pl.length l2] 30))) ((Below.refl _ _).alloc (Nat.le_refl _) _))
    clear OX; have OX := OX'; clear OX'
    have DK' : Hid (∀ x ∈ S, x ∉ [w.heap.size, w.heap.size + 1, go, gp]) := (fun x hx => by have := DK.out x hx; have := (FK.out.2 x hx).2; simp at *; omega)
    clear DK; have DK := DK'; clear DK'
    have FK' := Lib.hid (fresh_mono (w' := (W4.alloc (.cells #[.int .i64 n, .slice C1 cs'.length l1, .slice C2 pl.length l2] 30))) FK.out (Nat.le_refl _) (by simp))
    clear FK; have FK := FK'; clear FK'
    have DX' : Hid (∀ x ∈ SX, x ∉ [w.heap.size, w.heap.size + 1, go, gp]) := (fun x hx => by have := DX.out x hx; have := (FX.out.2 x hx).2; simp at *; omega)
    clear DX; have DX := DX'; clear DX'
    have FX' := Lib.hid (fresh_mono (w' := (W4.alloc (.cells #[.int .i64 n, .slice C1 cs'.length l1, .slice C2 pl.length l2] 30))) FX.out (Nat.le_refl _) (by simp))
    clear FX; have FX := FX'; clear FX'
    replace hb : Below w.heap.size w (W4.alloc (.cells #[.int .i64 n, .slice C1 cs'.length l1, .slice C2 pl.length l2] 30)) := hb.alloc hb.size _
    have hltp : gp < (W4.alloc (.cells #[.int .i64 n, .slice C1 cs'.length l1, .slice C2 pl.length l2] 30)).heap.size := by simp; omega
    have hne_c_p : w.heap.size < gp := by omega
    have hne_r_p : w.heap.size + 1 < gp := by omega
    have hne_o_p : go < gp := by omega
    generalize W4.alloc (.cells #[.int .i64 n, .slice C1 cs'.length l1, .slice C2 pl.length l2] 30) = W5 at *
    rw [hgp]
    clear hgp
    cases okc
    · skip
      have o0 := (Lo 0 _ rfl).1
      have o1 := (Lo 1 _ rfl).1
      have o2 := (Lo 2 _ rfl).1
      have o3 := (Lo 3 _ rfl).1
      have o4 := (Lo 4 _ rfl).1
      have r0 := (Lr 0 _ rfl).1
      have rf0 := (Lr 0 _ rfl).2
      have r1 := (Lr 1 _ rfl).1
      have rf1 := (Lr 1 _ rfl).2
      have r2 := (Lr 2 _ rfl).1
      have rf2 := (Lr 2 _ rfl).2
      have r3 := (Lr 3 _ rfl).1
      have rf3 := (Lr 3 _ rfl).2
      have r4 := (Lr 4 _ rfl).1
      have rf4 := (Lr 4 _ rfl).2
      go_wp2_with fail
      refine bodyPost_ret (v := .tuple #[.agg #[.int .i64 n, .slice B1 cs.length k1, .slice B2 pl.length k2, .slice B3 ds.length k3, .int .i64 m], .bool false]) (by simp [results, Try.results33, go_sem, *]) rfl (bec_f (by simp) ⟨_, _, _, S, rfl, ?_, ?_, ?_⟩)
      · exact OK.out.chg (T := [w.heap.size + 1]) (by repeat' (first | (with_reducible exact Chg.refl _ _) | (with_reducible refine chg_set ?_ (by simp)))) (fun x hx hx' => DK.out x hx (by simp at hx'; subst hx'; simp))
      · exact fresh_mono FK.out (by omega) (by simp)
      · exact Below.chg hb (S := [w.heap.size + 1]) (by repeat' (first | (with_reducible exact Chg.refl _ _) | (with_reducible refine chg_set ?_ (by simp)))) hb.size (fun x hx => by simp at hx; omega)
    · skip
      obtain ⟨SK1, SK3, eK, oK, pK⟩ := OK.out
      have FKx := FK.out
      have DKx := DK.out
      rw [eK] at FKx DKx
      have OK1 := Lib.hid oK
      have OK3 := Lib.hid pK
      have FK1 := Lib.hid (fresh_left FKx)
      have FK3 := Lib.hid (fresh_right FKx)
      have DK1 : Hid (∀ x ∈ SK1, x ∉ [w.heap.size, w.heap.size + 1, go, gp]) := (fun x hx => DKx x (List.mem_append_left _ hx))
      have DK3 : Hid (∀ x ∈ SK3, x ∉ [w.heap.size, w.heap.size + 1, go, gp]) := (fun x hx => DKx x (List.mem_append_right _ hx))
      have JK : Hid (∀ x ∈ SK1, x ∉ SK3) := (nodup2 FKx.1).2.2.1
      clear OK FK DK FKx DKx oK pK
      clear OK1 FK1 DK1
      have p0 := (Lp 0 _ rfl).1
      have p1 := (Lp 1 _ rfl).1
      have p2 := (Lp 2 _ rfl).1
      have o0 := (Lo 0 _ rfl).1
      have of0 := (Lo 0 _ rfl).2
      have o1 := (Lo 1 _ rfl).1
      have of1 := (Lo 1 _ rfl).2
      have o2 := (Lo 2 _ rfl).1
      have of2 := (Lo 2 _ rfl).2
      have o3 := (Lo 3 _ rfl).1
      have of3 := (Lo 3 _ rfl).2
      have o4 := (Lo 4 _ rfl).1
      have of4 := (Lo 4 _ rfl).2
      go_upto_region 8 with (fail)
      clear p0 p1 p2 o0 of0 o1 of1 o2 of2 o3 of3 o4 of4
      replace Lc : Loc (W5.setCell ⟨go, 0, none⟩ (.int .i64 n)) (w.heap.size) [.int .i64 n, .slice A1 cs.length n1, .slice A2 pl.length n2, .slice A3 ds.length n3, .int .i64 m] := Lc.far (g := go) (i := 0) (u := .int .i64 n) (by omega)
      replace Lr : Loc (W5.setCell ⟨go, 0, none⟩ (.int .i64 n)) (w.heap.size + 1) [.int .i64 0, .slice none 0 0, .slice none 0 0, .slice none 0 0, .int .i64 0] := Lr.far (g := go) (i := 0) (u := .int .i64 n) (by omega)
      replace Lp : Loc (W5.setCell ⟨go, 0, none⟩ (.int .i64 n)) (gp) [.int .i64 n, .slice C1 cs'.length l1, .slice C2 pl.length l2] := Lp.far (g := go) (i := 0) (u := .int .i64 n) (by omega)
      replace Lo : Loc (W5.setCell ⟨go, 0, none⟩ (.int .i64 n)) (go) [.int .i64 n, .slice B1 cs.length k1, .slice B2 pl.length k2, .slice B3 ds.length k3, .int .i64 m] := Lo.set (i := 0) (v := .int .i64 n) rfl
      have hch : Chg [go] W5 (W5.setCell ⟨go, 0, none⟩ (.int .i64 n)) := chg_set (Chg.refl _ _) (by simp)
      have OX' := Lib.hid (OX.out.chg hch (fun x hx hx' => DX.out x hx (by simp at hx'; subst hx'; simp)))
      clear OX; have OX := OX'; clear OX'
      have FX' := Lib.hid (fresh_mono (w' := (W5.setCell ⟨go, 0, none⟩ (.int .i64 n))) FX.out (Nat.le_refl _) hch.size)
      clear FX; have FX := FX'; clear FX'
      have OK3' := Lib.hid (OK3.out.chg hch (fun x hx hx' => DK3.out x hx (by simp at hx'; subst hx'; simp)))
      clear OK3; have OK3 := OK3'; clear OK3'
      have FK3' := Lib.hid (fresh_mono (w' := (W5.setCell ⟨go, 0, none⟩ (.int .i64 n))) FK3.out (Nat.le_refl _) hch.size)
      clear FK3; have FK3 := FK3'; clear FK3'
      replace hb : Below w.heap.size w (W5.setCell ⟨go, 0, none⟩ (.int .i64 n)) := Below.chg hb hch hb.size (by simp; omega)
      have hzc := hch.size
      clear hch
      replace Lc : Loc ((W5.setCell ⟨go, 0, none⟩ (.int .i64 n)).setCell ⟨go, 1, none⟩ (.slice C1 cs'.length l1)) (w.heap.size) [.int .i64 n, .slice A1 cs.length n1, .slice A2 pl.length n2, .slice A3 ds.length n3, .int .i64 m] := Lc.far (g := go) (i := 1) (u := .slice C1 cs'.length l1) (by omega)
      replace Lr : Loc ((W5.setCell ⟨go, 0, none⟩ (.int .i64 n)).setCell ⟨go, 1, none⟩ (.slice C1 cs'.length l1)) (w.heap.size + 1) [.int .i64 0, .slice none 0 0, .slice none 0 0, .slice none 0 0, .int .i64 0] := Lr.far (g := go) (i := 1) (u := .slice C1 cs'.length l1) (by omega)
      replace Lp : Loc ((W5.setCell ⟨go, 0, none⟩ (.int .i64 n)).setCell ⟨go, 1, none⟩ (.slice C1 cs'.length l1)) (gp) [.int .i64 n, .slice C1 cs'.length l1, .slice C2 pl.length l2] := Lp.far (g := go) (i := 1) (u := .slice C1 cs'.length l1) (by omega)
      replace Lo : Loc ((W5.setCell ⟨go, 0, none⟩ (.int .i64 n)).setCell ⟨go, 1, none⟩ (.slice C1 cs'.length l1)) (go) [.int .i64 n, .slice C1 cs'.length l1, .slice B2 pl.length k2, .slice B3 ds.length k3, .int .i64 m] := Lo.set (i := 1) (v := .slice B1 cs.length k1) rfl
      have hch : Chg [go] (W5.setCell ⟨go, 0, none⟩ (.int .i64 n)) ((W5.setCell ⟨go, 0, none⟩ (.int .i64 n)).setCell ⟨go, 1, none⟩ (.slice C1 cs'.length l1)) := chg_set (Chg.refl _ _) (by simp)
      have OX' := Lib.hid (OX.out.chg hch (fun x hx hx' => DX.out x hx (by simp at hx'; subst hx'; simp)))
      clear OX; have OX := OX'; clear OX'
      have FX' := Lib.hid (fresh_mono (w' := ((W5.setCell ⟨go, 0, none⟩ (.int .i64 n)).setCell ⟨go, 1, none⟩ (.slice C1 cs'.length l1))) FX.out (Nat.le_refl _) hch.size)
      clear FX; have FX := FX'; clear FX'
      have OK3' := Lib.hid (OK3.out.chg hch (fun x hx hx' => DK3.out x hx (by simp at hx'; subst hx'; simp)))
      clear OK3; have OK3 := OK3'; clear OK3'
      have FK3' := Lib.hid (fresh_mono (w' := ((W5.setCell ⟨go, 0, none⟩ (.int .i64 n)).setCell ⟨go, 1, none⟩ (.slice C1 cs'.length l1))) FK3.out (Nat.le_refl _) hch.size)
      clear FK3; have FK3 := FK3'; clear FK3'
      replace hb : Below w.heap.size w ((W5.setCell ⟨go, 0, none⟩ (.int .i64 n)).setCell ⟨go, 1, none⟩ (.slice C1 cs'.length l1)) := Below.chg hb hch hb.size (by simp; omega)
      have hzc := hch.size
      clear hch
      replace Lc : Loc (((W5.setCell ⟨go, 0, none⟩ (.int .i64 n)).setCell ⟨go, 1, none⟩ (.slice C1 cs'.length l1)).setCell ⟨go, 2, none⟩ (.slice C2 pl.length l2)) (w.heap.size) [.int .i64 n, .slice A1 cs.length n1, .slice A2 pl.length n2, .slice A3 ds.length n3, .int .i64 m] := Lc.far (g := go) (i := 2) (u := .slice C2 pl.length l2) (by omega)
      replace Lr : Loc (((W5.setCell ⟨go, 0, none⟩ (.int .i64 n)).setCell ⟨go, 1, none⟩ (.slice C1 cs'.length l1)).setCell ⟨go, 2, none⟩ (.slice C2 pl.length l2)) (w.heap.size + 1) [.int .i64 0, .slice none 0 0, .slice none 0 0, .slice none 0 0, .int .i64 0] := Lr.far (g := go) (i := 2) (u := .slice C2 pl.length l2) (by omega)
      replace Lp : Loc (((W5.setCell ⟨go, 0, none⟩ (.int .i64 n)).setCell ⟨go, 1, none⟩ (.slice C1 cs'.length l1)).setCell ⟨go, 2, none⟩ (.slice C2 pl.length l2)) (gp) [.int .i64 n, .slice C1 cs'.length l1, .slice C2 pl.length l2] := Lp.far (g := go) (i := 2) (u := .slice C2 pl.length l2) (by omega)
      replace Lo : Loc (((W5.setCell ⟨go, 0, none⟩ (.int .i64 n)).setCell ⟨go, 1, none⟩ (.slice C1 cs'.length l1)).setCell ⟨go, 2, none⟩ (.slice C2 pl.length l2)) (go) [.int .i64 n, .slice C1 cs'.length l1, .slice C2 pl.length l2, .slice B3 ds.length k3, .int .i64 m] := Lo.set (i := 2) (v := .slice B2 pl.length k2) rfl
      have hch : Chg [go] ((W5.setCell ⟨go, 0, none⟩ (.int .i64 n)).setCell ⟨go, 1, none⟩ (.slice C1 cs'.length l1)) (((W5.setCell ⟨go, 0, none⟩ (.int .i64 n)).setCell ⟨go, 1, none⟩ (.slice C1 cs'.length l1)).setCell ⟨go, 2, none⟩ (.slice C2 pl.length l2)) := chg_set (Chg.refl _ _) (by simp)
      have OX' := Lib.hid (OX.out.chg hch (fun x hx hx' => DX.out x hx (by simp at hx'; subst hx'; simp)))
      clear OX; have OX := OX'; clear OX'
      have FX' := Lib.hid (fresh_mono (w' := (((W5.setCell ⟨go, 0, none⟩ (.int .i64 n)).setCell ⟨go, 1, none⟩ (.slice C1 cs'.length l1)).setCell ⟨go, 2, none⟩ (.slice C2 pl.length l2))) FX.out (Nat.le_refl _) hch.size)
      clear FX; have FX := FX'; clear FX'
      have OK3' := Lib.hid (OK3.out.chg hch (fun x hx hx' => DK3.out x hx (by simp at hx'; subst hx'; simp)))
      clear OK3; have OK3 := OK3'; clear OK3'
      have FK3' := Lib.hid (fresh_mono (w' := (((W5.setCell ⟨go, 0, none⟩ (.int .i64 n)).setCell ⟨go, 1, none⟩ (.slice C1 cs'.length l1)).setCell ⟨go, 2, none⟩ (.slice C2 pl.length l2))) FK3.out (Nat.le_refl _) hch.size)
      clear FK3; have FK3 := FK3'; clear FK3'
      replace hb : Below w.heap.size w (((W5.setCell ⟨go, 0, none⟩ (.int .i64 n)).setCell ⟨go, 1, none⟩ (.slice C1 cs'.length l1)).setCell ⟨go, 2, none⟩ (.slice C2 pl.length l2)) := Below.chg hb hch hb.size (by simp; omega)
      have hzc := hch.size
      clear hch
      generalize ((W5.setCell ⟨go, 0, none⟩ (.int .i64 n)).setCell ⟨go, 1, none⟩ (.slice C1 cs'.length l1)).setCell ⟨go, 2, none⟩ (.slice C2 pl.length l2) = W6 at *
      have FX' := Lib.hid (fresh_mono (B' := w.heap.size + 1 + 1) FX.out (by omega) (Nat.le_refl _))
      clear FX; have FX := FX'; clear FX'
      have OP : OwTheatre W6 (SX ++ SK3) (.slice C1 cs'.length l1) (.slice C2 pl.length l2) (.slice B3 ds.length k3) cs' pl ds := ⟨_, _, rfl, OX.out, OK3.out⟩
      have FQ := Lib.hid (fresh_join FX.out FK3.out (fun x hx hx' => HJ.out x hx (by rw [eK]; exact List.mem_append_right _ hx')))
      have DQ : Hid (∀ x ∈ SX ++ SK3, x ∉ [w.heap.size, w.heap.size + 1, go, gp]) := (fun x hx => (List.mem_append.1 hx).elim (DX.out x) (DK3.out x))
      have OQ := Lib.hid (OP)
      clear OX FX DX OK3 FK3 DK3
      obtain ⟨SQ, hSQ⟩ : ∃ T, SX ++ SK3 = T := ⟨_, rfl⟩
      rw [hSQ] at OQ FQ DQ
      clear hSQ
      clear OP
      have o0 := (Lo 0 _ rfl).1
      have o1 := (Lo 1 _ rfl).1
      have o2 := (Lo 2 _ rfl).1
      have o3 := (Lo 3 _ rfl).1
      have o4 := (Lo 4 _ rfl).1
      have r0 := (Lr 0 _ rfl).1
      have rf0 := (Lr 0 _ rfl).2
      have r1 := (Lr 1 _ rfl).1
      have rf1 := (Lr 1 _ rfl).2
      have r2 := (Lr 2 _ rfl).1
      have rf2 := (Lr 2 _ rfl).2
      have r3 := (Lr 3 _ rfl).1
      have rf3 := (Lr 3 _ rfl).2
      have r4 := (Lr 4 _ rfl).1
      have rf4 := (Lr 4 _ rfl).2
      go_wp2_with fail
      refine bodyPost_ret (v := .tuple #[.agg #[.int .i64 n, .slice C1 cs'.length l1, .slice C2 pl.length l2, .slice B3 ds.length k3, .int .i64 m], .bool true]) (by simp [results, Try.results33, go_sem, *]) rfl (bec_t ⟨hq.out, rfl, Hw.out hq.out (by simp)⟩ ⟨_, _, _, SQ, rfl, ?_, ?_, ?_⟩)
      · exact OQ.out.chg (T := [w.heap.size + 1]) (by repeat' (first | (with_reducible exact Chg.refl _ _) | (with_reducible refine chg_set ?_ (by simp)))) (fun x hx hx' => DQ.out x hx (by simp at hx'; subst hx'; simp))
      · exact fresh_mono FQ.out (by omega) (by simp)
      · exact Below.chg hb (S := [w.heap.size + 1]) (by repeat' (first | (with_reducible exact Chg.refl _ _) | (with_reducible refine chg_set ?_ (by simp)))) hb.size (fun x hx => by simp at hx; omega)
  · skip
    clear c0 c1 c2 c3 c4
    have hzq : W2.heap.size ≤ W3.heap.size := by have := q.size; (try simp at this); omega
    replace Lc := Lc.below q
    replace Lr := Lr.below q
    replace Lo := Lo.below q
    have OK' := Lib.hid (OK.out.below q)
    clear OK; have OK := OK'; clear OK'
    have FK' := Lib.hid (fresh_mono (w' := W3) FK.out (Nat.le_refl _) hzq)
    clear FK; have FK := FK'; clear FK'
    replace hb : Below w.heap.size w W3 := hb.trans (q.mono hb.size)
    clear q
    have o0 := (Lo 0 _ rfl).1
    have o1 := (Lo 1 _ rfl).1
    have o2 := (Lo 2 _ rfl).1
    have o3 := (Lo 3 _ rfl).1
    have o4 := (Lo 4 _ rfl).1
    have r0 := (Lr 0 _ rfl).1
    have rf0 := (Lr 0 _ rfl).2
    have r1 := (Lr 1 _ rfl).1
    have rf1 := (Lr 1 _ rfl).2
    have r2 := (Lr 2 _ rfl).1
    have rf2 := (Lr 2 _ rfl).2
    have r3 := (Lr 3 _ rfl).1
    have rf3 := (Lr 3 _ rfl).2
    have r4 := (Lr 4 _ rfl).1
    have rf4 := (Lr 4 _ rfl).2
    go_wp2_with fail
    refine bodyPost_ret (v := .tuple #[.agg #[.int .i64 n, .slice B1 cs.length k1, .slice B2 pl.length k2, .slice B3 ds.length k3, .int .i64 m], .bool false]) (by simp [results, Try.results33, go_sem, *]) rfl (bec_f (fun hh => absurd (show theatreB n m cs pl ds = true from hh.1) (by rw [hq.out]; simp)) ⟨_, _, _, S, rfl, ?_, ?_, ?_⟩)
    · exact OK.out.chg (T := [w.heap.size + 1]) (by repeat' (first | (with_reducible exact Chg.refl _ _) | (with_reducible refine chg_set ?_ (by simp)))) (fun x hx hx' => DK.out x hx (by simp at hx'; subst hx'; simp))
    · exact fresh_mono FK.out (by omega) (by simp)
    · exact Below.chg hb (S := [w.heap.size + 1]) (by repeat' (first | (with_reducible exact Chg.refl _ _) | (with_reducible refine chg_set ?_ (by simp)))) hb.size (fun x hx => by simp at hx; omega)
theorem move2 (n m a : Int) (f : Bool) (cs : List RCross) (pl : List RPl) (ds : List Int) : ∃ n' m' ok cs' pl' ds', (szTheatre cs' pl' ds' ≤ szTheatre cs pl ds ∨ szTheatre cs' pl' ds' ≤ 148) ∧
    (∀ W v1 v2 v3, RdTheatre W v1 v2 v3 cs pl ds → szTheatre cs pl ds ≤ 1048576 → Calls Try.prog 33 #[.agg #[.int .i64 n, v1, v2, v3, .int .i64 m], .int .i64 a, .bool f] W (RetT W.heap.size n' m' ok cs' pl' ds' W)) ∧
    (∀ W v1 v2 v3, RdTheatre W v1 v2 v3 cs pl ds → szTheatre cs pl ds ≤ 1048576 → Calls Try.prog 34 #[.agg #[.int .i64 n, v1, v2, v3, .int .i64 m], .int .i64 a, .bool f] W (RetT W.heap.size n' m' ok cs' pl' ds' W)) :=
  ⟨_, _, _, _, _, _, bec_sz ⟨n, m, cs, pl, ds⟩ _ _, fun W v1 v2 v3 hr hs => specMovePuppet_any n m a f v1 v2 v3 cs pl ds W hr hs, fun W v1 v2 v3 hr hs => implMovePuppet_any n m a f v1 v2 v3 cs pl ds W hr hs⟩
end Go.Proofs.Ytjagcffgmmogeaa
