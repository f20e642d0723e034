/- Contracts: copies of Theatre. Written by a program (gen_copy.py). -/
import Derived.Test.YtkejgogheonakaaCPCompany
import Derived.Test.YtkejgogheonakaaKC
import Derived.Test.YtkejgogheonakaaSTheatre
namespace Go.Proofs.Ytkejgogheonakaa
open Go.RowKit
theorem act12Theatre {a : Act} (h : a.tmps.size = 12) (hd : a.defers = []) : ∃ x0 x1 x2 x3 x4 x5 x6 x7 x8 x9 x10 x11 : Value, a = ⟨#[x0, x1, x2, x3, x4, x5, x6, x7, x8, x9, x10, x11], []⟩ := by
  obtain ⟨⟨l⟩, d⟩ := a
  subst hd
  match l, h with
  | [x0, x1, x2, x3, x4, x5, x6, x7, x8, x9, x10, x11], _ => exact ⟨x0, x1, x2, x3, x4, x5, x6, x7, x8, x9, x10, x11, rfl⟩
theorem act13Theatre {a : Act} (h : a.tmps.size = 13) (hd : a.defers = []) : ∃ x0 x1 x2 x3 x4 x5 x6 x7 x8 x9 x10 x11 x12 : Value, a = ⟨#[x0, x1, x2, x3, x4, x5, x6, x7, x8, x9, x10, x11, x12], []⟩ := by
  obtain ⟨⟨l⟩, d⟩ := a
  subst hd
  match l, h with
  | [x0, x1, x2, x3, x4, x5, x6, x7, x8, x9, x10, x11, x12], _ => exact ⟨x0, x1, x2, x3, x4, x5, x6, x7, x8, x9, x10, x11, x12, rfl⟩
def ptheatreCopied (b0 B : Nat) (a0 a4 : Int) (y1 y2 y3 : Value) (d1 : List RCross) (d2 : List RPl) (d3 : List Int) (i : Nat) (v : Value) (gh : Nat → Nat) (w : World) : Prop :=
  match i with
  | 0 => v = .pointer (some ⟨b0, 0, none⟩)
  | 1 => v = .agg #[.int .i64 a0, y1, y2]
  | 2 => ∃ u1 u2, v = .agg #[.int .i64 a0, u1, u2] ∧ OwG B (fun w S => OwCompany w S u1 u2 d1 d2) 1 gh w
  | 3 => v = .pointer (some ⟨b0, 3, none⟩)
  | 4 => v = y3
  | 5 => OwG B (fun w S => OwL 3 cInt 1 w S v d3) 2 gh w
  | 6 => v = .pointer (some ⟨b0, 4, none⟩)
  | 7 => v = .int .i64 a4
  | 8 => ∃ u1 u2 z5, v = .agg #[.int .i64 a0, u1, u2, z5, .int .i64 a4] ∧ OwG B (fun w S => OwCompany w S u1 u2 d1 d2) 1 gh w ∧ OwG B (fun w S => OwL 3 cInt 1 w S z5 d3) 2 gh w
  | _ => True
set_option maxHeartbeats 4000000 in
set_option maxRecDepth 100000 in
theorem theatreCopied_any (a0 a4 : Int) (v1 v2 v3 : Value) (d1 : List RCross) (d2 : List RPl) (d3 : List Int) (w : World) (h : RdTheatre w v1 v2 v3 d1 d2 d3) (hl : szTheatre d1 d2 d3 ≤ 1048576) :
    Calls Try.prog 89 #[.agg #[.int .i64 a0, v1, v2, v3, .int .i64 a4]] w (ToTheatre a0 a4 d1 d2 d3 w) := by
  obtain ⟨⟨A1, n1, rfl⟩, ⟨A2, n2, rfl⟩, ⟨A3, n3, rfl⟩⟩ := h.forms
  obtain ⟨hco, hd3⟩ := h
  unfold szTheatre szCompany at hl
  go_enter Try.func89, Try.ntmps89
  go_wp2_with fail
  have La : Loc ((w.alloc (.cells #[.int .i64 a0, .slice A1 d1.length n1, .slice A2 d2.length n2, .slice A3 d3.length n3, .int .i64 a4] 68)).alloc (.cells #[.int .i64 0, .slice none 0 0, .slice none 0 0, .slice none 0 0, .int .i64 0] 68)) w.heap.size [.int .i64 a0, .slice A1 d1.length n1, .slice A2 d2.length n2, .slice A3 d3.length n3, .int .i64 a4] := (Loc.new w #[.int .i64 a0, .slice A1 d1.length n1, .slice A2 d2.length n2, .slice A3 d3.length n3, .int .i64 a4] 68).alloc _
  have Lr : Loc ((w.alloc (.cells #[.int .i64 a0, .slice A1 d1.length n1, .slice A2 d2.length n2, .slice A3 d3.length n3, .int .i64 a4] 68)).alloc (.cells #[.int .i64 0, .slice none 0 0, .slice none 0 0, .slice none 0 0, .int .i64 0] 68)) (w.heap.size + 1) [.int .i64 0, .slice none 0 0, .slice none 0 0, .slice none 0 0, .int .i64 0] := by
    have := Loc.new (w.alloc (.cells #[.int .i64 a0, .slice A1 d1.length n1, .slice A2 d2.length n2, .slice A3 d3.length n3, .int .i64 a4] 68)) #[.int .i64 0, .slice none 0 0, .slice none 0 0, .slice none 0 0, .int .i64 0] 68
    simpa using this
  have hb : Below w.heap.size w ((w.alloc (.cells #[.int .i64 a0, .slice A1 d1.length n1, .slice A2 d2.length n2, .slice A3 d3.length n3, .int .i64 a4] 68)).alloc (.cells #[.int .i64 0, .slice none 0 0, .slice none 0 0, .slice none 0 0, .int .i64 0] 68)) := by (repeat' (first | (with_reducible exact Below.refl _ _) | (with_reducible assumption) | (with_reducible refine Below.setCell ?_ (by first | omega | (simp; omega) | (simp; done)) _) | (with_reducible refine Below.alloc ?_ (by first | omega | (simp; omega) | (simp; done)) _) | (with_reducible refine Below.drew ?_) | (with_reducible refine below_drewN ?_ _)))
  have hz : ((w.alloc (.cells #[.int .i64 a0, .slice A1 d1.length n1, .slice A2 d2.length n2, .slice A3 d3.length n3, .int .i64 a4] 68)).alloc (.cells #[.int .i64 0, .slice none 0 0, .slice none 0 0, .slice none 0 0, .int .i64 0] 68)).heap.size = w.heap.size + 1 + 1 := by simp
  generalize (w.alloc (.cells #[.int .i64 a0, .slice A1 d1.length n1, .slice A2 d2.length n2, .slice A3 d3.length n3, .int .i64 a4] 68)).alloc (.cells #[.int .i64 0, .slice none 0 0, .slice none 0 0, .slice none 0 0, .int .i64 0] 68) = W at *
  have hzW : w.heap.size + 1 + 1 ≤ W.heap.size := by omega
  have hzW' : W.heap.size ≤ w.heap.size + 1 + 1 := by omega
  clear hz
  replace hco := hco.below hb
  replace hd3 := hd3.below hb
  refine region_made (n := 12) 9 (by kernel_rfl) rfl (by kernel_rfl) (fun w' => Below W.heap.size W w') (fun i => if i = 2 then 1 else if i = 5 then 2 else 0) (ptheatreCopied w.heap.size (w.heap.size + 1 + 1) a0 a4 (.slice A1 d1.length n1) (.slice A2 d2.length n2) (.slice A3 d3.length n3) d1 d2 d3) (Below.refl _ _).drew ?_ ?_ ?_
  · intro i v gh gh' w1 w2 hp hJ hb' hg
    match i, hp with
    | 0, hp => exact hp
    | 1, hp => exact hp
    | 2, ⟨u1, u2, hv, ho⟩ => exact ⟨u1, u2, hv, OwG.keep ho (fun _ h => h.below hb') hb' hg⟩
    | 3, hp => exact hp
    | 4, hp => exact hp
    | 5, hp =>
      have hp' : OwG (w.heap.size + 1 + 1) (fun w S => OwL 3 cInt 1 w S v d3) 2 gh w1 := hp
      exact OwG.keep hp' (fun _ h => h.below hb') hb' hg
    | 6, hp => exact hp
    | 7, hp => exact hp
    | 8, ⟨u1, u2, z5, hv, o0, o1⟩ => exact ⟨u1, u2, z5, hv, OwG.keep o0 (fun _ h => h.below hb') hb' hg, OwG.keep o1 (fun _ h => h.below hb') hb' hg⟩
    | _ + 9, _ => trivial
  · refine ⟨?_, ?_, ?_, ?_, ?_, ?_, ?_, ?_, ?_, trivial⟩
    all_goals
      intro a gh wr hag hJ hd
      obtain ⟨x0, x1, x2, x3, x4, x5, x6, x7, x8, x9, x10, x11, rfl⟩ := act12Theatre hag.size hag.defers
      have ag1 : x1 = .pointer (some ⟨w.heap.size, 0, none⟩) := hag.kept 1 (by kernel_rfl)
      clear hag
      subst ag1
    · go_wp2_with fail
      exact ⟨rfl, _, rfl, rfl, hJ, Below.refl _ _⟩
    · have e1 : x3 = .pointer (some ⟨w.heap.size, 0, none⟩) := hd 0 (by kernel_rfl) _ rfl
      subst e1
      have c0 := ((La.below hJ) 0 _ rfl).1
      have c1 := ((La.below hJ) 1 _ rfl).1
      have c2 := ((La.below hJ) 2 _ rfl).1
      go_wp2_with fail
      exact ⟨rfl, _, rfl, rfl, hJ, Below.refl _ _⟩
    · have e1 : x4 = .agg #[.int .i64 a0, .slice A1 d1.length n1, .slice A2 d2.length n2] := hd 1 (by kernel_rfl) _ rfl
      subst e1
      go_wp2_with (go_at_call 119; refine (companyCopied_any a0 _ _ d1 d2 _ (hco.below hJ) (by unfold szCompany; omega)).mono ?_; rintro e w1 ⟨x, y, S, rfl, own1, f1, q1⟩)
      exact ⟨rfl, _, rfl, ⟨_, _, rfl, OwG.of_fresh (ow := fun w S => OwCompany w S x y d1 d2) own1 f1 (Nat.le_trans hzW hJ.size)⟩, hJ.trans (q1.mono hJ.size), q1⟩
    · go_wp2_with fail
      exact ⟨rfl, _, rfl, rfl, hJ, Below.refl _ _⟩
    · have e1 : x6 = .pointer (some ⟨w.heap.size, 3, none⟩) := hd 3 (by kernel_rfl) _ rfl
      subst e1
      have c3 := ((La.below hJ) 3 _ rfl).1
      go_wp2_with fail
      exact ⟨rfl, _, rfl, rfl, hJ, Below.refl _ _⟩
    · have e1 : x7 = .slice A3 d3.length n3 := hd 4 (by kernel_rfl) _ rfl
      subst e1
      go_wp2_with (go_at_call 140; refine (copyOf_any _ d3 _ (hd3.below hJ) (by omega)).mono ?_; rintro e w1 ⟨x, rfl, own1, q1⟩)
      exact ⟨rfl, _, rfl, OwG.of_fresh (ow := (fun w S => OwL 3 cInt 1 w S x d3)) (OwL.mk_ own1) (fresh_of own1) (Nat.le_trans hzW hJ.size), hJ.trans (q1.mono hJ.size), q1⟩
    · go_wp2_with fail
      exact ⟨rfl, _, rfl, rfl, hJ, Below.refl _ _⟩
    · have e1 : x9 = .pointer (some ⟨w.heap.size, 4, none⟩) := hd 6 (by kernel_rfl) _ rfl
      subst e1
      have c4 := ((La.below hJ) 4 _ rfl).1
      go_wp2_with fail
      exact ⟨rfl, _, rfl, rfl, hJ, Below.refl _ _⟩
    · skip
      obtain ⟨u1, u2, e5, q5⟩ : ∃ u1 u2, x5 = .agg #[.int .i64 a0, u1, u2] ∧ OwG (w.heap.size + 1 + 1) (fun w S => OwCompany w S u1 u2 d1 d2) 1 gh wr := hd 2 (by kernel_rfl) _ rfl
      obtain ⟨⟨B1, k1, rfl⟩, ⟨B2, k2, rfl⟩⟩ : (∃ A c, u1 = .slice A d1.length c) ∧ (∃ A c, u2 = .slice A d2.length c) := by obtain ⟨S, h, _⟩ := q5; exact h.rd.forms
      have q8 : OwG (w.heap.size + 1 + 1) (fun w S => OwL 3 cInt 1 w S x8 d3) 2 gh wr := hd 5 (by kernel_rfl) _ rfl
      obtain ⟨D8, m8, e8⟩ : ∃ A c, x8 = .slice A d3.length c := by obtain ⟨S, h, _⟩ := q8; obtain ⟨A, c, e, _⟩ := h.rd.form; exact ⟨A, c, e⟩
      have e10 : x10 = .int .i64 a4 := hd 7 (by kernel_rfl) _ rfl
      subst e5 e8 e10
      go_wp2_with fail
      exact ⟨rfl, _, rfl, ⟨_, _, _, rfl, OwG.same q5 _, OwG.same q8 _⟩, hJ, Below.refl _ _⟩
  · intro a gh wr hag hJ hd
    obtain ⟨x0, x1, x2, x3, x4, x5, x6, x7, x8, x9, x10, x11, rfl⟩ := act12Theatre hag.size hag.defers
    have ag2 : x2 = .pointer (some ⟨w.heap.size + 1, 0, none⟩) := hag.kept 2 (by kernel_rfl)
    subst ag2
    obtain ⟨u1, u2, z5, e1, q0, q1⟩ : ∃ u1 u2 z5, x11 = .agg #[.int .i64 a0, u1, u2, z5, .int .i64 a4] ∧ OwG (w.heap.size + 1 + 1) (fun w S => OwCompany w S u1 u2 d1 d2) 1 gh wr ∧ OwG (w.heap.size + 1 + 1) (fun w S => OwL 3 cInt 1 w S z5 d3) 2 gh wr := hd 8 (by kernel_rfl) _ rfl
    obtain ⟨⟨B1, k1, rfl⟩, ⟨B2, k2, rfl⟩⟩ : (∃ A c, u1 = .slice A d1.length c) ∧ (∃ A c, u2 = .slice A d2.length c) := by obtain ⟨S, h, _⟩ := q0; exact h.rd.forms
    obtain ⟨Dz5, mz5, rfl⟩ : ∃ A c, z5 = .slice A d3.length c := by obtain ⟨S, h, _⟩ := q1; obtain ⟨A, c, e, _⟩ := h.rd.form; exact ⟨A, c, e⟩
    subst e1
    have Lq := Lr.below hJ
    have r0 := (Lq 0 _ rfl).1
    have p0 := (Lq 0 _ rfl).2
    have r1 := (Lq 1 _ rfl).1
    have p1 := (Lq 1 _ rfl).2
    have r2 := (Lq 2 _ rfl).1
    have p2 := (Lq 2 _ rfl).2
    have r3 := (Lq 3 _ rfl).1
    have p3 := (Lq 3 _ rfl).2
    have r4 := (Lq 4 _ rfl).1
    have p4 := (Lq 4 _ rfl).2
    clear hd La Lr Lq
    have hz := hJ.size
    have hset : Chg [w.heap.size + 1] wr (((((wr.setCell ⟨w.heap.size + 1, 0, none⟩ (.int .i64 a0)).setCell ⟨w.heap.size + 1, 1, none⟩ (.slice B1 d1.length k1)).setCell ⟨w.heap.size + 1, 2, none⟩ (.slice B2 d2.length k2)).setCell ⟨w.heap.size + 1, 3, none⟩ (.slice Dz5 d3.length mz5)).setCell ⟨w.heap.size + 1, 4, none⟩ (.int .i64 a4)) := by repeat' (first | (with_reducible exact Chg.refl _ _) | (with_reducible refine chg_set ?_ (by simp)))
    have Gq0 := Lib.hid (OwG.chg q0 hset (by simp) (fun S h hn => h.chg hset hn))
    clear q0
    have Gq1 := Lib.hid (OwG.chg q1 hset (by simp) (fun S h hn => h.chg hset hn))
    clear q1
    go_wp2_with fail
    obtain ⟨S1, S2, t1, t2, hf⟩ := OwG.two Gq0.out Gq1.out (by decide)
    refine bodyPost_ret (v := .agg #[.int .i64 a0, .slice B1 d1.length k1, .slice B2 d2.length k2, .slice Dz5 d3.length mz5, .int .i64 a4]) (by simp [results, Try.results89, go_sem, *]) rfl ⟨.slice B1 d1.length k1, .slice B2 d2.length k2, .slice Dz5 d3.length mz5, (S1 ++ S2), rfl, ⟨S1, S2, rfl, t1, t2⟩, fresh_mono hf (by omega) (Nat.le_refl _), ?_⟩
    exact Below.chg (hb.trans (hJ.mono (by omega))) hset (by omega) (by simp)
def pl38Copy (b0 B : Nat) (a0 a4 : Int) (y1 y2 y3 : Value) (d1 : List RCross) (d2 : List RPl) (d3 : List Int) (i : Nat) (v : Value) (gh : Nat → Nat) (w : World) : Prop :=
  match i with
  | 0 => v = .pointer (some ⟨b0, 0, none⟩)
  | 1 => v = .agg #[.int .i64 a0, y1, y2]
  | 2 => ∃ u1 u2, v = .agg #[.int .i64 a0, u1, u2] ∧ OwG B (fun w S => OwCompany w S u1 u2 d1 d2) 1 gh w
  | 3 => ∃ g, v = .slice (some ⟨g, 0, none⟩) 0 0 ∧ OwnC B 3 1 v 0 [] 2 gh w
  | 4 => v = .pointer (some ⟨b0, 3, none⟩)
  | 5 => v = y3
  | 6 => OwG B (fun w S => OwL 3 cInt 1 w S v d3) 2 gh w
  | 7 => v = .pointer (some ⟨b0, 4, none⟩)
  | 8 => v = .int .i64 a4
  | 9 => ∃ u1 u2 z6, v = .agg #[.int .i64 a0, u1, u2, z6, .int .i64 a4] ∧ OwG B (fun w S => OwCompany w S u1 u2 d1 d2) 1 gh w ∧ OwG B (fun w S => OwL 3 cInt 1 w S z6 d3) 2 gh w
  | _ => True
set_option maxHeartbeats 4000000 in
set_option maxRecDepth 100000 in
theorem l38Copy_any (a0 a4 : Int) (v1 v2 v3 : Value) (d1 : List RCross) (d2 : List RPl) (d3 : List Int) (w : World) (h : RdTheatre w v1 v2 v3 d1 d2 d3) (hl : szTheatre d1 d2 d3 ≤ 1048576) :
    Calls Try.prog 85 #[.agg #[.int .i64 a0, v1, v2, v3, .int .i64 a4]] w (ToTheatre a0 a4 d1 d2 d3 w) := by
  obtain ⟨⟨A1, n1, rfl⟩, ⟨A2, n2, rfl⟩, ⟨A3, n3, rfl⟩⟩ := h.forms
  obtain ⟨hco, hd3⟩ := h
  unfold szTheatre szCompany at hl
  obtain ⟨iInt, hiInt, hzInt0, hzInt1, hzInt2⟩ := info_parts infoInt
  go_enter Try.func85, Try.ntmps85
  go_wp2_with fail
  have La : Loc ((w.alloc (.cells #[.int .i64 a0, .slice A1 d1.length n1, .slice A2 d2.length n2, .slice A3 d3.length n3, .int .i64 a4] 68)).alloc (.cells #[.int .i64 0, .slice none 0 0, .slice none 0 0, .slice none 0 0, .int .i64 0] 68)) w.heap.size [.int .i64 a0, .slice A1 d1.length n1, .slice A2 d2.length n2, .slice A3 d3.length n3, .int .i64 a4] := (Loc.new w #[.int .i64 a0, .slice A1 d1.length n1, .slice A2 d2.length n2, .slice A3 d3.length n3, .int .i64 a4] 68).alloc _
  have Lr : Loc ((w.alloc (.cells #[.int .i64 a0, .slice A1 d1.length n1, .slice A2 d2.length n2, .slice A3 d3.length n3, .int .i64 a4] 68)).alloc (.cells #[.int .i64 0, .slice none 0 0, .slice none 0 0, .slice none 0 0, .int .i64 0] 68)) (w.heap.size + 1) [.int .i64 0, .slice none 0 0, .slice none 0 0, .slice none 0 0, .int .i64 0] := by
    have := Loc.new (w.alloc (.cells #[.int .i64 a0, .slice A1 d1.length n1, .slice A2 d2.length n2, .slice A3 d3.length n3, .int .i64 a4] 68)) #[.int .i64 0, .slice none 0 0, .slice none 0 0, .slice none 0 0, .int .i64 0] 68
    simpa using this
  have hb : Below w.heap.size w ((w.alloc (.cells #[.int .i64 a0, .slice A1 d1.length n1, .slice A2 d2.length n2, .slice A3 d3.length n3, .int .i64 a4] 68)).alloc (.cells #[.int .i64 0, .slice none 0 0, .slice none 0 0, .slice none 0 0, .int .i64 0] 68)) := by (repeat' (first | (with_reducible exact Below.refl _ _) | (with_reducible assumption) | (with_reducible refine Below.setCell ?_ (by first | omega | (simp; omega) | (simp; done)) _) | (with_reducible refine Below.alloc ?_ (by first | omega | (simp; omega) | (simp; done)) _) | (with_reducible refine Below.drew ?_) | (with_reducible refine below_drewN ?_ _)))
  have hz : ((w.alloc (.cells #[.int .i64 a0, .slice A1 d1.length n1, .slice A2 d2.length n2, .slice A3 d3.length n3, .int .i64 a4] 68)).alloc (.cells #[.int .i64 0, .slice none 0 0, .slice none 0 0, .slice none 0 0, .int .i64 0] 68)).heap.size = w.heap.size + 1 + 1 := by simp
  generalize (w.alloc (.cells #[.int .i64 a0, .slice A1 d1.length n1, .slice A2 d2.length n2, .slice A3 d3.length n3, .int .i64 a4] 68)).alloc (.cells #[.int .i64 0, .slice none 0 0, .slice none 0 0, .slice none 0 0, .int .i64 0] 68) = W at *
  have hzW : w.heap.size + 1 + 1 ≤ W.heap.size := by omega
  have hzW' : W.heap.size ≤ w.heap.size + 1 + 1 := by omega
  clear hz
  replace hco := hco.below hb
  replace hd3 := hd3.below hb
  refine region_made (n := 13) 10 (by kernel_rfl) rfl (by kernel_rfl) (fun w' => Below W.heap.size W w') (fun i => if i = 2 then 1 else if i = 3 then 2 else if i = 6 then 2 else 0) (pl38Copy w.heap.size (w.heap.size + 1 + 1) a0 a4 (.slice A1 d1.length n1) (.slice A2 d2.length n2) (.slice A3 d3.length n3) d1 d2 d3) (Below.refl _ _).drew ?_ ?_ ?_
  · intro i v gh gh' w1 w2 hp hJ hb' hg
    match i, hp with
    | 0, hp => exact hp
    | 1, hp => exact hp
    | 2, ⟨u1, u2, hv, ho⟩ => exact ⟨u1, u2, hv, OwG.keep ho (fun _ h => h.below hb') hb' hg⟩
    | 3, ⟨g, hv, ho⟩ => exact ⟨g, hv, OwnC.keep ho hb' hg⟩
    | 4, hp => exact hp
    | 5, hp => exact hp
    | 6, hp =>
      have hp' : OwG (w.heap.size + 1 + 1) (fun w S => OwL 3 cInt 1 w S v d3) 2 gh w1 := hp
      exact OwG.keep hp' (fun _ h => h.below hb') hb' hg
    | 7, hp => exact hp
    | 8, hp => exact hp
    | 9, ⟨u1, u2, z6, hv, o0, o1⟩ => exact ⟨u1, u2, z6, hv, OwG.keep o0 (fun _ h => h.below hb') hb' hg, OwG.keep o1 (fun _ h => h.below hb') hb' hg⟩
    | _ + 10, _ => trivial
  · refine ⟨?_, ?_, ?_, ?_, ?_, ?_, ?_, ?_, ?_, ?_, trivial⟩
    all_goals
      intro a gh wr hag hJ hd
      obtain ⟨x0, x1, x2, x3, x4, x5, x6, x7, x8, x9, x10, x11, x12, rfl⟩ := act13Theatre hag.size hag.defers
      have ag1 : x1 = .pointer (some ⟨w.heap.size, 0, none⟩) := hag.kept 1 (by kernel_rfl)
      clear hag
      subst ag1
    · go_wp2_with fail
      exact ⟨rfl, _, rfl, rfl, hJ, Below.refl _ _⟩
    · have e1 : x3 = .pointer (some ⟨w.heap.size, 0, none⟩) := hd 0 (by kernel_rfl) _ rfl
      subst e1
      have c0 := ((La.below hJ) 0 _ rfl).1
      have c1 := ((La.below hJ) 1 _ rfl).1
      have c2 := ((La.below hJ) 2 _ rfl).1
      go_wp2_with fail
      exact ⟨rfl, _, rfl, rfl, hJ, Below.refl _ _⟩
    · have e1 : x4 = .agg #[.int .i64 a0, .slice A1 d1.length n1, .slice A2 d2.length n2] := hd 1 (by kernel_rfl) _ rfl
      subst e1
      go_wp2_with (go_at_call 117; refine (l37Copy_any a0 _ _ d1 d2 _ (hco.below hJ) (by unfold szCompany; omega)).mono ?_; rintro e w1 ⟨x, y, S, rfl, own1, f1, q1⟩)
      exact ⟨rfl, _, rfl, ⟨_, _, rfl, OwG.of_fresh (ow := fun w S => OwCompany w S x y d1 d2) own1 f1 (Nat.le_trans hzW hJ.size)⟩, hJ.trans (q1.mono hJ.size), q1⟩
    · go_wp2_with fail
      exact ⟨rfl, _, rfl, ⟨wr.heap.size, rfl, World.ownsRow_made (size := 1) (e := 3) wr #[] 0 (Nat.le_trans hzW hJ.size) (by simp [maxLen]) rfl, fun b hb => if_neg (by simp [Value.ownBlock] at hb; omega)⟩, hJ.alloc hJ.size _, (Below.refl _ _).alloc (Nat.le_refl _) _⟩
    · go_wp2_with fail
      exact ⟨rfl, _, rfl, rfl, hJ, Below.refl _ _⟩
    · have e1 : x7 = .pointer (some ⟨w.heap.size, 3, none⟩) := hd 4 (by kernel_rfl) _ rfl
      subst e1
      have c3 := ((La.below hJ) 3 _ rfl).1
      go_wp2_with fail
      exact ⟨rfl, _, rfl, rfl, hJ, Below.refl _ _⟩
    · obtain ⟨g, e1, og⟩ : ∃ g, x6 = .slice (some ⟨g, 0, none⟩) 0 0 ∧ OwnC (w.heap.size + 1 + 1) 3 1 x6 0 [] 2 gh wr := hd 3 (by kernel_rfl) _ rfl
      have e2 : x8 = .slice A3 d3.length n3 := hd 5 (by kernel_rfl) _ rfl
      subst e1 e2
      go_wp2_with (at_builtin; refine wpList_append_empty _ rfl (.tmp 6) (.tmp 8) _ rfl (w.heap.size + 1 + 1) 3 iInt _ 1 8 Try.underlying26 hiInt hzInt0 hzInt1 hzInt2 rfl (by omega) g rfl og.1 _ d3.length (d3.flatMap cInt) rfl (hd3.below hJ) (oneCell_flat cInt_one d3) (by simp [maxLen]; omega) (by omega) (Nat.le_trans hzW hJ.size) ?_; intro v3 w3 own3 b3 at3)
      exact ⟨rfl, _, rfl, OwG.of_append own3 b3 at3 og, hJ.trans (b3.mono hJ.size), b3⟩
    · go_wp2_with fail
      exact ⟨rfl, _, rfl, rfl, hJ, Below.refl _ _⟩
    · have e1 : x10 = .pointer (some ⟨w.heap.size, 4, none⟩) := hd 7 (by kernel_rfl) _ rfl
      subst e1
      have c4 := ((La.below hJ) 4 _ rfl).1
      go_wp2_with fail
      exact ⟨rfl, _, rfl, rfl, hJ, Below.refl _ _⟩
    · skip
      obtain ⟨u1, u2, e5, q5⟩ : ∃ u1 u2, x5 = .agg #[.int .i64 a0, u1, u2] ∧ OwG (w.heap.size + 1 + 1) (fun w S => OwCompany w S u1 u2 d1 d2) 1 gh wr := hd 2 (by kernel_rfl) _ rfl
      obtain ⟨⟨B1, k1, rfl⟩, ⟨B2, k2, rfl⟩⟩ : (∃ A c, u1 = .slice A d1.length c) ∧ (∃ A c, u2 = .slice A d2.length c) := by obtain ⟨S, h, _⟩ := q5; exact h.rd.forms
      have q9 : OwG (w.heap.size + 1 + 1) (fun w S => OwL 3 cInt 1 w S x9 d3) 2 gh wr := hd 6 (by kernel_rfl) _ rfl
      obtain ⟨D9, m9, e9⟩ : ∃ A c, x9 = .slice A d3.length c := by obtain ⟨S, h, _⟩ := q9; obtain ⟨A, c, e, _⟩ := h.rd.form; exact ⟨A, c, e⟩
      have e11 : x11 = .int .i64 a4 := hd 8 (by kernel_rfl) _ rfl
      subst e5 e9 e11
      go_wp2_with fail
      exact ⟨rfl, _, rfl, ⟨_, _, _, rfl, OwG.same q5 _, OwG.same q9 _⟩, hJ, Below.refl _ _⟩
  · intro a gh wr hag hJ hd
    obtain ⟨x0, x1, x2, x3, x4, x5, x6, x7, x8, x9, x10, x11, x12, rfl⟩ := act13Theatre hag.size hag.defers
    have ag2 : x2 = .pointer (some ⟨w.heap.size + 1, 0, none⟩) := hag.kept 2 (by kernel_rfl)
    subst ag2
    obtain ⟨u1, u2, z6, e1, q0, q1⟩ : ∃ u1 u2 z6, x12 = .agg #[.int .i64 a0, u1, u2, z6, .int .i64 a4] ∧ OwG (w.heap.size + 1 + 1) (fun w S => OwCompany w S u1 u2 d1 d2) 1 gh wr ∧ OwG (w.heap.size + 1 + 1) (fun w S => OwL 3 cInt 1 w S z6 d3) 2 gh wr := hd 9 (by kernel_rfl) _ rfl
    obtain ⟨⟨B1, k1, rfl⟩, ⟨B2, k2, rfl⟩⟩ : (∃ A c, u1 = .slice A d1.length c) ∧ (∃ A c, u2 = .slice A d2.length c) := by obtain ⟨S, h, _⟩ := q0; exact h.rd.forms
    obtain ⟨Dz6, mz6, rfl⟩ : ∃ A c, z6 = .slice A d3.length c := by obtain ⟨S, h, _⟩ := q1; obtain ⟨A, c, e, _⟩ := h.rd.form; exact ⟨A, c, e⟩
    subst e1
    have Lq := Lr.below hJ
    have r0 := (Lq 0 _ rfl).1
    have p0 := (Lq 0 _ rfl).2
    have r1 := (Lq 1 _ rfl).1
    have p1 := (Lq 1 _ rfl).2
    have r2 := (Lq 2 _ rfl).1
    have p2 := (Lq 2 _ rfl).2
    have r3 := (Lq 3 _ rfl).1
    have p3 := (Lq 3 _ rfl).2
    have r4 := (Lq 4 _ rfl).1
    have p4 := (Lq 4 _ rfl).2
    clear hd La Lr Lq
    have hz := hJ.size
    have hset : Chg [w.heap.size + 1] wr (((((wr.setCell ⟨w.heap.size + 1, 0, none⟩ (.int .i64 a0)).setCell ⟨w.heap.size + 1, 1, none⟩ (.slice B1 d1.length k1)).setCell ⟨w.heap.size + 1, 2, none⟩ (.slice B2 d2.length k2)).setCell ⟨w.heap.size + 1, 3, none⟩ (.slice Dz6 d3.length mz6)).setCell ⟨w.heap.size + 1, 4, none⟩ (.int .i64 a4)) := by repeat' (first | (with_reducible exact Chg.refl _ _) | (with_reducible refine chg_set ?_ (by simp)))
    have Gq0 := Lib.hid (OwG.chg q0 hset (by simp) (fun S h hn => h.chg hset hn))
    clear q0
    have Gq1 := Lib.hid (OwG.chg q1 hset (by simp) (fun S h hn => h.chg hset hn))
    clear q1
    go_wp2_with fail
    obtain ⟨S1, S2, t1, t2, hf⟩ := OwG.two Gq0.out Gq1.out (by decide)
    refine bodyPost_ret (v := .agg #[.int .i64 a0, .slice B1 d1.length k1, .slice B2 d2.length k2, .slice Dz6 d3.length mz6, .int .i64 a4]) (by simp [results, Try.results85, go_sem, *]) rfl ⟨.slice B1 d1.length k1, .slice B2 d2.length k2, .slice Dz6 d3.length mz6, (S1 ++ S2), rfl, ⟨S1, S2, rfl, t1, t2⟩, fresh_mono hf (by omega) (Nat.le_refl _), ?_⟩
    exact Below.chg (hb.trans (hJ.mono (by omega))) hset (by omega) (by simp)
end Go.Proofs.Ytkejgogheonakaa
