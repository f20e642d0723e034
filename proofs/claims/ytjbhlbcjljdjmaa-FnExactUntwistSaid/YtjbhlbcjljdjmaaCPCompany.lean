/- Contracts: copies of Company. Written by a program (gen_copy.py). -/
import Derived.Test.YtjbhlbcjljdjmaaKP
import Derived.Test.YtjbhlbcjljdjmaaM8
import Derived.Test.YtjbhlbcjljdjmaaSCompany
namespace Go.Proofs.Ytjbhlbcjljdjmaa
open Go.RowKit
theorem cCross_one (a : RCross) : ∀ y ∈ cCross a, y.oneCell' = true := by intro y hy; simp [cCross] at hy; rcases hy with rfl | rfl <;> rfl
theorem act13Company {a : Act} (h : a.tmps.size = 13) (hd : a.defers = []) : ∃ x0 x1 x2 x3 x4 x5 x6 x7 x8 x9 x10 x11 x12 : Value, a = ⟨#[x0, x1, x2, x3, x4, x5, x6, x7, x8, x9, x10, x11, x12], []⟩ := by
  obtain ⟨⟨l⟩, d⟩ := a
  subst hd
  match l, h with
  | [x0, x1, x2, x3, x4, x5, x6, x7, x8, x9, x10, x11, x12], _ => exact ⟨x0, x1, x2, x3, x4, x5, x6, x7, x8, x9, x10, x11, x12, rfl⟩
def pcompanyCopied (b0 B : Nat) (a0 : Int) (y1 y2 : Value) (d1 : List RCross) (d2 : List RPl) (i : Nat) (v : Value) (gh : Nat → Nat) (w : World) : Prop :=
  match i with
  | 0 => v = .pointer (some ⟨b0, 0, none⟩)
  | 1 => v = .int .i64 a0
  | 2 => ∃ g, v = .slice (some ⟨g, 0, none⟩) 0 0 ∧ OwnC B 115 2 v 0 [] 1 gh w
  | 3 => v = .pointer (some ⟨b0, 1, none⟩)
  | 4 => v = y1
  | 5 => OwG B (fun w S => OwL 115 cCross 2 w S v d1) 1 gh w
  | 6 => v = .pointer (some ⟨b0, 2, none⟩)
  | 7 => v = y2
  | 8 => OwG B (fun w S => OwPls w S v d2) 2 gh w
  | 9 => ∃ z5 z8, v = .agg #[.int .i64 a0, z5, z8] ∧ OwG B (fun w S => OwL 115 cCross 2 w S z5 d1) 1 gh w ∧ OwG B (fun w S => OwPls w S z8 d2) 2 gh w
  | _ => True
set_option maxHeartbeats 4000000 in
set_option maxRecDepth 100000 in
theorem companyCopied_any (a0 : Int) (v1 v2 : Value) (d1 : List RCross) (d2 : List RPl) (w : World) (h : RdCompany w v1 v2 d1 d2) (hl : szCompany d1 d2 ≤ 1048576) :
    Calls Try.prog 73 #[.agg #[.int .i64 a0, v1, v2]] w (ToCompany a0 d1 d2 w) := by
  obtain ⟨⟨A1, n1, rfl⟩, ⟨A2, n2, rfl⟩⟩ := h.forms
  obtain ⟨hd1, hd2⟩ := h
  unfold szCompany at hl
  obtain ⟨iCross, hiCross, hzCross0, hzCross1, hzCross2⟩ := info_parts infoCross
  go_enter Try.func73, Try.ntmps73
  go_wp2_with fail
  have La : Loc ((w.alloc (.cells #[.int .i64 a0, .slice A1 d1.length n1, .slice A2 d2.length n2] 47)).alloc (.cells #[.int .i64 0, .slice none 0 0, .slice none 0 0] 47)) w.heap.size [.int .i64 a0, .slice A1 d1.length n1, .slice A2 d2.length n2] := (Loc.new w #[.int .i64 a0, .slice A1 d1.length n1, .slice A2 d2.length n2] 47).alloc _
  have Lr : Loc ((w.alloc (.cells #[.int .i64 a0, .slice A1 d1.length n1, .slice A2 d2.length n2] 47)).alloc (.cells #[.int .i64 0, .slice none 0 0, .slice none 0 0] 47)) (w.heap.size + 1) [.int .i64 0, .slice none 0 0, .slice none 0 0] := by
    have := Loc.new (w.alloc (.cells #[.int .i64 a0, .slice A1 d1.length n1, .slice A2 d2.length n2] 47)) #[.int .i64 0, .slice none 0 0, .slice none 0 0] 47
    simpa using this
  have hb : Below w.heap.size w ((w.alloc (.cells #[.int .i64 a0, .slice A1 d1.length n1, .slice A2 d2.length n2] 47)).alloc (.cells #[.int .i64 0, .slice none 0 0, .slice none 0 0] 47)) := by (repeat' (first | (with_reducible exact Below.refl _ _) | (with_reducible assumption) | (with_reducible refine Below.setCell ?_ (by first | omega | (simp; omega) | (simp; done)) _) | (with_reducible refine Below.alloc ?_ (by first | omega | (simp; omega) | (simp; done)) _) | (with_reducible refine Below.drew ?_) | (with_reducible refine below_drewN ?_ _)))
  have hz : ((w.alloc (.cells #[.int .i64 a0, .slice A1 d1.length n1, .slice A2 d2.length n2] 47)).alloc (.cells #[.int .i64 0, .slice none 0 0, .slice none 0 0] 47)).heap.size = w.heap.size + 1 + 1 := by simp
  generalize (w.alloc (.cells #[.int .i64 a0, .slice A1 d1.length n1, .slice A2 d2.length n2] 47)).alloc (.cells #[.int .i64 0, .slice none 0 0, .slice none 0 0] 47) = W at *
  have hzW : w.heap.size + 1 + 1 ≤ W.heap.size := by omega
  have hzW' : W.heap.size ≤ w.heap.size + 1 + 1 := by omega
  clear hz
  replace hd1 := hd1.below hb
  replace hd2 := hd2.below hb
  refine region_made (n := 13) 10 (by kernel_rfl) rfl (by kernel_rfl) (fun w' => Below W.heap.size W w') (fun i => if i = 2 then 1 else if i = 5 then 1 else if i = 8 then 2 else 0) (pcompanyCopied w.heap.size (w.heap.size + 1 + 1) a0 (.slice A1 d1.length n1) (.slice A2 d2.length n2) d1 d2) (Below.refl _ _).drew ?_ ?_ ?_
  · intro i v gh gh' w1 w2 hp hJ hb' hg
    match i, hp with
    | 0, hp => exact hp
    | 1, hp => exact hp
    | 2, ⟨g, hv, ho⟩ => exact ⟨g, hv, OwnC.keep ho hb' hg⟩
    | 3, hp => exact hp
    | 4, hp => exact hp
    | 5, hp =>
      have hp' : OwG (w.heap.size + 1 + 1) (fun w S => OwL 115 cCross 2 w S v d1) 1 gh w1 := hp
      exact OwG.keep hp' (fun _ h => h.below hb') hb' hg
    | 6, hp => exact hp
    | 7, hp => exact hp
    | 8, hp =>
      have hp' : OwG (w.heap.size + 1 + 1) (fun w S => OwPls w S v d2) 2 gh w1 := hp
      exact OwG.keep hp' (fun _ h => h.below hb') hb' hg
    | 9, ⟨z5, z8, hv, o0, o1⟩ => exact ⟨z5, z8, hv, OwG.keep o0 (fun _ h => h.below hb') hb' hg, OwG.keep o1 (fun _ h => h.below hb') hb' hg⟩
    | _ + 10, _ => trivial
  · refine ⟨?_, ?_, ?_, ?_, ?_, ?_, ?_, ?_, ?_, ?_, trivial⟩
    all_goals
      intro a gh wr hag hJ hd
      obtain ⟨x0, x1, x2, x3, x4, x5, x6, x7, x8, x9, x10, x11, x12, rfl⟩ := act13Company hag.size hag.defers
      have ag1 : x1 = .pointer (some ⟨w.heap.size, 0, none⟩) := hag.kept 1 (by kernel_rfl)
      clear hag
      subst ag1
    · go_wp2_with fail
      exact ⟨rfl, _, rfl, rfl, hJ, Below.refl _ _⟩
    · have e1 : x3 = .pointer (some ⟨w.heap.size, 0, none⟩) := hd 0 (by kernel_rfl) _ rfl
      subst e1
      have c0 := ((La.below hJ) 0 _ rfl).1
      go_wp2_with fail
      exact ⟨rfl, _, rfl, rfl, hJ, Below.refl _ _⟩
    · go_wp2_with fail
      exact ⟨rfl, _, rfl, ⟨wr.heap.size, rfl, World.ownsRow_made (size := 2) (e := 115) wr #[] 0 (Nat.le_trans hzW hJ.size) (by simp [maxLen]) rfl, fun b hb => if_neg (by simp [Value.ownBlock] at hb; omega)⟩, hJ.alloc hJ.size _, (Below.refl _ _).alloc (Nat.le_refl _) _⟩
    · go_wp2_with fail
      exact ⟨rfl, _, rfl, rfl, hJ, Below.refl _ _⟩
    · have e1 : x6 = .pointer (some ⟨w.heap.size, 1, none⟩) := hd 3 (by kernel_rfl) _ rfl
      subst e1
      have c1 := ((La.below hJ) 1 _ rfl).1
      go_wp2_with fail
      exact ⟨rfl, _, rfl, rfl, hJ, Below.refl _ _⟩
    · obtain ⟨g, e1, og⟩ : ∃ g, x5 = .slice (some ⟨g, 0, none⟩) 0 0 ∧ OwnC (w.heap.size + 1 + 1) 115 2 x5 0 [] 1 gh wr := hd 2 (by kernel_rfl) _ rfl
      have e2 : x7 = .slice A1 d1.length n1 := hd 4 (by kernel_rfl) _ rfl
      subst e1 e2
      go_wp2_with (at_builtin; refine wpList_append_empty _ rfl (.tmp 5) (.tmp 7) _ rfl (w.heap.size + 1 + 1) 115 iCross _ 2 16 Try.underlying44 hiCross hzCross0 hzCross1 hzCross2 rfl (by omega) g rfl og.1 _ d1.length (d1.flatMap cCross) rfl (hd1.below hJ) (oneCell_flat cCross_one d1) (by simp [maxLen]; omega) (by omega) (Nat.le_trans hzW hJ.size) ?_; intro v3 w3 own3 b3 at3)
      exact ⟨rfl, _, rfl, OwG.of_append own3 b3 at3 og, hJ.trans (b3.mono hJ.size), b3⟩
    · go_wp2_with fail
      exact ⟨rfl, _, rfl, rfl, hJ, Below.refl _ _⟩
    · have e1 : x9 = .pointer (some ⟨w.heap.size, 2, none⟩) := hd 6 (by kernel_rfl) _ rfl
      subst e1
      have c2 := ((La.below hJ) 2 _ rfl).1
      go_wp2_with fail
      exact ⟨rfl, _, rfl, rfl, hJ, Below.refl _ _⟩
    · have e1 : x10 = .slice A2 d2.length n2 := hd 7 (by kernel_rfl) _ rfl
      subst e1
      go_wp2_with (go_at_call 124; refine (copyPlayers_any _ d2 _ (hd2.below hJ) (by omega)).mono ?_; rintro e w1 ⟨x, S, rfl, own1, f1, q1⟩)
      exact ⟨rfl, _, rfl, OwG.of_fresh (ow := (fun w S => OwPls w S x d2)) own1 f1 (Nat.le_trans hzW hJ.size), hJ.trans (q1.mono hJ.size), q1⟩
    · skip
      have e4 : x4 = .int .i64 a0 := hd 1 (by kernel_rfl) _ rfl
      have q8 : OwG (w.heap.size + 1 + 1) (fun w S => OwL 115 cCross 2 w S x8 d1) 1 gh wr := hd 5 (by kernel_rfl) _ rfl
      obtain ⟨D8, m8, e8⟩ : ∃ A c, x8 = .slice A d1.length c := by obtain ⟨S, h, _⟩ := q8; obtain ⟨A, c, e, _⟩ := h.rd.form; exact ⟨A, c, e⟩
      have q11 : OwG (w.heap.size + 1 + 1) (fun w S => OwPls w S x11 d2) 2 gh wr := hd 8 (by kernel_rfl) _ rfl
      obtain ⟨D11, m11, e11⟩ : ∃ A c, x11 = .slice A d2.length c := by obtain ⟨S, h, _⟩ := q11; obtain ⟨A, c, e, _⟩ := h.rd.form; exact ⟨A, c, e⟩
      subst e4 e8 e11
      go_wp2_with fail
      exact ⟨rfl, _, rfl, ⟨_, _, rfl, OwG.same q8 _, OwG.same q11 _⟩, hJ, Below.refl _ _⟩
  · intro a gh wr hag hJ hd
    obtain ⟨x0, x1, x2, x3, x4, x5, x6, x7, x8, x9, x10, x11, x12, rfl⟩ := act13Company hag.size hag.defers
    have ag2 : x2 = .pointer (some ⟨w.heap.size + 1, 0, none⟩) := hag.kept 2 (by kernel_rfl)
    subst ag2
    obtain ⟨z5, z8, e1, q0, q1⟩ : ∃ z5 z8, x12 = .agg #[.int .i64 a0, z5, z8] ∧ OwG (w.heap.size + 1 + 1) (fun w S => OwL 115 cCross 2 w S z5 d1) 1 gh wr ∧ OwG (w.heap.size + 1 + 1) (fun w S => OwPls w S z8 d2) 2 gh wr := hd 9 (by kernel_rfl) _ rfl
    obtain ⟨Dz5, mz5, rfl⟩ : ∃ A c, z5 = .slice A d1.length c := by obtain ⟨S, h, _⟩ := q0; obtain ⟨A, c, e, _⟩ := h.rd.form; exact ⟨A, c, e⟩
    obtain ⟨Dz8, mz8, rfl⟩ : ∃ A c, z8 = .slice A d2.length c := by obtain ⟨S, h, _⟩ := q1; obtain ⟨A, c, e, _⟩ := h.rd.form; exact ⟨A, c, e⟩
    subst e1
    have Lq := Lr.below hJ
    have r0 := (Lq 0 _ rfl).1
    have p0 := (Lq 0 _ rfl).2
    have r1 := (Lq 1 _ rfl).1
    have p1 := (Lq 1 _ rfl).2
    have r2 := (Lq 2 _ rfl).1
    have p2 := (Lq 2 _ rfl).2
    clear hd La Lr Lq
    have hz := hJ.size
    have hset : Chg [w.heap.size + 1] wr (((wr.setCell ⟨w.heap.size + 1, 0, none⟩ (.int .i64 a0)).setCell ⟨w.heap.size + 1, 1, none⟩ (.slice Dz5 d1.length mz5)).setCell ⟨w.heap.size + 1, 2, none⟩ (.slice Dz8 d2.length mz8)) := by repeat' (first | (with_reducible exact Chg.refl _ _) | (with_reducible refine chg_set ?_ (by simp)))
    have Gq0 := Lib.hid (OwG.chg q0 hset (by simp) (fun S h hn => h.chg hset hn))
    clear q0
    have Gq1 := Lib.hid (OwG.chg q1 hset (by simp) (fun S h hn => h.chg hset hn))
    clear q1
    go_wp2_with fail
    obtain ⟨S1, S2, t1, t2, hf⟩ := OwG.two Gq0.out Gq1.out (by decide)
    refine bodyPost_ret (v := .agg #[.int .i64 a0, .slice Dz5 d1.length mz5, .slice Dz8 d2.length mz8]) (by simp [results, Try.results73, go_sem, *]) rfl ⟨.slice Dz5 d1.length mz5, .slice Dz8 d2.length mz8, (S1 ++ S2), rfl, ⟨S1, S2, rfl, t1, t2⟩, fresh_mono hf (by omega) (Nat.le_refl _), ?_⟩
    exact Below.chg (hb.trans (hJ.mono (by omega))) hset (by omega) (by simp)
def pl37Copy (b0 B : Nat) (a0 : Int) (y1 y2 : Value) (d1 : List RCross) (d2 : List RPl) (i : Nat) (v : Value) (gh : Nat → Nat) (w : World) : Prop :=
  match i with
  | 0 => v = .pointer (some ⟨b0, 0, none⟩)
  | 1 => v = .int .i64 a0
  | 2 => ∃ g, v = .slice (some ⟨g, 0, none⟩) 0 0 ∧ OwnC B 115 2 v 0 [] 1 gh w
  | 3 => v = .pointer (some ⟨b0, 1, none⟩)
  | 4 => v = y1
  | 5 => OwG B (fun w S => OwL 115 cCross 2 w S v d1) 1 gh w
  | 6 => v = .pointer (some ⟨b0, 2, none⟩)
  | 7 => v = y2
  | 8 => OwG B (fun w S => OwPls w S v d2) 2 gh w
  | 9 => ∃ z5 z8, v = .agg #[.int .i64 a0, z5, z8] ∧ OwG B (fun w S => OwL 115 cCross 2 w S z5 d1) 1 gh w ∧ OwG B (fun w S => OwPls w S z8 d2) 2 gh w
  | _ => True
set_option maxHeartbeats 4000000 in
set_option maxRecDepth 100000 in
theorem l37Copy_any (a0 : Int) (v1 v2 : Value) (d1 : List RCross) (d2 : List RPl) (w : World) (h : RdCompany w v1 v2 d1 d2) (hl : szCompany d1 d2 ≤ 1048576) :
    Calls Try.prog 70 #[.agg #[.int .i64 a0, v1, v2]] w (ToCompany a0 d1 d2 w) := by
  obtain ⟨⟨A1, n1, rfl⟩, ⟨A2, n2, rfl⟩⟩ := h.forms
  obtain ⟨hd1, hd2⟩ := h
  unfold szCompany at hl
  obtain ⟨iCross, hiCross, hzCross0, hzCross1, hzCross2⟩ := info_parts infoCross
  go_enter Try.func70, Try.ntmps70
  go_wp2_with fail
  have La : Loc ((w.alloc (.cells #[.int .i64 a0, .slice A1 d1.length n1, .slice A2 d2.length n2] 47)).alloc (.cells #[.int .i64 0, .slice none 0 0, .slice none 0 0] 47)) w.heap.size [.int .i64 a0, .slice A1 d1.length n1, .slice A2 d2.length n2] := (Loc.new w #[.int .i64 a0, .slice A1 d1.length n1, .slice A2 d2.length n2] 47).alloc _
  have Lr : Loc ((w.alloc (.cells #[.int .i64 a0, .slice A1 d1.length n1, .slice A2 d2.length n2] 47)).alloc (.cells #[.int .i64 0, .slice none 0 0, .slice none 0 0] 47)) (w.heap.size + 1) [.int .i64 0, .slice none 0 0, .slice none 0 0] := by
    have := Loc.new (w.alloc (.cells #[.int .i64 a0, .slice A1 d1.length n1, .slice A2 d2.length n2] 47)) #[.int .i64 0, .slice none 0 0, .slice none 0 0] 47
    simpa using this
  have hb : Below w.heap.size w ((w.alloc (.cells #[.int .i64 a0, .slice A1 d1.length n1, .slice A2 d2.length n2] 47)).alloc (.cells #[.int .i64 0, .slice none 0 0, .slice none 0 0] 47)) := by (repeat' (first | (with_reducible exact Below.refl _ _) | (with_reducible assumption) | (with_reducible refine Below.setCell ?_ (by first | omega | (simp; omega) | (simp; done)) _) | (with_reducible refine Below.alloc ?_ (by first | omega | (simp; omega) | (simp; done)) _) | (with_reducible refine Below.drew ?_) | (with_reducible refine below_drewN ?_ _)))
  have hz : ((w.alloc (.cells #[.int .i64 a0, .slice A1 d1.length n1, .slice A2 d2.length n2] 47)).alloc (.cells #[.int .i64 0, .slice none 0 0, .slice none 0 0] 47)).heap.size = w.heap.size + 1 + 1 := by simp
  generalize (w.alloc (.cells #[.int .i64 a0, .slice A1 d1.length n1, .slice A2 d2.length n2] 47)).alloc (.cells #[.int .i64 0, .slice none 0 0, .slice none 0 0] 47) = W at *
  have hzW : w.heap.size + 1 + 1 ≤ W.heap.size := by omega
  have hzW' : W.heap.size ≤ w.heap.size + 1 + 1 := by omega
  clear hz
  replace hd1 := hd1.below hb
  replace hd2 := hd2.below hb
  refine region_made (n := 13) 10 (by kernel_rfl) rfl (by kernel_rfl) (fun w' => Below W.heap.size W w') (fun i => if i = 2 then 1 else if i = 5 then 1 else if i = 8 then 2 else 0) (pl37Copy w.heap.size (w.heap.size + 1 + 1) a0 (.slice A1 d1.length n1) (.slice A2 d2.length n2) d1 d2) (Below.refl _ _).drew ?_ ?_ ?_
  · intro i v gh gh' w1 w2 hp hJ hb' hg
    match i, hp with
    | 0, hp => exact hp
    | 1, hp => exact hp
    | 2, ⟨g, hv, ho⟩ => exact ⟨g, hv, OwnC.keep ho hb' hg⟩
    | 3, hp => exact hp
    | 4, hp => exact hp
    | 5, hp =>
      have hp' : OwG (w.heap.size + 1 + 1) (fun w S => OwL 115 cCross 2 w S v d1) 1 gh w1 := hp
      exact OwG.keep hp' (fun _ h => h.below hb') hb' hg
    | 6, hp => exact hp
    | 7, hp => exact hp
    | 8, hp =>
      have hp' : OwG (w.heap.size + 1 + 1) (fun w S => OwPls w S v d2) 2 gh w1 := hp
      exact OwG.keep hp' (fun _ h => h.below hb') hb' hg
    | 9, ⟨z5, z8, hv, o0, o1⟩ => exact ⟨z5, z8, hv, OwG.keep o0 (fun _ h => h.below hb') hb' hg, OwG.keep o1 (fun _ h => h.below hb') hb' hg⟩
    | _ + 10, _ => trivial
  · refine ⟨?_, ?_, ?_, ?_, ?_, ?_, ?_, ?_, ?_, ?_, trivial⟩
    all_goals
      intro a gh wr hag hJ hd
      obtain ⟨x0, x1, x2, x3, x4, x5, x6, x7, x8, x9, x10, x11, x12, rfl⟩ := act13Company hag.size hag.defers
      have ag1 : x1 = .pointer (some ⟨w.heap.size, 0, none⟩) := hag.kept 1 (by kernel_rfl)
      clear hag
      subst ag1
    · go_wp2_with fail
      exact ⟨rfl, _, rfl, rfl, hJ, Below.refl _ _⟩
    · have e1 : x3 = .pointer (some ⟨w.heap.size, 0, none⟩) := hd 0 (by kernel_rfl) _ rfl
      subst e1
      have c0 := ((La.below hJ) 0 _ rfl).1
      go_wp2_with fail
      exact ⟨rfl, _, rfl, rfl, hJ, Below.refl _ _⟩
    · go_wp2_with fail
      exact ⟨rfl, _, rfl, ⟨wr.heap.size, rfl, World.ownsRow_made (size := 2) (e := 115) wr #[] 0 (Nat.le_trans hzW hJ.size) (by simp [maxLen]) rfl, fun b hb => if_neg (by simp [Value.ownBlock] at hb; omega)⟩, hJ.alloc hJ.size _, (Below.refl _ _).alloc (Nat.le_refl _) _⟩
    · go_wp2_with fail
      exact ⟨rfl, _, rfl, rfl, hJ, Below.refl _ _⟩
    · have e1 : x6 = .pointer (some ⟨w.heap.size, 1, none⟩) := hd 3 (by kernel_rfl) _ rfl
      subst e1
      have c1 := ((La.below hJ) 1 _ rfl).1
      go_wp2_with fail
      exact ⟨rfl, _, rfl, rfl, hJ, Below.refl _ _⟩
    · obtain ⟨g, e1, og⟩ : ∃ g, x5 = .slice (some ⟨g, 0, none⟩) 0 0 ∧ OwnC (w.heap.size + 1 + 1) 115 2 x5 0 [] 1 gh wr := hd 2 (by kernel_rfl) _ rfl
      have e2 : x7 = .slice A1 d1.length n1 := hd 4 (by kernel_rfl) _ rfl
      subst e1 e2
      go_wp2_with (at_builtin; refine wpList_append_empty _ rfl (.tmp 5) (.tmp 7) _ rfl (w.heap.size + 1 + 1) 115 iCross _ 2 16 Try.underlying44 hiCross hzCross0 hzCross1 hzCross2 rfl (by omega) g rfl og.1 _ d1.length (d1.flatMap cCross) rfl (hd1.below hJ) (oneCell_flat cCross_one d1) (by simp [maxLen]; omega) (by omega) (Nat.le_trans hzW hJ.size) ?_; intro v3 w3 own3 b3 at3)
      exact ⟨rfl, _, rfl, OwG.of_append own3 b3 at3 og, hJ.trans (b3.mono hJ.size), b3⟩
    · go_wp2_with fail
      exact ⟨rfl, _, rfl, rfl, hJ, Below.refl _ _⟩
    · have e1 : x9 = .pointer (some ⟨w.heap.size, 2, none⟩) := hd 6 (by kernel_rfl) _ rfl
      subst e1
      have c2 := ((La.below hJ) 2 _ rfl).1
      go_wp2_with fail
      exact ⟨rfl, _, rfl, rfl, hJ, Below.refl _ _⟩
    · have e1 : x10 = .slice A2 d2.length n2 := hd 7 (by kernel_rfl) _ rfl
      subst e1
      go_wp2_with (go_at_call 121; refine (l17Copy_any _ d2 _ (hd2.below hJ) (by omega)).mono ?_; rintro e w1 ⟨x, S, rfl, own1, f1, q1⟩)
      exact ⟨rfl, _, rfl, OwG.of_fresh (ow := (fun w S => OwPls w S x d2)) own1 f1 (Nat.le_trans hzW hJ.size), hJ.trans (q1.mono hJ.size), q1⟩
    · skip
      have e4 : x4 = .int .i64 a0 := hd 1 (by kernel_rfl) _ rfl
      have q8 : OwG (w.heap.size + 1 + 1) (fun w S => OwL 115 cCross 2 w S x8 d1) 1 gh wr := hd 5 (by kernel_rfl) _ rfl
      obtain ⟨D8, m8, e8⟩ : ∃ A c, x8 = .slice A d1.length c := by obtain ⟨S, h, _⟩ := q8; obtain ⟨A, c, e, _⟩ := h.rd.form; exact ⟨A, c, e⟩
      have q11 : OwG (w.heap.size + 1 + 1) (fun w S => OwPls w S x11 d2) 2 gh wr := hd 8 (by kernel_rfl) _ rfl
      obtain ⟨D11, m11, e11⟩ : ∃ A c, x11 = .slice A d2.length c := by obtain ⟨S, h, _⟩ := q11; obtain ⟨A, c, e, _⟩ := h.rd.form; exact ⟨A, c, e⟩
      subst e4 e8 e11
      go_wp2_with fail
      exact ⟨rfl, _, rfl, ⟨_, _, rfl, OwG.same q8 _, OwG.same q11 _⟩, hJ, Below.refl _ _⟩
  · intro a gh wr hag hJ hd
    obtain ⟨x0, x1, x2, x3, x4, x5, x6, x7, x8, x9, x10, x11, x12, rfl⟩ := act13Company hag.size hag.defers
    have ag2 : x2 = .pointer (some ⟨w.heap.size + 1, 0, none⟩) := hag.kept 2 (by kernel_rfl)
    subst ag2
    obtain ⟨z5, z8, e1, q0, q1⟩ : ∃ z5 z8, x12 = .agg #[.int .i64 a0, z5, z8] ∧ OwG (w.heap.size + 1 + 1) (fun w S => OwL 115 cCross 2 w S z5 d1) 1 gh wr ∧ OwG (w.heap.size + 1 + 1) (fun w S => OwPls w S z8 d2) 2 gh wr := hd 9 (by kernel_rfl) _ rfl
    obtain ⟨Dz5, mz5, rfl⟩ : ∃ A c, z5 = .slice A d1.length c := by obtain ⟨S, h, _⟩ := q0; obtain ⟨A, c, e, _⟩ := h.rd.form; exact ⟨A, c, e⟩
    obtain ⟨Dz8, mz8, rfl⟩ : ∃ A c, z8 = .slice A d2.length c := by obtain ⟨S, h, _⟩ := q1; obtain ⟨A, c, e, _⟩ := h.rd.form; exact ⟨A, c, e⟩
    subst e1
    have Lq := Lr.below hJ
    have r0 := (Lq 0 _ rfl).1
    have p0 := (Lq 0 _ rfl).2
    have r1 := (Lq 1 _ rfl).1
    have p1 := (Lq 1 _ rfl).2
    have r2 := (Lq 2 _ rfl).1
    have p2 := (Lq 2 _ rfl).2
    clear hd La Lr Lq
    have hz := hJ.size
    have hset : Chg [w.heap.size + 1] wr (((wr.setCell ⟨w.heap.size + 1, 0, none⟩ (.int .i64 a0)).setCell ⟨w.heap.size + 1, 1, none⟩ (.slice Dz5 d1.length mz5)).setCell ⟨w.heap.size + 1, 2, none⟩ (.slice Dz8 d2.length mz8)) := by repeat' (first | (with_reducible exact Chg.refl _ _) | (with_reducible refine chg_set ?_ (by simp)))
    have Gq0 := Lib.hid (OwG.chg q0 hset (by simp) (fun S h hn => h.chg hset hn))
    clear q0
    have Gq1 := Lib.hid (OwG.chg q1 hset (by simp) (fun S h hn => h.chg hset hn))
    clear q1
    go_wp2_with fail
    obtain ⟨S1, S2, t1, t2, hf⟩ := OwG.two Gq0.out Gq1.out (by decide)
    refine bodyPost_ret (v := .agg #[.int .i64 a0, .slice Dz5 d1.length mz5, .slice Dz8 d2.length mz8]) (by simp [results, Try.results70, go_sem, *]) rfl ⟨.slice Dz5 d1.length mz5, .slice Dz8 d2.length mz8, (S1 ++ S2), rfl, ⟨S1, S2, rfl, t1, t2⟩, fresh_mono hf (by omega) (Nat.le_refl _), ?_⟩
    exact Below.chg (hb.trans (hJ.mono (by omega))) hset (by omega) (by simp)
end Go.Proofs.Ytjbhlbcjljdjmaa
