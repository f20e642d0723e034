/- Several texts in one: Contracts: copies of Body. Written by a program (gen_copy.py). Contracts: copies of Control. Written by a program (gen_copy.py). -/
import Derived.Test.YtomghkfkbpkbdaaBdM7x2
import Derived.Test.YtomghkfkbpkbdaaBdI7x11
import Derived.Test.YtomghkfkbpkbdaaKC
namespace Go.Proofs.Ytomghkfkbpkbdaa
open Go.RowKit
theorem cLimb_one (a : RLimb) : ∀ y ∈ cLimb a, y.oneCell' = true := by intro y hy; simp [cLimb] at hy; rcases hy with rfl | rfl | rfl <;> rfl
theorem act10Body {a : Act} (h : a.tmps.size = 10) (hd : a.defers = []) : ∃ x0 x1 x2 x3 x4 x5 x6 x7 x8 x9 : Value, a = ⟨#[x0, x1, x2, x3, x4, x5, x6, x7, x8, x9], []⟩ := by
  obtain ⟨⟨l⟩, d⟩ := a
  subst hd
  match l, h with
  | [x0, x1, x2, x3, x4, x5, x6, x7, x8, x9], _ => exact ⟨x0, x1, x2, x3, x4, x5, x6, x7, x8, x9, rfl⟩
def pbodyCopied (b0 B : Nat) (a0 : Int) (y1 : Value) (d1 : List RLimb) (i : Nat) (v : Value) (gh : Nat → Nat) (w : World) : Prop :=
  match i with
  | 0 => v = .pointer (some ⟨b0, 0, none⟩)
  | 1 => v = .int .i64 a0
  | 2 => ∃ g, v = .slice (some ⟨g, 0, none⟩) 0 0 ∧ OwnC B 62 3 v 0 [] 1 gh w
  | 3 => v = .pointer (some ⟨b0, 1, none⟩)
  | 4 => v = y1
  | 5 => OwG B (fun w S => OwL 62 cLimb 3 w S v d1) 1 gh w
  | 6 => ∃ z5, v = .agg #[.int .i64 a0, z5] ∧ OwG B (fun w S => OwL 62 cLimb 3 w S z5 d1) 1 gh w
  | _ => True
set_option maxHeartbeats 4000000 in
set_option maxRecDepth 100000 in
theorem bodyCopied_any (a0 : Int) (v1 : Value) (d1 : List RLimb) (w : World) (h : RdBody w v1 d1) (hl : szBody d1 ≤ 1048576) :
    Calls Try.prog 32 #[.agg #[.int .i64 a0, v1]] w (ToBody a0 d1 w) := by
  obtain ⟨A1, n1, rfl⟩ := h.forms
  have hd1 := h
  clear h
  unfold RdBody at hd1
  unfold szBody at hl
  obtain ⟨iLimb, hiLimb, hzLimb0, hzLimb1, hzLimb2⟩ := info_parts infoLimb
  go_enter Try.func32, Try.ntmps32
  go_wp2_with fail
  have La : Loc ((w.alloc (.cells #[.int .i64 a0, .slice A1 d1.length n1] 26)).alloc (.cells #[.int .i64 0, .slice none 0 0] 26)) w.heap.size [.int .i64 a0, .slice A1 d1.length n1] := (Loc.new w #[.int .i64 a0, .slice A1 d1.length n1] 26).alloc _
  have Lr : Loc ((w.alloc (.cells #[.int .i64 a0, .slice A1 d1.length n1] 26)).alloc (.cells #[.int .i64 0, .slice none 0 0] 26)) (w.heap.size + 1) [.int .i64 0, .slice none 0 0] := by
    have := Loc.new (w.alloc (.cells #[.int .i64 a0, .slice A1 d1.length n1] 26)) #[.int .i64 0, .slice none 0 0] 26
    simpa using this
  have hb : Below w.heap.size w ((w.alloc (.cells #[.int .i64 a0, .slice A1 d1.length n1] 26)).alloc (.cells #[.int .i64 0, .slice none 0 0] 26)) := by (repeat' (first | (with_reducible exact Below.refl _ _) | (with_reducible assumption) | (with_reducible refine Below.setCell ?_ (by first | omega | (simp; omega) | (simp; done)) _) | (with_reducible refine Below.alloc ?_ (by first | omega | (simp; omega) | (simp; done)) _) | (with_reducible refine Below.drew ?_) | (with_reducible refine below_drewN ?_ _)))
  have hz : ((w.alloc (.cells #[.int .i64 a0, .slice A1 d1.length n1] 26)).alloc (.cells #[.int .i64 0, .slice none 0 0] 26)).heap.size = w.heap.size + 1 + 1 := by simp
  generalize (w.alloc (.cells #[.int .i64 a0, .slice A1 d1.length n1] 26)).alloc (.cells #[.int .i64 0, .slice none 0 0] 26) = W at *
  have hzW : w.heap.size + 1 + 1 ≤ W.heap.size := by omega
  have hzW' : W.heap.size ≤ w.heap.size + 1 + 1 := by omega
  clear hz
  replace hd1 := hd1.below hb
  refine region_made (n := 10) 7 (by kernel_rfl) rfl (by kernel_rfl) (fun w' => Below W.heap.size W w') (fun i => if i = 2 then 1 else if i = 5 then 1 else 0) (pbodyCopied w.heap.size (w.heap.size + 1 + 1) a0 (.slice A1 d1.length n1) d1) (Below.refl _ _).drew ?_ ?_ ?_
  · intro i v gh gh' w1 w2 hp hJ hb' hg
    match i, hp with
    | 0, hp => exact hp
    | 1, hp => exact hp
    | 2, ⟨g, hv, ho⟩ => exact ⟨g, hv, OwnC.keep ho hb' hg⟩
    | 3, hp => exact hp
    | 4, hp => exact hp
    | 5, hp =>
      have hp' : OwG (w.heap.size + 1 + 1) (fun w S => OwL 62 cLimb 3 w S v d1) 1 gh w1 := hp
      exact OwG.keep hp' (fun _ h => h.below hb') hb' hg
    | 6, ⟨z5, hv, o0⟩ => exact ⟨z5, hv, OwG.keep o0 (fun _ h => h.below hb') hb' hg⟩
    | _ + 7, _ => trivial
  · refine ⟨?_, ?_, ?_, ?_, ?_, ?_, ?_, trivial⟩
    all_goals
      intro a gh wr hag hJ hd
      obtain ⟨x0, x1, x2, x3, x4, x5, x6, x7, x8, x9, rfl⟩ := act10Body hag.size hag.defers
      have ag1 : x1 = .pointer (some ⟨w.heap.size, 0, none⟩) := hag.kept 1 (by kernel_rfl)
      clear hag
      subst ag1
    · go_wp2_with fail
      exact ⟨rfl, _, rfl, rfl, hJ, Below.refl _ _⟩
    · have e1 : x3 = .pointer (some ⟨w.heap.size, 0, none⟩) := hd 0 (by kernel_rfl) _ rfl
      subst e1
      have c0 := ((La.below hJ) 0 _ rfl).1
      go_wp2_with fail
      exact ⟨rfl, _, rfl, rfl, hJ, Below.refl _ _⟩
    · go_wp2_with fail
      exact ⟨rfl, _, rfl, ⟨wr.heap.size, rfl, World.ownsRow_made (size := 3) (e := 62) wr #[] 0 (Nat.le_trans hzW hJ.size) (by simp [maxLen]) rfl, fun b hb => if_neg (by simp [Value.ownBlock] at hb; omega)⟩, hJ.alloc hJ.size _, (Below.refl _ _).alloc (Nat.le_refl _) _⟩
    · go_wp2_with fail
      exact ⟨rfl, _, rfl, rfl, hJ, Below.refl _ _⟩
    · have e1 : x6 = .pointer (some ⟨w.heap.size, 1, none⟩) := hd 3 (by kernel_rfl) _ rfl
      subst e1
      have c1 := ((La.below hJ) 1 _ rfl).1
      go_wp2_with fail
      exact ⟨rfl, _, rfl, rfl, hJ, Below.refl _ _⟩
    · obtain ⟨g, e1, og⟩ : ∃ g, x5 = .slice (some ⟨g, 0, none⟩) 0 0 ∧ OwnC (w.heap.size + 1 + 1) 62 3 x5 0 [] 1 gh wr := hd 2 (by kernel_rfl) _ rfl
      have e2 : x7 = .slice A1 d1.length n1 := hd 4 (by kernel_rfl) _ rfl
      subst e1 e2
      go_wp2_with (at_builtin; refine wpList_append_empty _ rfl (.tmp 5) (.tmp 7) _ rfl (w.heap.size + 1 + 1) 62 iLimb _ 3 24 Try.underlying24 hiLimb hzLimb0 hzLimb1 hzLimb2 rfl (by omega) g rfl og.1 _ d1.length (d1.flatMap cLimb) rfl (hd1.below hJ) (oneCell_flat cLimb_one d1) (by simp [maxLen]; omega) (by omega) (Nat.le_trans hzW hJ.size) ?_; intro v3 w3 own3 b3 at3)
      exact ⟨rfl, _, rfl, OwG.of_append own3 b3 at3 og, hJ.trans (b3.mono hJ.size), b3⟩
    · skip
      have e4 : x4 = .int .i64 a0 := hd 1 (by kernel_rfl) _ rfl
      have q8 : OwG (w.heap.size + 1 + 1) (fun w S => OwL 62 cLimb 3 w S x8 d1) 1 gh wr := hd 5 (by kernel_rfl) _ rfl
      obtain ⟨D8, m8, e8⟩ : ∃ A c, x8 = .slice A d1.length c := by obtain ⟨S, h, _⟩ := q8; obtain ⟨A, c, e, _⟩ := h.rd.form; exact ⟨A, c, e⟩
      subst e4 e8
      go_wp2_with fail
      exact ⟨rfl, _, rfl, ⟨_, rfl, OwG.same q8 _⟩, hJ, Below.refl _ _⟩
  · intro a gh wr hag hJ hd
    obtain ⟨x0, x1, x2, x3, x4, x5, x6, x7, x8, x9, rfl⟩ := act10Body hag.size hag.defers
    have ag2 : x2 = .pointer (some ⟨w.heap.size + 1, 0, none⟩) := hag.kept 2 (by kernel_rfl)
    subst ag2
    obtain ⟨z5, e1, q0⟩ : ∃ z5, x9 = .agg #[.int .i64 a0, z5] ∧ OwG (w.heap.size + 1 + 1) (fun w S => OwL 62 cLimb 3 w S z5 d1) 1 gh wr := hd 6 (by kernel_rfl) _ rfl
    obtain ⟨Dz5, mz5, rfl⟩ : ∃ A c, z5 = .slice A d1.length c := by obtain ⟨S, h, _⟩ := q0; obtain ⟨A, c, e, _⟩ := h.rd.form; exact ⟨A, c, e⟩
    subst e1
    have Lq := Lr.below hJ
    have r0 := (Lq 0 _ rfl).1
    have p0 := (Lq 0 _ rfl).2
    have r1 := (Lq 1 _ rfl).1
    have p1 := (Lq 1 _ rfl).2
    clear hd La Lr Lq
    have hz := hJ.size
    have hset : Chg [w.heap.size + 1] wr ((wr.setCell ⟨w.heap.size + 1, 0, none⟩ (.int .i64 a0)).setCell ⟨w.heap.size + 1, 1, none⟩ (.slice Dz5 d1.length mz5)) := by repeat' (first | (with_reducible exact Chg.refl _ _) | (with_reducible refine chg_set ?_ (by simp)))
    have Gq0 := Lib.hid (OwG.chg q0 hset (by simp) (fun S h hn => h.chg hset hn))
    clear q0
    go_wp2_with fail
    obtain ⟨S1, t1, hf⟩ := OwG.one Gq0.out
    refine bodyPost_ret (v := .agg #[.int .i64 a0, .slice Dz5 d1.length mz5]) (by simp [results, Try.results32, go_sem, *]) rfl ⟨.slice Dz5 d1.length mz5, S1, rfl, ⟨S1, rfl, t1⟩, fresh_mono hf (by omega) (Nat.le_refl _), ?_⟩
    exact Below.chg (hb.trans (hJ.mono (by omega))) hset (by omega) (by simp)
def pl02Copy (b0 B : Nat) (a0 : Int) (y1 : Value) (d1 : List RLimb) (i : Nat) (v : Value) (gh : Nat → Nat) (w : World) : Prop :=
  match i with
  | 0 => v = .pointer (some ⟨b0, 0, none⟩)
  | 1 => v = .int .i64 a0
  | 2 => ∃ g, v = .slice (some ⟨g, 0, none⟩) 0 0 ∧ OwnC B 62 3 v 0 [] 1 gh w
  | 3 => v = .pointer (some ⟨b0, 1, none⟩)
  | 4 => v = y1
  | 5 => OwG B (fun w S => OwL 62 cLimb 3 w S v d1) 1 gh w
  | 6 => ∃ z5, v = .agg #[.int .i64 a0, z5] ∧ OwG B (fun w S => OwL 62 cLimb 3 w S z5 d1) 1 gh w
  | _ => True
set_option maxHeartbeats 4000000 in
set_option maxRecDepth 100000 in
theorem l02Copy_any (a0 : Int) (v1 : Value) (d1 : List RLimb) (w : World) (h : RdBody w v1 d1) (hl : szBody d1 ≤ 1048576) :
    Calls Try.prog 79 #[.agg #[.int .i64 a0, v1]] w (ToBody a0 d1 w) := by
  obtain ⟨A1, n1, rfl⟩ := h.forms
  have hd1 := h
  clear h
  unfold RdBody at hd1
  unfold szBody at hl
  obtain ⟨iLimb, hiLimb, hzLimb0, hzLimb1, hzLimb2⟩ := info_parts infoLimb
  go_enter Try.func79, Try.ntmps79
  go_wp2_with fail
  have La : Loc ((w.alloc (.cells #[.int .i64 a0, .slice A1 d1.length n1] 26)).alloc (.cells #[.int .i64 0, .slice none 0 0] 26)) w.heap.size [.int .i64 a0, .slice A1 d1.length n1] := (Loc.new w #[.int .i64 a0, .slice A1 d1.length n1] 26).alloc _
  have Lr : Loc ((w.alloc (.cells #[.int .i64 a0, .slice A1 d1.length n1] 26)).alloc (.cells #[.int .i64 0, .slice none 0 0] 26)) (w.heap.size + 1) [.int .i64 0, .slice none 0 0] := by
    have := Loc.new (w.alloc (.cells #[.int .i64 a0, .slice A1 d1.length n1] 26)) #[.int .i64 0, .slice none 0 0] 26
    simpa using this
  have hb : Below w.heap.size w ((w.alloc (.cells #[.int .i64 a0, .slice A1 d1.length n1] 26)).alloc (.cells #[.int .i64 0, .slice none 0 0] 26)) := by (repeat' (first | (with_reducible exact Below.refl _ _) | (with_reducible assumption) | (with_reducible refine Below.setCell ?_ (by first | omega | (simp; omega) | (simp; done)) _) | (with_reducible refine Below.alloc ?_ (by first | omega | (simp; omega) | (simp; done)) _) | (with_reducible refine Below.drew ?_) | (with_reducible refine below_drewN ?_ _)))
  have hz : ((w.alloc (.cells #[.int .i64 a0, .slice A1 d1.length n1] 26)).alloc (.cells #[.int .i64 0, .slice none 0 0] 26)).heap.size = w.heap.size + 1 + 1 := by simp
  generalize (w.alloc (.cells #[.int .i64 a0, .slice A1 d1.length n1] 26)).alloc (.cells #[.int .i64 0, .slice none 0 0] 26) = W at *
  have hzW : w.heap.size + 1 + 1 ≤ W.heap.size := by omega
  have hzW' : W.heap.size ≤ w.heap.size + 1 + 1 := by omega
  clear hz
  replace hd1 := hd1.below hb
  refine region_made (n := 10) 7 (by kernel_rfl) rfl (by kernel_rfl) (fun w' => Below W.heap.size W w') (fun i => if i = 2 then 1 else if i = 5 then 1 else 0) (pl02Copy w.heap.size (w.heap.size + 1 + 1) a0 (.slice A1 d1.length n1) d1) (Below.refl _ _).drew ?_ ?_ ?_
  · intro i v gh gh' w1 w2 hp hJ hb' hg
    match i, hp with
    | 0, hp => exact hp
    | 1, hp => exact hp
    | 2, ⟨g, hv, ho⟩ => exact ⟨g, hv, OwnC.keep ho hb' hg⟩
    | 3, hp => exact hp
    | 4, hp => exact hp
    | 5, hp =>
      have hp' : OwG (w.heap.size + 1 + 1) (fun w S => OwL 62 cLimb 3 w S v d1) 1 gh w1 := hp
      exact OwG.keep hp' (fun _ h => h.below hb') hb' hg
    | 6, ⟨z5, hv, o0⟩ => exact ⟨z5, hv, OwG.keep o0 (fun _ h => h.below hb') hb' hg⟩
    | _ + 7, _ => trivial
  · refine ⟨?_, ?_, ?_, ?_, ?_, ?_, ?_, trivial⟩
    all_goals
      intro a gh wr hag hJ hd
      obtain ⟨x0, x1, x2, x3, x4, x5, x6, x7, x8, x9, rfl⟩ := act10Body hag.size hag.defers
      have ag1 : x1 = .pointer (some ⟨w.heap.size, 0, none⟩) := hag.kept 1 (by kernel_rfl)
      clear hag
      subst ag1
    · go_wp2_with fail
      exact ⟨rfl, _, rfl, rfl, hJ, Below.refl _ _⟩
    · have e1 : x3 = .pointer (some ⟨w.heap.size, 0, none⟩) := hd 0 (by kernel_rfl) _ rfl
      subst e1
      have c0 := ((La.below hJ) 0 _ rfl).1
      go_wp2_with fail
      exact ⟨rfl, _, rfl, rfl, hJ, Below.refl _ _⟩
    · go_wp2_with fail
      exact ⟨rfl, _, rfl, ⟨wr.heap.size, rfl, World.ownsRow_made (size := 3) (e := 62) wr #[] 0 (Nat.le_trans hzW hJ.size) (by simp [maxLen]) rfl, fun b hb => if_neg (by simp [Value.ownBlock] at hb; omega)⟩, hJ.alloc hJ.size _, (Below.refl _ _).alloc (Nat.le_refl _) _⟩
    · go_wp2_with fail
      exact ⟨rfl, _, rfl, rfl, hJ, Below.refl _ _⟩
    · have e1 : x6 = .pointer (some ⟨w.heap.size, 1, none⟩) := hd 3 (by kernel_rfl) _ rfl
      subst e1
      have c1 := ((La.below hJ) 1 _ rfl).1
      go_wp2_with fail
      exact ⟨rfl, _, rfl, rfl, hJ, Below.refl _ _⟩
    · obtain ⟨g, e1, og⟩ : ∃ g, x5 = .slice (some ⟨g, 0, none⟩) 0 0 ∧ OwnC (w.heap.size + 1 + 1) 62 3 x5 0 [] 1 gh wr := hd 2 (by kernel_rfl) _ rfl
      have e2 : x7 = .slice A1 d1.length n1 := hd 4 (by kernel_rfl) _ rfl
      subst e1 e2
      go_wp2_with (at_builtin; refine wpList_append_empty _ rfl (.tmp 5) (.tmp 7) _ rfl (w.heap.size + 1 + 1) 62 iLimb _ 3 24 Try.underlying24 hiLimb hzLimb0 hzLimb1 hzLimb2 rfl (by omega) g rfl og.1 _ d1.length (d1.flatMap cLimb) rfl (hd1.below hJ) (oneCell_flat cLimb_one d1) (by simp [maxLen]; omega) (by omega) (Nat.le_trans hzW hJ.size) ?_; intro v3 w3 own3 b3 at3)
      exact ⟨rfl, _, rfl, OwG.of_append own3 b3 at3 og, hJ.trans (b3.mono hJ.size), b3⟩
    · skip
      have e4 : x4 = .int .i64 a0 := hd 1 (by kernel_rfl) _ rfl
      have q8 : OwG (w.heap.size + 1 + 1) (fun w S => OwL 62 cLimb 3 w S x8 d1) 1 gh wr := hd 5 (by kernel_rfl) _ rfl
      obtain ⟨D8, m8, e8⟩ : ∃ A c, x8 = .slice A d1.length c := by obtain ⟨S, h, _⟩ := q8; obtain ⟨A, c, e, _⟩ := h.rd.form; exact ⟨A, c, e⟩
      subst e4 e8
      go_wp2_with fail
      exact ⟨rfl, _, rfl, ⟨_, rfl, OwG.same q8 _⟩, hJ, Below.refl _ _⟩
  · intro a gh wr hag hJ hd
    obtain ⟨x0, x1, x2, x3, x4, x5, x6, x7, x8, x9, rfl⟩ := act10Body hag.size hag.defers
    have ag2 : x2 = .pointer (some ⟨w.heap.size + 1, 0, none⟩) := hag.kept 2 (by kernel_rfl)
    subst ag2
    obtain ⟨z5, e1, q0⟩ : ∃ z5, x9 = .agg #[.int .i64 a0, z5] ∧ OwG (w.heap.size + 1 + 1) (fun w S => OwL 62 cLimb 3 w S z5 d1) 1 gh wr := hd 6 (by kernel_rfl) _ rfl
    obtain ⟨Dz5, mz5, rfl⟩ : ∃ A c, z5 = .slice A d1.length c := by obtain ⟨S, h, _⟩ := q0; obtain ⟨A, c, e, _⟩ := h.rd.form; exact ⟨A, c, e⟩
    subst e1
    have Lq := Lr.below hJ
    have r0 := (Lq 0 _ rfl).1
    have p0 := (Lq 0 _ rfl).2
    have r1 := (Lq 1 _ rfl).1
    have p1 := (Lq 1 _ rfl).2
    clear hd La Lr Lq
    have hz := hJ.size
    have hset : Chg [w.heap.size + 1] wr ((wr.setCell ⟨w.heap.size + 1, 0, none⟩ (.int .i64 a0)).setCell ⟨w.heap.size + 1, 1, none⟩ (.slice Dz5 d1.length mz5)) := by repeat' (first | (with_reducible exact Chg.refl _ _) | (with_reducible refine chg_set ?_ (by simp)))
    have Gq0 := Lib.hid (OwG.chg q0 hset (by simp) (fun S h hn => h.chg hset hn))
    clear q0
    go_wp2_with fail
    obtain ⟨S1, t1, hf⟩ := OwG.one Gq0.out
    refine bodyPost_ret (v := .agg #[.int .i64 a0, .slice Dz5 d1.length mz5]) (by simp [results, Try.results79, go_sem, *]) rfl ⟨.slice Dz5 d1.length mz5, S1, rfl, ⟨S1, rfl, t1⟩, fresh_mono hf (by omega) (Nat.le_refl _), ?_⟩
    exact Below.chg (hb.trans (hJ.mono (by omega))) hset (by omega) (by simp)
end Go.Proofs.Ytomghkfkbpkbdaa

namespace Go.Proofs.Ytomghkfkbpkbdaa
open Go.RowKit
theorem cCord_one (a : RCord) : ∀ y ∈ cCord a, y.oneCell' = true := by intro y hy; simp [cCord] at hy; rcases hy with rfl | rfl | rfl <;> rfl
theorem act13Control {a : Act} (h : a.tmps.size = 13) (hd : a.defers = []) : ∃ x0 x1 x2 x3 x4 x5 x6 x7 x8 x9 x10 x11 x12 : Value, a = ⟨#[x0, x1, x2, x3, x4, x5, x6, x7, x8, x9, x10, x11, x12], []⟩ := by
  obtain ⟨⟨l⟩, d⟩ := a
  subst hd
  match l, h with
  | [x0, x1, x2, x3, x4, x5, x6, x7, x8, x9, x10, x11, x12], _ => exact ⟨x0, x1, x2, x3, x4, x5, x6, x7, x8, x9, x10, x11, x12, rfl⟩
theorem act14Control {a : Act} (h : a.tmps.size = 14) (hd : a.defers = []) : ∃ x0 x1 x2 x3 x4 x5 x6 x7 x8 x9 x10 x11 x12 x13 : Value, a = ⟨#[x0, x1, x2, x3, x4, x5, x6, x7, x8, x9, x10, x11, x12, x13], []⟩ := by
  obtain ⟨⟨l⟩, d⟩ := a
  subst hd
  match l, h with
  | [x0, x1, x2, x3, x4, x5, x6, x7, x8, x9, x10, x11, x12, x13], _ => exact ⟨x0, x1, x2, x3, x4, x5, x6, x7, x8, x9, x10, x11, x12, x13, rfl⟩
end Go.Proofs.Ytomghkfkbpkbdaa
