/- Contracts: copies of players. Written by a program (gen_kp.py). -/
import Derived.Test.YtjbhlbcjljdjmaaKC
import Derived.Test.YtjbhlbcjljdjmaaP3
import Derived.Deep.DeepCutAuto
namespace Go.Proofs.Ytjbhlbcjljdjmaa
open Go.RowKit
theorem pls_take {ll : List RPl} {k : Nat} (h : k < ll.length) : ll.take (k + 1) = ll.take k ++ [(ll[k].1, ll[k].2)] := take_snoc_l ll h
theorem act24cp {a : Act} (h : a.tmps.size = 24) (hd : a.defers = []) : ∃ x0 x1 x2 x3 x4 x5 x6 x7 x8 x9 x10 x11 x12 x13 x14 x15 x16 x17 x18 x19 x20 x21 x22 x23 : Value, a = ⟨#[x0, x1, x2, x3, x4, x5, x6, x7, x8, x9, x10, x11, x12, x13, x14, x15, x16, x17, x18, x19, x20, x21, x22, x23], []⟩ := by
  obtain ⟨⟨l⟩, d⟩ := a
  subst hd
  match l, h with
  | [x0, x1, x2, x3, x4, x5, x6, x7, x8, x9, x10, x11, x12, x13, x14, x15, x16, x17, x18, x19, x20, x21, x22, x23], _ => exact ⟨x0, x1, x2, x3, x4, x5, x6, x7, x8, x9, x10, x11, x12, x13, x14, x15, x16, x17, x18, x19, x20, x21, x22, x23, rfl⟩
def pcopyPlayers (B g0 : Nat) (q us : Value) (r : List Int) (n : Int) (i : Nat) (v : Value) (gh : Nat → Nat) (w : World) : Prop :=
  match i with
  | 0 => v = q
  | 1 => v = .pointer (some ⟨g0, 0, none⟩)
  | 2 => v = us
  | 3 => OwG B (fun w S => OwL 3 cInt 1 w S v r) 1 gh w
  | 4 => v = .pointer (some ⟨g0, 1, none⟩)
  | 5 => v = .int .i64 n
  | 6 => ∃ u', v = .agg #[u', .int .i64 n] ∧ OwG B (fun w S => OwL 3 cInt 1 w S u' r) 1 gh w
  | 7 => ∃ u' g', v = .slice (some ⟨g', 0, none⟩) 1 1 ∧ w.heap[g']? = some (.cells #[u', .int .i64 n] 126 (0, 0)) ∧ OwG B (fun w S => OwL 3 cInt 1 w S u' r) 1 gh w
  | _ => True
set_option maxHeartbeats 8000000 in
set_option maxRecDepth 100000 in
theorem copyPlayers_any (v : Value) (ll : List RPl) (w : World) (h : RdPls w v ll) (hl : plsTot ll ≤ 1048576) :
    Calls Try.prog 124 #[v] w fun e w' => ∃ v' S, e = .returned v' ∧ OwPls w' S v' ll ∧ Fresh w.heap.size w' S ∧ Below w.heap.size w w' := by
  obtain ⟨A, c, rfl, h1, h2⟩ := h.form
  have hll : ll.length ≤ 1048576 := by unfold plsTot at hl; omega
  obtain ⟨i0, hi0, hz0, hz1, hz2⟩ := info_parts infoPlayer
  obtain ⟨iI, hiI, hzI0, hzI1, hzI2⟩ := info_parts infoInt
  go_enter Try.func124, Try.ntmps124
  go_wp2_with fail
  have hst := pls_start w w.heap.size (Nat.le_refl _)
  go_loopw [3, 9] (fun q i wr => ∃ (k : Nat) (S : List Nat), k ≤ ll.length ∧ i = .int .i64 k ∧ OwPls wr S q (ll.take k) ∧ Fresh w.heap.size wr S ∧ Below w.heap.size w wr) (fun _ i _ => ll.length - (intOf i).toNat)
  case atStart => exact ⟨0, _, Nat.zero_le _, rfl, hst.1, hst.2, by (repeat' (first | exact Below.refl _ _ | (refine Below.setCell ?_ (by first | omega | (simp; omega) | (simp; done)) _) | (refine Below.alloc ?_ (by first | omega | (simp; omega) | (simp; done)) _) | (refine Below.drew ?_) | (refine below_drewN ?_ _) | (refine Below.trans ?_ (Below.mono (by assumption) (by first | omega | (simp; omega) | (simp; done))))))⟩
  case round =>
    clear hst
    obtain ⟨k, S, hk, rfl, how, hf, hb⟩ := hrel
    have hz := hb.size
    by_cases hlt : k < ll.length
    · have hlk : ll[k].1.length ≤ 1048576 := by have := plsTo_le hlt; rw [plsCnt_tot] at this; omega
      obtain ⟨g, off, u, rfl, hg, k0, k1, hru⟩ := (h.below hb).cell hlt
      obtain ⟨Au, cu, rfl, _, _⟩ := hru.form
      obtain ⟨Aq, cq, rfl, _, _⟩ := how.rd.form
      have Htk := Lib.hid (pls_take hlt)
      have hlen : (ll.take k).length = k := by rw [List.length_take]; omega
      have Hlen := Lib.hid hlen
      have hlen1 : (ll.take k).length ≤ 1048576 := by omega
      generalize hr : ll[k].1 = r at *
      generalize hn : ll[k].2 = n at *
      generalize ll.take k = done at *
      clear hr hn hlen
      go_upto_region 5 with (fail)
      have Lp : Loc (wr.alloc (.cells #[.slice Au r.length cu, .int .i64 n] 126)) wr.heap.size [.slice Au r.length cu, .int .i64 n] := Loc.new wr #[.slice Au r.length cu, .int .i64 n] 126
      have hb0 : Below w.heap.size w (wr.alloc (.cells #[.slice Au r.length cu, .int .i64 n] 126)) := hb.alloc hz _
      replace hru := hru.below ((Below.refl _ _).alloc (Nat.le_refl _) (.cells #[.slice Au r.length cu, .int .i64 n] 126))
      replace how := how.below ((Below.refl _ _).alloc (Nat.le_refl _) (.cells #[.slice Au r.length cu, .int .i64 n] 126))
      replace hf := fresh_mono (w' := wr.alloc (.cells #[.slice Au r.length cu, .int .i64 n] 126)) hf (Nat.le_refl _) (by simp)
      have hWz : wr.heap.size + 1 = (wr.alloc (.cells #[.slice Au r.length cu, .int .i64 n] 126)).heap.size := by simp
      generalize (wr.alloc (.cells #[.slice Au r.length cu, .int .i64 n] 126)) = W at *
      obtain ⟨B, hBe⟩ : ∃ B, W.heap.size = B := ⟨_, rfl⟩
      have hBW : B ≤ W.heap.size := by omega
      have hBW' : W.heap.size ≤ B := by omega
      obtain ⟨g0, hg0⟩ : ∃ g0, wr.heap.size = g0 := ⟨_, rfl⟩
      rw [hg0] at Lp ⊢
      clear hBe k0 k1 hb hg
      have hwW : w.heap.size ≤ W.heap.size := hb0.size
      clear hWz hg0 hz
      refine region_made (n := 24) 8 (by kernel_rfl) rfl (by kernel_rfl) (fun w' => Below W.heap.size W w') (fun i => if i = 3 then 1 else 0) (pcopyPlayers B g0 (.slice Aq done.length cq) (.slice Au r.length cu) r n) (Below.refl _ _).drew ?_ ?_ ?_
      · intro i v gh gh' w1 w2 hp hJ hb' hg
        match i, hp with
        | 0, hp => exact hp
        | 1, hp => exact hp
        | 2, hp => exact hp
        | 3, hp =>
              have hp' : OwG B (fun w S => OwL 3 cInt 1 w S v r) 1 gh w1 := hp
              exact OwG.keep hp' (fun _ h => h.below hb') hb' hg
        | 4, hp => exact hp
        | 5, hp => exact hp
        | 6, ⟨u', hv, ho⟩ => exact ⟨u', hv, OwG.keep ho (fun _ h => h.below hb') hb' hg⟩
        | 7, ⟨u', g', hv, hg', ho⟩ => exact ⟨u', g', hv, (hb'.block g' (Array.getElem?_eq_some_iff.1 hg').1).trans hg', OwG.keep ho (fun _ h => h.below hb') hb' hg⟩
        | _ + 8, _ => trivial
      · refine ⟨?_, ?_, ?_, ?_, ?_, ?_, ?_, ?_, trivial⟩
        all_goals
          intro a gh wr hag hJ hd
          obtain ⟨x0, x1, x2, x3, x4, x5, x6, x7, x8, x9, x10, x11, x12, x13, x14, x15, x16, x17, x18, x19, x20, x21, x22, x23, rfl⟩ := act24cp hag.size hag.defers
          have ag0 : x0 = .slice (some ⟨g, off, none⟩) ll.length c := hag.kept 0 (by kernel_rfl)
          have ag1 : x1 = undef := hag.kept 1 (by kernel_rfl)
          have ag2 : x2 = .slice none 0 0 := hag.kept 2 (by kernel_rfl)
          have ag3 : x3 = .slice Aq done.length cq := hag.kept 3 (by kernel_rfl)
          have ag4 : x4 = undef := hag.kept 4 (by kernel_rfl)
          have ag6 : x6 = .slice (some ⟨w.heap.size, 0, none⟩) 0 0 := hag.kept 6 (by kernel_rfl)
          have ag23 : x23 = undef := hag.kept 23 (by kernel_rfl)
          have ag5 : x5 = .pointer (some ⟨g0, 0, none⟩) := hag.kept 5 (by kernel_rfl)
          have ag7 : x7 = .slice (some ⟨g, off, none⟩) ll.length c := hag.kept 7 (by kernel_rfl)
          have ag8 : x8 = .int .i64 ll.length := hag.kept 8 (by kernel_rfl)
          have ag9 : x9 = .int .i64 k := hag.kept 9 (by kernel_rfl)
          clear hag
          subst ag0 ag1 ag2 ag3 ag4 ag6 ag23 ag5 ag7 ag8 ag9
        · go_wp2_with fail
          exact ⟨rfl, _, rfl, rfl, hJ, Below.refl _ _⟩
        · go_wp2_with fail
          exact ⟨rfl, _, rfl, rfl, hJ, Below.refl _ _⟩
        · have e1 : x14 = .pointer (some ⟨g0, 0, none⟩) := hd 1 (by kernel_rfl) _ rfl
          subst e1
          have c := ((Lp.below hJ) 0 _ rfl).1
          go_wp2_with fail
          exact ⟨rfl, _, rfl, rfl, hJ, Below.refl _ _⟩
        · have e1 : x15 = .slice Au r.length cu := hd 2 (by kernel_rfl) _ rfl
          subst e1
          go_wp2_with (go_at_call 128; refine (copyOf_any _ r _ (hru.below hJ) (by omega)).mono ?_; rintro e w1 ⟨x, rfl, own1, q1⟩)
          exact ⟨rfl, _, rfl, OwG.of_fresh (ow := (fun w S => OwL 3 cInt 1 w S x r)) (OwL.mk_ own1) (fresh_of own1) (Nat.le_trans hBW hJ.size), hJ.trans (q1.mono hJ.size), q1⟩
        · go_wp2_with fail
          exact ⟨rfl, _, rfl, rfl, hJ, Below.refl _ _⟩
        · have e1 : x17 = .pointer (some ⟨g0, 1, none⟩) := hd 4 (by kernel_rfl) _ rfl
          subst e1
          have c := ((Lp.below hJ) 1 _ rfl).1
          go_wp2_with fail
          exact ⟨rfl, _, rfl, rfl, hJ, Below.refl _ _⟩
        · have ou : OwG B (fun w S => OwL 3 cInt 1 w S x16 r) 1 gh wr := hd 3 (by kernel_rfl) _ rfl
          have e1 : x18 = .int .i64 n := hd 5 (by kernel_rfl) _ rfl
          subst e1
          obtain ⟨D, m, e2⟩ : ∃ A c, x16 = .slice A r.length c := by obtain ⟨S, h, _⟩ := ou; obtain ⟨A, c, e, _⟩ := h.rd.form; exact ⟨A, c, e⟩
          subst e2
          go_wp2_with fail
          exact ⟨rfl, _, rfl, ⟨_, rfl, OwG.same ou _⟩, hJ, Below.refl _ _⟩
        · obtain ⟨u', e1, ou⟩ : ∃ u', x19 = .agg #[u', .int .i64 n] ∧ OwG B (fun w S => OwL 3 cInt 1 w S u' r) 1 gh wr := hd 6 (by kernel_rfl) _ rfl
          obtain ⟨D, m, e2⟩ : ∃ A c, u' = .slice A r.length c := by obtain ⟨S, h, _⟩ := ou; obtain ⟨A, c, e, _⟩ := h.rd.form; exact ⟨A, c, e⟩
          subst e1 e2
          go_wp2_with fail
          exact ⟨rfl, _, rfl, ⟨_, wr.heap.size, rfl, heap_alloc_new wr _, OwG.keep ou (fun _ h => h.below ((Below.refl _ _).alloc (Nat.le_refl _) _)) ((Below.refl _ _).alloc (Nat.le_refl _) _) (fun _ hb => if_pos hb)⟩, hJ.alloc hJ.size _, (Below.refl _ _).alloc (Nat.le_refl _) _⟩
      · intro a gh wr hag hJ hd
        obtain ⟨x0, x1, x2, x3, x4, x5, x6, x7, x8, x9, x10, x11, x12, x13, x14, x15, x16, x17, x18, x19, x20, x21, x22, x23, rfl⟩ := act24cp hag.size hag.defers
        have ag0 : x0 = .slice (some ⟨g, off, none⟩) ll.length c := hag.kept 0 (by kernel_rfl)
        have ag1 : x1 = undef := hag.kept 1 (by kernel_rfl)
        have ag2 : x2 = .slice none 0 0 := hag.kept 2 (by kernel_rfl)
        have ag3 : x3 = .slice Aq done.length cq := hag.kept 3 (by kernel_rfl)
        have ag4 : x4 = undef := hag.kept 4 (by kernel_rfl)
        have ag6 : x6 = .slice (some ⟨w.heap.size, 0, none⟩) 0 0 := hag.kept 6 (by kernel_rfl)
        have ag23 : x23 = undef := hag.kept 23 (by kernel_rfl)
        have ag5 : x5 = .pointer (some ⟨g0, 0, none⟩) := hag.kept 5 (by kernel_rfl)
        have ag7 : x7 = .slice (some ⟨g, off, none⟩) ll.length c := hag.kept 7 (by kernel_rfl)
        have ag8 : x8 = .int .i64 ll.length := hag.kept 8 (by kernel_rfl)
        have ag9 : x9 = .int .i64 k := hag.kept 9 (by kernel_rfl)
        clear hag
        subst ag0 ag1 ag2 ag3 ag4 ag6 ag23 ag5 ag7 ag8 ag9
        have e1 : x13 = .slice Aq done.length cq := hd 0 (by kernel_rfl) _ rfl
        obtain ⟨u', g', e2, hg', ou⟩ : ∃ u' g', x20 = .slice (some ⟨g', 0, none⟩) 1 1 ∧ wr.heap[g']? = some (.cells #[u', .int .i64 n] 126 (0, 0)) ∧ OwG B (fun w S => OwL 3 cInt 1 w S u' r) 1 gh wr := hd 7 (by kernel_rfl) _ rfl
        clear hd
        subst e1 e2
        obtain ⟨Sk, hk1, hk2⟩ := ou.one
        replace how := how.below hJ
        obtain ⟨vs, hvl, hown, hrows, rfl⟩ := how
        have Hrows := Lib.hid hrows
        have Hvl := Lib.hid hvl
        have hown1 : wr.ownsRow w.heap.size 126 2 (.slice Aq done.length cq) done.length (vs.flatMap cPl) := by have := own_up hown (fun b hb => (fresh_mono hf (Nat.le_refl _) hJ.size).2 b (List.mem_append_left _ hb)); rwa [hvl] at this
        have hJz := hJ.size
        have hone : ∀ y ∈ [u', Value.int .i64 n], y.oneCell' = true := by obtain ⟨A1, c1, rfl, _, _⟩ := hk1.rd.form; simp [Value.oneCell']
        have Hk1 := Lib.hid hk1
        have Hk2 := Lib.hid hk2
        have Hg := Lib.hid hg'
        have Hown := Lib.hid hown1
        have Hone := Lib.hid hone
        clear hrows hvl hown hk1 hk2 hg' ou hown1 hone
        change wpList _ _ _ [_, _] _ _
        refine wpList_appendB _ rfl (.tmp 13) (.tmp 20) _ rfl w.heap.size 126 i0 _ 2 32 Try.underlying45 hi0 hz0 hz1 hz2 rfl (by omega) _ done.length (vs.flatMap cPl) rfl Hown.out _ 1 [u', .int .i64 n] rfl (rdS_block Hg.out 2 1 rfl (by simp [maxLen])) Hone.out (by simp [maxLen]; omega) (by omega) (by omega) ?_
        intro v3 w3 own3 gr3 at3
        have hsn := pls_snoc (B := w.heap.size) (ll := done) (Hvl.out) Hrows.out (fresh_mono hf (Nat.le_refl _) hJz) Hk1.out (fresh_mono Hk2.out (by omega) (Nat.le_refl _)) (fun b hb hb' => by have := hf.2 b hb; have := Hk2.out.2 b hb'; omega) (by rw [Hvl.out]; exact own3) gr3 at3
        have hb3 := below_own Hown.out gr3 (by omega)
        have hbW : Below w.heap.size w w3 := (hb0.trans (hJ.mono (by omega))).trans hb3
        have Hsn := Lib.hid hsn
        clear hsn own3 gr3 at3 hb3 Hown Hrows Hvl Hk1 Hk2 Hg
        go_wp2_with fail
        go_roundw
        case rel => exact ⟨k + 1, _, by omega, by go_num, by rw [Htk.out]; exact Hsn.out.1, Hsn.out.2, hbW⟩
        case measure => simp [intOf]; omega
    · go_wp2_with fail
      go_ret
      rw [List.take_of_length_le (by omega)] at how
      exact ⟨_, _, rfl, how, hf, hb⟩
theorem act29l17 {a : Act} (h : a.tmps.size = 29) (hd : a.defers = []) : ∃ x0 x1 x2 x3 x4 x5 x6 x7 x8 x9 x10 x11 x12 x13 x14 x15 x16 x17 x18 x19 x20 x21 x22 x23 x24 x25 x26 x27 x28 : Value, a = ⟨#[x0, x1, x2, x3, x4, x5, x6, x7, x8, x9, x10, x11, x12, x13, x14, x15, x16, x17, x18, x19, x20, x21, x22, x23, x24, x25, x26, x27, x28], []⟩ := by
  obtain ⟨⟨l⟩, d⟩ := a
  subst hd
  match l, h with
  | [x0, x1, x2, x3, x4, x5, x6, x7, x8, x9, x10, x11, x12, x13, x14, x15, x16, x17, x18, x19, x20, x21, x22, x23, x24, x25, x26, x27, x28], _ => exact ⟨x0, x1, x2, x3, x4, x5, x6, x7, x8, x9, x10, x11, x12, x13, x14, x15, x16, x17, x18, x19, x20, x21, x22, x23, x24, x25, x26, x27, x28, rfl⟩
def pl17Copy (B g o : Nat) (ki : Int) (q us ls : Value) (r : List Int) (n : Int) (i : Nat) (v : Value) (gh : Nat → Nat) (w : World) : Prop :=
  match i with
  | 0 => v = q
  | 1 => ∃ g, v = .slice (some ⟨g, 0, none⟩) 0 0 ∧ OwnC B 3 1 v 0 [] 1 gh w
  | 2 => v = ls
  | 3 => v = .int .i64 ki
  | 4 => v = .pointer (some ⟨g, o, none⟩)
  | 5 => v = .pointer (some ⟨g, o, none⟩)
  | 6 => v = us
  | 7 => OwG B (fun w S => OwL 3 cInt 1 w S v r) 1 gh w
  | 8 => v = ls
  | 9 => v = .int .i64 ki
  | 10 => v = .pointer (some ⟨g, o, none⟩)
  | 11 => v = .pointer (some ⟨g, o + 1, none⟩)
  | 12 => v = .int .i64 n
  | 13 => ∃ u', v = .agg #[u', .int .i64 n] ∧ OwG B (fun w S => OwL 3 cInt 1 w S u' r) 1 gh w
  | 14 => ∃ u' g', v = .slice (some ⟨g', 0, none⟩) 1 1 ∧ w.heap[g']? = some (.cells #[u', .int .i64 n] 126 (0, 0)) ∧ OwG B (fun w S => OwL 3 cInt 1 w S u' r) 1 gh w
  | _ => True
set_option maxHeartbeats 8000000 in
set_option maxRecDepth 100000 in
theorem l17Copy_any (v : Value) (ll : List RPl) (w : World) (h : RdPls w v ll) (hl : plsTot ll ≤ 1048576) :
    Calls Try.prog 121 #[v] w fun e w' => ∃ v' S, e = .returned v' ∧ OwPls w' S v' ll ∧ Fresh w.heap.size w' S ∧ Below w.heap.size w w' := by
  obtain ⟨A, c, rfl, h1, h2⟩ := h.form
  have hll : ll.length ≤ 1048576 := by unfold plsTot at hl; omega
  obtain ⟨i0, hi0, hz0, hz1, hz2⟩ := info_parts infoPlayer
  obtain ⟨iI, hiI, hzI0, hzI1, hzI2⟩ := info_parts infoInt
  go_enter Try.func121, Try.ntmps121
  go_wp2_with fail
  have hst := pls_start w w.heap.size (Nat.le_refl _)
  go_loopw [3, 4] (fun q i wr => ∃ (k : Nat) (S : List Nat), k ≤ ll.length ∧ i = .int .i64 k ∧ OwPls wr S q (ll.take k) ∧ Fresh w.heap.size wr S ∧ Below w.heap.size w wr) (fun _ i _ => ll.length - (intOf i).toNat)
  case atStart => exact ⟨0, _, Nat.zero_le _, rfl, hst.1, hst.2, by (repeat' (first | exact Below.refl _ _ | (refine Below.setCell ?_ (by first | omega | (simp; omega) | (simp; done)) _) | (refine Below.alloc ?_ (by first | omega | (simp; omega) | (simp; done)) _) | (refine Below.drew ?_) | (refine below_drewN ?_ _) | (refine Below.trans ?_ (Below.mono (by assumption) (by first | omega | (simp; omega) | (simp; done))))))⟩
  case round =>
    clear hst
    obtain ⟨k, S, hk, rfl, how, hf, hb⟩ := hrel
    have hz := hb.size
    by_cases hlt : k < ll.length
    · have hlk : ll[k].1.length ≤ 1048576 := by have := plsTo_le hlt; rw [plsCnt_tot] at this; omega
      obtain ⟨g, off, u, rfl, hg, k0, k1, hru⟩ := (h.below hb).cell hlt
      obtain ⟨Au, cu, rfl, _, _⟩ := hru.form
      obtain ⟨Aq, cq, rfl, _, _⟩ := how.rd.form
      have Htk := Lib.hid (pls_take hlt)
      have hlen : (ll.take k).length = k := by rw [List.length_take]; omega
      have Hlen := Lib.hid hlen
      have hlen1 : (ll.take k).length ≤ 1048576 := by omega
      generalize hr : ll[k].1 = r at *
      generalize hn : ll[k].2 = n at *
      generalize ll.take k = done at *
      clear hr hn hlen
      go_upto_region 5 with (fail)
      obtain ⟨W, rfl⟩ : ∃ W, W = wr := ⟨_, rfl⟩
      have hb0 := hb
      have hwW : w.heap.size ≤ W.heap.size := hb0.size
      obtain ⟨B, hBe⟩ : ∃ B, W.heap.size = B := ⟨_, rfl⟩
      have hBW : B ≤ W.heap.size := by omega
      have hBW' : W.heap.size ≤ B := by omega
      clear hBe hb hg hz
      refine region_made (n := 29) 15 (by kernel_rfl) rfl (by kernel_rfl) (fun w' => Below W.heap.size W w') (fun i => if i = 1 then 1 else if i = 7 then 1 else 0) (pl17Copy B g (off + k * 2) k (.slice Aq done.length cq) (.slice Au r.length cu) (.slice (some ⟨g, off, none⟩) ll.length c) r n) (Below.refl _ _).drew ?_ ?_ ?_
      · intro i v gh gh' w1 w2 hp hJ hb' hg
        match i, hp with
        | 0, hp => exact hp
        | 1, ⟨g, hv, ho⟩ => exact ⟨g, hv, OwnC.keep ho hb' hg⟩
        | 2, hp => exact hp
        | 3, hp => exact hp
        | 4, hp => exact hp
        | 5, hp => exact hp
        | 6, hp => exact hp
        | 7, hp =>
              have hp' : OwG B (fun w S => OwL 3 cInt 1 w S v r) 1 gh w1 := hp
              exact OwG.keep hp' (fun _ h => h.below hb') hb' hg
        | 8, hp => exact hp
        | 9, hp => exact hp
        | 10, hp => exact hp
        | 11, hp => exact hp
        | 12, hp => exact hp
        | 13, ⟨u', hv, ho⟩ => exact ⟨u', hv, OwG.keep ho (fun _ h => h.below hb') hb' hg⟩
        | 14, ⟨u', g', hv, hg', ho⟩ => exact ⟨u', g', hv, (hb'.block g' (Array.getElem?_eq_some_iff.1 hg').1).trans hg', OwG.keep ho (fun _ h => h.below hb') hb' hg⟩
        | _ + 15, _ => trivial
      · refine ⟨?_, ?_, ?_, ?_, ?_, ?_, ?_, ?_, ?_, ?_, ?_, ?_, ?_, ?_, ?_, trivial⟩
        all_goals
          intro a gh wr hag hJ hd
          obtain ⟨x0, x1, x2, x3, x4, x5, x6, x7, x8, x9, x10, x11, x12, x13, x14, x15, x16, x17, x18, x19, x20, x21, x22, x23, x24, x25, x26, x27, x28, rfl⟩ := act29l17 hag.size hag.defers
          have ag0 : x0 = .slice (some ⟨g, off, none⟩) ll.length c := hag.kept 0 (by kernel_rfl)
          have ag1 : x1 = undef := hag.kept 1 (by kernel_rfl)
          have ag2 : x2 = .slice none 0 0 := hag.kept 2 (by kernel_rfl)
          have ag3 : x3 = .slice Aq done.length cq := hag.kept 3 (by kernel_rfl)
          have ag4 : x4 = .int .i64 k := hag.kept 4 (by kernel_rfl)
          have ag5 : x5 = .slice (some ⟨w.heap.size, 0, none⟩) 0 0 := hag.kept 5 (by kernel_rfl)
          have ag28 : x28 = undef := hag.kept 28 (by kernel_rfl)
          clear hag
          subst ag0 ag1 ag2 ag3 ag4 ag5 ag28
        · go_wp2_with fail
          exact ⟨rfl, _, rfl, rfl, hJ, Below.refl _ _⟩
        · go_wp2_with fail
          exact ⟨rfl, _, rfl, ⟨wr.heap.size, rfl, World.ownsRow_made (size := 1) (e := 3) wr #[] 0 (Nat.le_trans hBW hJ.size) (by simp [maxLen]) rfl, fun b hb => if_neg (by simp [Value.ownBlock] at hb; omega)⟩, hJ.alloc hJ.size _, (Below.refl _ _).alloc (Nat.le_refl _) _⟩
        · go_wp2_with fail
          exact ⟨rfl, _, rfl, rfl, hJ, Below.refl _ _⟩
        · go_wp2_with fail
          exact ⟨rfl, _, rfl, rfl, hJ, Below.refl _ _⟩
        · have e1 : x14 = .slice (some ⟨g, off, none⟩) ll.length c := hd 2 (by kernel_rfl) _ rfl
          have e2 : x15 = .int .i64 k := hd 3 (by kernel_rfl) _ rfl
          subst e1 e2
          go_wp2_with fail
          exact ⟨rfl, _, rfl, rfl, hJ, Below.refl _ _⟩
        · have e1 : x16 = .pointer (some ⟨g, off + k * 2, none⟩) := hd 4 (by kernel_rfl) _ rfl
          subst e1
          go_wp2_with fail
          exact ⟨rfl, _, rfl, rfl, hJ, Below.refl _ _⟩
        · have e1 : x17 = .pointer (some ⟨g, off + k * 2, none⟩) := hd 5 (by kernel_rfl) _ rfl
          subst e1
          have c0 := carry hJ k0
          go_wp2_with fail
          exact ⟨rfl, _, rfl, rfl, hJ, Below.refl _ _⟩
        · obtain ⟨g1, e1, og⟩ : ∃ g, x13 = .slice (some ⟨g, 0, none⟩) 0 0 ∧ OwnC B 3 1 x13 0 [] 1 gh wr := hd 1 (by kernel_rfl) _ rfl
          have e2 : x18 = .slice Au r.length cu := hd 6 (by kernel_rfl) _ rfl
          subst e1 e2
          go_wp2_with (at_builtin; refine wpList_append_empty _ rfl (.tmp 13) (.tmp 18) _ rfl B 3 iI _ 1 8 Try.underlying28 hiI hzI0 hzI1 hzI2 rfl (by omega) g1 rfl og.1 _ r.length (r.flatMap cInt) rfl (hru.below hJ) (oneCell_flat cInt_one r) (by simp [maxLen]; omega) (by omega) (Nat.le_trans hBW hJ.size) ?_; intro v3 w3 own3 b3 at3)
          exact ⟨rfl, _, rfl, OwG.of_append own3 b3 at3 og, hJ.trans (b3.mono hJ.size), b3⟩
        · go_wp2_with fail
          exact ⟨rfl, _, rfl, rfl, hJ, Below.refl _ _⟩
        · go_wp2_with fail
          exact ⟨rfl, _, rfl, rfl, hJ, Below.refl _ _⟩
        · have e1 : x20 = .slice (some ⟨g, off, none⟩) ll.length c := hd 8 (by kernel_rfl) _ rfl
          have e2 : x21 = .int .i64 k := hd 9 (by kernel_rfl) _ rfl
          subst e1 e2
          go_wp2_with fail
          exact ⟨rfl, _, rfl, rfl, hJ, Below.refl _ _⟩
        · have e1 : x22 = .pointer (some ⟨g, off + k * 2, none⟩) := hd 10 (by kernel_rfl) _ rfl
          subst e1
          go_wp2_with fail
          exact ⟨rfl, _, rfl, rfl, hJ, Below.refl _ _⟩
        · have e1 : x23 = .pointer (some ⟨g, off + k * 2 + 1, none⟩) := hd 11 (by kernel_rfl) _ rfl
          subst e1
          have c0 := carry hJ k1
          go_wp2_with fail
          exact ⟨rfl, _, rfl, rfl, hJ, Below.refl _ _⟩
        · have ou : OwG B (fun w S => OwL 3 cInt 1 w S x19 r) 1 gh wr := hd 7 (by kernel_rfl) _ rfl
          have e1 : x24 = .int .i64 n := hd 12 (by kernel_rfl) _ rfl
          subst e1
          obtain ⟨D, m, e2⟩ : ∃ A c, x19 = .slice A r.length c := by obtain ⟨S, h, _⟩ := ou; obtain ⟨A, c, e, _⟩ := h.rd.form; exact ⟨A, c, e⟩
          subst e2
          go_wp2_with fail
          exact ⟨rfl, _, rfl, ⟨_, rfl, OwG.same ou _⟩, hJ, Below.refl _ _⟩
        · obtain ⟨u', e1, ou⟩ : ∃ u', x25 = .agg #[u', .int .i64 n] ∧ OwG B (fun w S => OwL 3 cInt 1 w S u' r) 1 gh wr := hd 13 (by kernel_rfl) _ rfl
          obtain ⟨D, m, e2⟩ : ∃ A c, u' = .slice A r.length c := by obtain ⟨S, h, _⟩ := ou; obtain ⟨A, c, e, _⟩ := h.rd.form; exact ⟨A, c, e⟩
          subst e1 e2
          go_wp2_with fail
          exact ⟨rfl, _, rfl, ⟨_, wr.heap.size, rfl, heap_alloc_new wr _, OwG.keep ou (fun _ h => h.below ((Below.refl _ _).alloc (Nat.le_refl _) _)) ((Below.refl _ _).alloc (Nat.le_refl _) _) (fun _ hb => if_pos hb)⟩, hJ.alloc hJ.size _, (Below.refl _ _).alloc (Nat.le_refl _) _⟩
      · intro a gh wr hag hJ hd
        obtain ⟨x0, x1, x2, x3, x4, x5, x6, x7, x8, x9, x10, x11, x12, x13, x14, x15, x16, x17, x18, x19, x20, x21, x22, x23, x24, x25, x26, x27, x28, rfl⟩ := act29l17 hag.size hag.defers
        have ag0 : x0 = .slice (some ⟨g, off, none⟩) ll.length c := hag.kept 0 (by kernel_rfl)
        have ag1 : x1 = undef := hag.kept 1 (by kernel_rfl)
        have ag2 : x2 = .slice none 0 0 := hag.kept 2 (by kernel_rfl)
        have ag3 : x3 = .slice Aq done.length cq := hag.kept 3 (by kernel_rfl)
        have ag4 : x4 = .int .i64 k := hag.kept 4 (by kernel_rfl)
        have ag5 : x5 = .slice (some ⟨w.heap.size, 0, none⟩) 0 0 := hag.kept 5 (by kernel_rfl)
        have ag28 : x28 = undef := hag.kept 28 (by kernel_rfl)
        clear hag
        subst ag0 ag1 ag2 ag3 ag4 ag5 ag28
        have e1 : x12 = .slice Aq done.length cq := hd 0 (by kernel_rfl) _ rfl
        obtain ⟨u', g', e2, hg', ou⟩ : ∃ u' g', x26 = .slice (some ⟨g', 0, none⟩) 1 1 ∧ wr.heap[g']? = some (.cells #[u', .int .i64 n] 126 (0, 0)) ∧ OwG B (fun w S => OwL 3 cInt 1 w S u' r) 1 gh wr := hd 14 (by kernel_rfl) _ rfl
        clear hd
        subst e1 e2
        obtain ⟨Sk, hk1, hk2⟩ := ou.one
        replace how := how.below hJ
        obtain ⟨vs, hvl, hown, hrows, rfl⟩ := how
        have Hrows := Lib.hid hrows
        have Hvl := Lib.hid hvl
        have hown1 : wr.ownsRow w.heap.size 126 2 (.slice Aq done.length cq) done.length (vs.flatMap cPl) := by have := own_up hown (fun b hb => (fresh_mono hf (Nat.le_refl _) hJ.size).2 b (List.mem_append_left _ hb)); rwa [hvl] at this
        have hJz := hJ.size
        have hone : ∀ y ∈ [u', Value.int .i64 n], y.oneCell' = true := by obtain ⟨A1, c1, rfl, _, _⟩ := hk1.rd.form; simp [Value.oneCell']
        have Hk1 := Lib.hid hk1
        have Hk2 := Lib.hid hk2
        have Hg := Lib.hid hg'
        have Hown := Lib.hid hown1
        have Hone := Lib.hid hone
        clear hrows hvl hown hk1 hk2 hg' ou hown1 hone
        change wpList _ _ _ [_, _] _ _
        refine wpList_appendB _ rfl (.tmp 12) (.tmp 26) _ rfl w.heap.size 126 i0 _ 2 32 Try.underlying45 hi0 hz0 hz1 hz2 rfl (by omega) _ done.length (vs.flatMap cPl) rfl Hown.out _ 1 [u', .int .i64 n] rfl (rdS_block Hg.out 2 1 rfl (by simp [maxLen])) Hone.out (by simp [maxLen]; omega) (by omega) (by omega) ?_
        intro v3 w3 own3 gr3 at3
        have hsn := pls_snoc (B := w.heap.size) (ll := done) (Hvl.out) Hrows.out (fresh_mono hf (Nat.le_refl _) hJz) Hk1.out (fresh_mono Hk2.out (by omega) (Nat.le_refl _)) (fun b hb hb' => by have := hf.2 b hb; have := Hk2.out.2 b hb'; omega) (by rw [Hvl.out]; exact own3) gr3 at3
        have hb3 := below_own Hown.out gr3 (by omega)
        have hbW : Below w.heap.size w w3 := (hb0.trans (hJ.mono (by omega))).trans hb3
        have Hsn := Lib.hid hsn
        clear hsn own3 gr3 at3 hb3 Hown Hrows Hvl Hk1 Hk2 Hg
        go_wp2_with fail
        go_roundw
        case rel => exact ⟨k + 1, _, by omega, by go_num, by rw [Htk.out]; exact Hsn.out.1, Hsn.out.2, hbW⟩
        case measure => simp [intOf]; omega
    · go_wp2_with fail
      go_ret
      rw [List.take_of_length_le (by omega)] at how
      exact ⟨_, _, rfl, how, hf, hb⟩
end Go.Proofs.Ytjbhlbcjljdjmaa
