/- Several texts in one: Contracts: LiftControl. Written by a program (gen_k1.py). Contracts: TiltArm. Written by a program (gen_k12.py). Contracts: TiltArm of the reference. Written by a program (gen_k12.py). Contracts: copies of players. Written by a program (gen_kp.py). Contracts: copies of Company. Written by a program (gen_copy.py). Contracts: copies of Theatre. Written by a program (gen_copy.py). Controls in plain words: pulls, joints held, lifting and tilting. No program in sight. -/
import Derived.Deep.DeepCutAuto
import Derived.StillTailTactics
import Derived.Test.YteidpejjjphecaaGreatDoorBdCPControlx2
import Derived.Test.YteidpejjjphecaaGreatDoorBdC1x9
import Derived.Test.YteidpejjjphecaaGreatDoorKC
import Derived.Test.YteidpejjjphecaaGreatDoorBdM7x3
import Derived.Test.YteidpejjjphecaaGreatDoorBdI7x14
namespace Go.Proofs.YteidpejjjphecaaGreatDoor
open Go.RowKit
open Go.RowKit
theorem getD_at {l : List Int} {k : Nat} (h : k < l.length) : l.getD k 0 = l[k] := by rw [List.getD_eq_getElem?_getD, List.getElem?_eq_getElem h]; rfl
theorem within_t {n a b : Int} {w : World} (h : inB n a b = true) : Calls Tryz.prog 32 #[.int .i64 n, .int .i64 a, .int .i64 b] w fun e w' => e = .returned (.bool true) ∧ w = w' := h ▸ within_any n a b w
open Go.RowKit
theorem chg_drewN {w w' : World} {S : List Nat} (h : Chg S w w') (n : Nat) : Chg S w (w'.drewN n) := ⟨h.os, h.tape, h.output, h.size, h.block⟩
theorem l01In_t {n a b : Int} {w : World} (h : inB n a b = true) : Calls Tryz.prog 77 #[.int .i64 n, .int .i64 a, .int .i64 b] w fun e w' => e = .returned (.bool true) ∧ w = w' := h ▸ l01In_any n a b w
open Go.RowKit
theorem pls_take {ll : List RPl} {k : Nat} (h : k < ll.length) : ll.take (k + 1) = ll.take k ++ [(ll[k].1, ll[k].2)] := take_snoc_l ll h
theorem act24cp {a : Act} (h : a.tmps.size = 24) (hd : a.defers = []) : ∃ x0 x1 x2 x3 x4 x5 x6 x7 x8 x9 x10 x11 x12 x13 x14 x15 x16 x17 x18 x19 x20 x21 x22 x23 : Value, a = ⟨#[x0, x1, x2, x3, x4, x5, x6, x7, x8, x9, x10, x11, x12, x13, x14, x15, x16, x17, x18, x19, x20, x21, x22, x23], []⟩ := by
  obtain ⟨⟨l⟩, d⟩ := a
  subst hd
  match l, h with
  | [x0, x1, x2, x3, x4, x5, x6, x7, x8, x9, x10, x11, x12, x13, x14, x15, x16, x17, x18, x19, x20, x21, x22, x23], _ => exact ⟨x0, x1, x2, x3, x4, x5, x6, x7, x8, x9, x10, x11, x12, x13, x14, x15, x16, x17, x18, x19, x20, x21, x22, x23, rfl⟩
def pcopyPlayers (B g0 : Nat) (q us : Value) (r : List Int) (n : Int) (i : Nat) (v : Value) (gh : Nat → Nat) (w : World) : Prop :=
  match i with
  | 0 => v = q
  | 1 => v = .pointer (some ⟨g0, 0, none⟩)
  | 2 => v = us
  | 3 => OwG B (fun w S => OwL 3 cInt 1 w S v r) 1 gh w
  | 4 => v = .pointer (some ⟨g0, 1, none⟩)
  | 5 => v = .int .i64 n
  | 6 => ∃ u', v = .agg #[u', .int .i64 n] ∧ OwG B (fun w S => OwL 3 cInt 1 w S u' r) 1 gh w
  | 7 => ∃ u' g', v = .slice (some ⟨g', 0, none⟩) 1 1 ∧ w.heap[g']? = some (.cells #[u', .int .i64 n] 55 (0, 0)) ∧ OwG B (fun w S => OwL 3 cInt 1 w S u' r) 1 gh w
  | _ => True
set_option maxHeartbeats 8000000 in
set_option maxRecDepth 100000 in
theorem copyPlayers_any (v : Value) (ll : List RPl) (w : World) (h : RdPls w v ll) (hl : plsTot ll ≤ 1048576) :
    Calls Tryz.prog 53 #[v] w fun e w' => ∃ v' S, e = .returned v' ∧ OwPls w' S v' ll ∧ Fresh w.heap.size w' S ∧ Below w.heap.size w w' := by
  obtain ⟨A, c, rfl, h1, h2⟩ := h.form
  have hll : ll.length ≤ 1048576 := by unfold plsTot at hl; omega
  obtain ⟨i0, hi0, hz0, hz1, hz2⟩ := info_parts infoPlayer
  obtain ⟨iI, hiI, hzI0, hzI1, hzI2⟩ := info_parts infoInt
  go_enter Tryz.func53, Tryz.ntmps53
  go_wp2_with fail
  have hst := pls_start w w.heap.size (Nat.le_refl _)
  go_loopw [3, 9] (fun q i wr => ∃ (k : Nat) (S : List Nat), k ≤ ll.length ∧ i = .int .i64 k ∧ OwPls wr S q (ll.take k) ∧ Fresh w.heap.size wr S ∧ Below w.heap.size w wr) (fun _ i _ => ll.length - (intOf i).toNat)
  case atStart => exact ⟨0, _, Nat.zero_le _, rfl, hst.1, hst.2, by (repeat' (first | exact Below.refl _ _ | refine qS ?_ _ | refine qA ?_ _ | refine qD ?_ | refine qN ?_ _ | refine qT ?_ (by assumption)))⟩
  case round =>
    clear hst
    obtain ⟨k, S, hk, rfl, how, hf, hb⟩ := hrel
    have hz := hb.size
    by_cases hlt : k < ll.length
    · have hlk : ll[k].1.length ≤ 1048576 := by have := plsTo_le hlt; rw [plsCnt_tot] at this; omega
      obtain ⟨g, off, u, rfl, hg, k0, k1, hru⟩ := (h.below hb).cell hlt
      obtain ⟨Au, cu, rfl, _, _⟩ := hru.form
      obtain ⟨Aq, cq, rfl, _, _⟩ := how.rd.form
      have Htk := Lib.hid (pls_take hlt)
      have hlen : (ll.take k).length = k := by rw [List.length_take]; omega
      have Hlen := Lib.hid hlen
      have hlen1 : (ll.take k).length ≤ 1048576 := by omega
      generalize hr : ll[k].1 = r at *
      generalize hn : ll[k].2 = n at *
      generalize ll.take k = done at *
      clear hr hn hlen
      go_upto_region 5 with (fail)
      have Lp : Loc (wr.alloc (.cells #[.slice Au r.length cu, .int .i64 n] 55)) wr.heap.size [.slice Au r.length cu, .int .i64 n] := Loc.new wr #[.slice Au r.length cu, .int .i64 n] 55
      have hb0 : Below w.heap.size w (wr.alloc (.cells #[.slice Au r.length cu, .int .i64 n] 55)) := hb.alloc hz _
      replace hru := hru.below ((Below.refl _ _).alloc (Nat.le_refl _) (.cells #[.slice Au r.length cu, .int .i64 n] 55))
      replace how := how.below ((Below.refl _ _).alloc (Nat.le_refl _) (.cells #[.slice Au r.length cu, .int .i64 n] 55))
      replace hf := fresh_mono (w' := wr.alloc (.cells #[.slice Au r.length cu, .int .i64 n] 55)) hf (Nat.le_refl _) (by simp)
      have hWz : wr.heap.size + 1 = (wr.alloc (.cells #[.slice Au r.length cu, .int .i64 n] 55)).heap.size := by simp
      generalize (wr.alloc (.cells #[.slice Au r.length cu, .int .i64 n] 55)) = W at *
      obtain ⟨B, hBe⟩ : ∃ B, W.heap.size = B := ⟨_, rfl⟩
      have hBW : B ≤ W.heap.size := by omega
      have hBW' : W.heap.size ≤ B := by omega
      obtain ⟨g0, hg0⟩ : ∃ g0, wr.heap.size = g0 := ⟨_, rfl⟩
      rw [hg0] at Lp ⊢
      clear hBe k0 k1 hb hg
      have hwW : w.heap.size ≤ W.heap.size := hb0.size
      clear hWz hg0 hz
      refine region_made (n := 24) 8 (by kernel_rfl) rfl (by kernel_rfl) (fun w' => Below W.heap.size W w') (fun i => if i = 3 then 1 else 0) (pcopyPlayers B g0 (.slice Aq done.length cq) (.slice Au r.length cu) r n) (Below.refl _ _).drew ?_ ?_ ?_
      · intro i v gh gh' w1 w2 hp hJ hb' hg
        match i, hp with
        | 0, hp => exact hp
        | 1, hp => exact hp
        | 2, hp => exact hp
        | 3, hp =>
              have hp' : OwG B (fun w S => OwL 3 cInt 1 w S v r) 1 gh w1 := hp
              exact OwG.keep hp' (fun _ h => h.below hb') hb' hg
        | 4, hp => exact hp
        | 5, hp => exact hp
        | 6, ⟨u', hv, ho⟩ => exact ⟨u', hv, OwG.keep ho (fun _ h => h.below hb') hb' hg⟩
        | 7, ⟨u', g', hv, hg', ho⟩ => exact ⟨u', g', hv, (hb'.block g' (Array.getElem?_eq_some_iff.1 hg').1).trans hg', OwG.keep ho (fun _ h => h.below hb') hb' hg⟩
        | _ + 8, _ => trivial
      · refine ⟨?_, ?_, ?_, ?_, ?_, ?_, ?_, ?_, trivial⟩
        all_goals
          intro a gh wr hag hJ hd
          obtain ⟨x0, x1, x2, x3, x4, x5, x6, x7, x8, x9, x10, x11, x12, x13, x14, x15, x16, x17, x18, x19, x20, x21, x22, x23, rfl⟩ := act24cp hag.size hag.defers
          have ag0 : x0 = .slice (some ⟨g, off, none⟩) ll.length c := hag.kept 0 (by kernel_rfl)
          have ag1 : x1 = undef := hag.kept 1 (by kernel_rfl)
          have ag2 : x2 = .slice none 0 0 := hag.kept 2 (by kernel_rfl)
          have ag3 : x3 = .slice Aq done.length cq := hag.kept 3 (by kernel_rfl)
          have ag4 : x4 = undef := hag.kept 4 (by kernel_rfl)
          have ag6 : x6 = .slice (some ⟨w.heap.size, 0, none⟩) 0 0 := hag.kept 6 (by kernel_rfl)
          have ag23 : x23 = undef := hag.kept 23 (by kernel_rfl)
          have ag5 : x5 = .pointer (some ⟨g0, 0, none⟩) := hag.kept 5 (by kernel_rfl)
          have ag7 : x7 = .slice (some ⟨g, off, none⟩) ll.length c := hag.kept 7 (by kernel_rfl)
          have ag8 : x8 = .int .i64 ll.length := hag.kept 8 (by kernel_rfl)
          have ag9 : x9 = .int .i64 k := hag.kept 9 (by kernel_rfl)
          clear hag
          subst ag0 ag1 ag2 ag3 ag4 ag6 ag23 ag5 ag7 ag8 ag9
        · go_wp2_with fail
          exact ⟨rfl, _, rfl, rfl, hJ, Below.refl _ _⟩
        · go_wp2_with fail
          exact ⟨rfl, _, rfl, rfl, hJ, Below.refl _ _⟩
        · have e1 : x14 = .pointer (some ⟨g0, 0, none⟩) := hd 1 (by kernel_rfl) _ rfl
          subst e1
          have c := ((Lp.below hJ) 0 _ rfl).1
          go_wp2_with fail
          exact ⟨rfl, _, rfl, rfl, hJ, Below.refl _ _⟩
        · have e1 : x15 = .slice Au r.length cu := hd 2 (by kernel_rfl) _ rfl
          subst e1
          go_wp2_with (go_at_call 29; refine (copyOf_any _ r _ (hru.below hJ) (by omega)).mono ?_; rintro e w1 ⟨x, rfl, own1, q1⟩)
          exact ⟨rfl, _, rfl, OwG.of_fresh (ow := (fun w S => OwL 3 cInt 1 w S x r)) (OwL.mk_ own1) (fresh_of own1) (Nat.le_trans hBW hJ.size), hJ.trans (q1.mono hJ.size), q1⟩
        · go_wp2_with fail
          exact ⟨rfl, _, rfl, rfl, hJ, Below.refl _ _⟩
        · have e1 : x17 = .pointer (some ⟨g0, 1, none⟩) := hd 4 (by kernel_rfl) _ rfl
          subst e1
          have c := ((Lp.below hJ) 1 _ rfl).1
          go_wp2_with fail
          exact ⟨rfl, _, rfl, rfl, hJ, Below.refl _ _⟩
        · have ou : OwG B (fun w S => OwL 3 cInt 1 w S x16 r) 1 gh wr := hd 3 (by kernel_rfl) _ rfl
          have e1 : x18 = .int .i64 n := hd 5 (by kernel_rfl) _ rfl
          subst e1
          obtain ⟨D, m, e2⟩ : ∃ A c, x16 = .slice A r.length c := by obtain ⟨S, h, _⟩ := ou; obtain ⟨A, c, e, _⟩ := h.rd.form; exact ⟨A, c, e⟩
          subst e2
          go_wp2_with fail
          exact ⟨rfl, _, rfl, ⟨_, rfl, OwG.same ou _⟩, hJ, Below.refl _ _⟩
        · obtain ⟨u', e1, ou⟩ : ∃ u', x19 = .agg #[u', .int .i64 n] ∧ OwG B (fun w S => OwL 3 cInt 1 w S u' r) 1 gh wr := hd 6 (by kernel_rfl) _ rfl
          obtain ⟨D, m, e2⟩ : ∃ A c, u' = .slice A r.length c := by obtain ⟨S, h, _⟩ := ou; obtain ⟨A, c, e, _⟩ := h.rd.form; exact ⟨A, c, e⟩
          subst e1 e2
          go_wp2_with fail
          exact ⟨rfl, _, rfl, ⟨_, wr.heap.size, rfl, heap_alloc_new wr _, OwG.keep ou (fun _ h => h.below ((Below.refl _ _).alloc (Nat.le_refl _) _)) ((Below.refl _ _).alloc (Nat.le_refl _) _) (fun _ hb => if_pos hb)⟩, hJ.alloc hJ.size _, (Below.refl _ _).alloc (Nat.le_refl _) _⟩
      · intro a gh wr hag hJ hd
        obtain ⟨x0, x1, x2, x3, x4, x5, x6, x7, x8, x9, x10, x11, x12, x13, x14, x15, x16, x17, x18, x19, x20, x21, x22, x23, rfl⟩ := act24cp hag.size hag.defers
        have ag0 : x0 = .slice (some ⟨g, off, none⟩) ll.length c := hag.kept 0 (by kernel_rfl)
        have ag1 : x1 = undef := hag.kept 1 (by kernel_rfl)
        have ag2 : x2 = .slice none 0 0 := hag.kept 2 (by kernel_rfl)
        have ag3 : x3 = .slice Aq done.length cq := hag.kept 3 (by kernel_rfl)
        have ag4 : x4 = undef := hag.kept 4 (by kernel_rfl)
        have ag6 : x6 = .slice (some ⟨w.heap.size, 0, none⟩) 0 0 := hag.kept 6 (by kernel_rfl)
        have ag23 : x23 = undef := hag.kept 23 (by kernel_rfl)
        have ag5 : x5 = .pointer (some ⟨g0, 0, none⟩) := hag.kept 5 (by kernel_rfl)
        have ag7 : x7 = .slice (some ⟨g, off, none⟩) ll.length c := hag.kept 7 (by kernel_rfl)
        have ag8 : x8 = .int .i64 ll.length := hag.kept 8 (by kernel_rfl)
        have ag9 : x9 = .int .i64 k := hag.kept 9 (by kernel_rfl)
        clear hag
        subst ag0 ag1 ag2 ag3 ag4 ag6 ag23 ag5 ag7 ag8 ag9
        have e1 : x13 = .slice Aq done.length cq := hd 0 (by kernel_rfl) _ rfl
        obtain ⟨u', g', e2, hg', ou⟩ : ∃ u' g', x20 = .slice (some ⟨g', 0, none⟩) 1 1 ∧ wr.heap[g']? = some (.cells #[u', .int .i64 n] 55 (0, 0)) ∧ OwG B (fun w S => OwL 3 cInt 1 w S u' r) 1 gh wr := hd 7 (by kernel_rfl) _ rfl
        clear hd
        subst e1 e2
        obtain ⟨Sk, hk1, hk2⟩ := ou.one
        replace how := how.below hJ
        obtain ⟨vs, hvl, hown, hrows, rfl⟩ := how
        have Hrows := Lib.hid hrows
        have Hvl := Lib.hid hvl
        have hown1 : wr.ownsRow w.heap.size 55 2 (.slice Aq done.length cq) done.length (vs.flatMap cPl) := by have := own_up hown (fun b hb => (fresh_mono hf (Nat.le_refl _) hJ.size).2 b (List.mem_append_left _ hb)); rwa [hvl] at this
        have hJz := hJ.size
        have hone : ∀ y ∈ [u', Value.int .i64 n], y.oneCell' = true := by obtain ⟨A1, c1, rfl, _, _⟩ := hk1.rd.form; simp [Value.oneCell']
        have Hk1 := Lib.hid hk1
        have Hk2 := Lib.hid hk2
        have Hg := Lib.hid hg'
        have Hown := Lib.hid hown1
        have Hone := Lib.hid hone
        clear hrows hvl hown hk1 hk2 hg' ou hown1 hone
        change wpList _ _ _ [_, _] _ _
        refine wpList_appendB _ rfl (.tmp 13) (.tmp 20) _ rfl w.heap.size 55 i0 _ 2 32 Tryz.underlying25 hi0 hz0 hz1 hz2 rfl (by omega) _ done.length (vs.flatMap cPl) rfl Hown.out _ 1 [u', .int .i64 n] rfl (rdS_block Hg.out 2 1 rfl (by simp [maxLen])) Hone.out (by simp [maxLen]; omega) (by omega) (by omega) ?_
        intro v3 w3 own3 gr3 at3
        have hsn := pls_snoc (B := w.heap.size) (ll := done) (Hvl.out) Hrows.out (fresh_mono hf (Nat.le_refl _) hJz) Hk1.out (fresh_mono Hk2.out (by omega) (Nat.le_refl _)) (fun b hb hb' => by have := hf.2 b hb; have := Hk2.out.2 b hb'; omega) (by rw [Hvl.out]; exact own3) gr3 at3
        have hb3 := below_own Hown.out gr3 (by omega)
        have hbW : Below w.heap.size w w3 := (hb0.trans (hJ.mono (by omega))).trans hb3
        have Hsn := Lib.hid hsn
        clear hsn own3 gr3 at3 hb3 Hown Hrows Hvl Hk1 Hk2 Hg
        go_wp2_with fail
        go_roundw
        case rel => exact ⟨k + 1, _, by omega, by go_num, by rw [Htk.out]; exact Hsn.out.1, Hsn.out.2, hbW⟩
        case measure => simp [intOf]; omega
    · go_wp2_with fail
      go_ret
      rw [List.take_of_length_le (by omega)] at how
      exact ⟨_, _, rfl, how, hf, hb⟩
theorem act29l17 {a : Act} (h : a.tmps.size = 29) (hd : a.defers = []) : ∃ x0 x1 x2 x3 x4 x5 x6 x7 x8 x9 x10 x11 x12 x13 x14 x15 x16 x17 x18 x19 x20 x21 x22 x23 x24 x25 x26 x27 x28 : Value, a = ⟨#[x0, x1, x2, x3, x4, x5, x6, x7, x8, x9, x10, x11, x12, x13, x14, x15, x16, x17, x18, x19, x20, x21, x22, x23, x24, x25, x26, x27, x28], []⟩ := by
  obtain ⟨⟨l⟩, d⟩ := a
  subst hd
  match l, h with
  | [x0, x1, x2, x3, x4, x5, x6, x7, x8, x9, x10, x11, x12, x13, x14, x15, x16, x17, x18, x19, x20, x21, x22, x23, x24, x25, x26, x27, x28], _ => exact ⟨x0, x1, x2, x3, x4, x5, x6, x7, x8, x9, x10, x11, x12, x13, x14, x15, x16, x17, x18, x19, x20, x21, x22, x23, x24, x25, x26, x27, x28, rfl⟩
def pl17Copy (B g o : Nat) (ki : Int) (q us ls : Value) (r : List Int) (n : Int) (i : Nat) (v : Value) (gh : Nat → Nat) (w : World) : Prop :=
  match i with
  | 0 => v = q
  | 1 => ∃ g, v = .slice (some ⟨g, 0, none⟩) 0 0 ∧ OwnC B 3 1 v 0 [] 1 gh w
  | 2 => v = ls
  | 3 => v = .int .i64 ki
  | 4 => v = .pointer (some ⟨g, o, none⟩)
  | 5 => v = .pointer (some ⟨g, o, none⟩)
  | 6 => v = us
  | 7 => OwG B (fun w S => OwL 3 cInt 1 w S v r) 1 gh w
  | 8 => v = ls
  | 9 => v = .int .i64 ki
  | 10 => v = .pointer (some ⟨g, o, none⟩)
  | 11 => v = .pointer (some ⟨g, o + 1, none⟩)
  | 12 => v = .int .i64 n
  | 13 => ∃ u', v = .agg #[u', .int .i64 n] ∧ OwG B (fun w S => OwL 3 cInt 1 w S u' r) 1 gh w
  | 14 => ∃ u' g', v = .slice (some ⟨g', 0, none⟩) 1 1 ∧ w.heap[g']? = some (.cells #[u', .int .i64 n] 55 (0, 0)) ∧ OwG B (fun w S => OwL 3 cInt 1 w S u' r) 1 gh w
  | _ => True
set_option maxHeartbeats 8000000 in
set_option maxRecDepth 100000 in
theorem l17Copy_any (v : Value) (ll : List RPl) (w : World) (h : RdPls w v ll) (hl : plsTot ll ≤ 1048576) :
    Calls Tryz.prog 119 #[v] w fun e w' => ∃ v' S, e = .returned v' ∧ OwPls w' S v' ll ∧ Fresh w.heap.size w' S ∧ Below w.heap.size w w' := by
  obtain ⟨A, c, rfl, h1, h2⟩ := h.form
  have hll : ll.length ≤ 1048576 := by unfold plsTot at hl; omega
  obtain ⟨i0, hi0, hz0, hz1, hz2⟩ := info_parts infoPlayer
  obtain ⟨iI, hiI, hzI0, hzI1, hzI2⟩ := info_parts infoInt
  go_enter Tryz.func119, Tryz.ntmps119
  go_wp2_with fail
  have hst := pls_start w w.heap.size (Nat.le_refl _)
  go_loopw [3, 4] (fun q i wr => ∃ (k : Nat) (S : List Nat), k ≤ ll.length ∧ i = .int .i64 k ∧ OwPls wr S q (ll.take k) ∧ Fresh w.heap.size wr S ∧ Below w.heap.size w wr) (fun _ i _ => ll.length - (intOf i).toNat)
  case atStart => exact ⟨0, _, Nat.zero_le _, rfl, hst.1, hst.2, by (repeat' (first | exact Below.refl _ _ | refine qS ?_ _ | refine qA ?_ _ | refine qD ?_ | refine qN ?_ _ | refine qT ?_ (by assumption)))⟩
  case round =>
    clear hst
    obtain ⟨k, S, hk, rfl, how, hf, hb⟩ := hrel
    have hz := hb.size
    by_cases hlt : k < ll.length
    · have hlk : ll[k].1.length ≤ 1048576 := by have := plsTo_le hlt; rw [plsCnt_tot] at this; omega
      obtain ⟨g, off, u, rfl, hg, k0, k1, hru⟩ := (h.below hb).cell hlt
      obtain ⟨Au, cu, rfl, _, _⟩ := hru.form
      obtain ⟨Aq, cq, rfl, _, _⟩ := how.rd.form
      have Htk := Lib.hid (pls_take hlt)
      have hlen : (ll.take k).length = k := by rw [List.length_take]; omega
      have Hlen := Lib.hid hlen
      have hlen1 : (ll.take k).length ≤ 1048576 := by omega
      generalize hr : ll[k].1 = r at *
      generalize hn : ll[k].2 = n at *
      generalize ll.take k = done at *
      clear hr hn hlen
      go_upto_region 5 with (fail)
      obtain ⟨W, rfl⟩ : ∃ W, W = wr := ⟨_, rfl⟩
      have hb0 := hb
      have hwW : w.heap.size ≤ W.heap.size := hb0.size
      obtain ⟨B, hBe⟩ : ∃ B, W.heap.size = B := ⟨_, rfl⟩
      have hBW : B ≤ W.heap.size := by omega
      have hBW' : W.heap.size ≤ B := by omega
      clear hBe hb hg hz
      refine region_made (n := 29) 15 (by kernel_rfl) rfl (by kernel_rfl) (fun w' => Below W.heap.size W w') (fun i => if i = 1 then 1 else if i = 7 then 1 else 0) (pl17Copy B g (off + k * 2) k (.slice Aq done.length cq) (.slice Au r.length cu) (.slice (some ⟨g, off, none⟩) ll.length c) r n) (Below.refl _ _).drew ?_ ?_ ?_
      · intro i v gh gh' w1 w2 hp hJ hb' hg
        match i, hp with
        | 0, hp => exact hp
        | 1, ⟨g, hv, ho⟩ => exact ⟨g, hv, OwnC.keep ho hb' hg⟩
        | 2, hp => exact hp
        | 3, hp => exact hp
        | 4, hp => exact hp
        | 5, hp => exact hp
        | 6, hp => exact hp
        | 7, hp =>
              have hp' : OwG B (fun w S => OwL 3 cInt 1 w S v r) 1 gh w1 := hp
              exact OwG.keep hp' (fun _ h => h.below hb') hb' hg
        | 8, hp => exact hp
        | 9, hp => exact hp
        | 10, hp => exact hp
        | 11, hp => exact hp
        | 12, hp => exact hp
        | 13, ⟨u', hv, ho⟩ => exact ⟨u', hv, OwG.keep ho (fun _ h => h.below hb') hb' hg⟩
        | 14, ⟨u', g', hv, hg', ho⟩ => exact ⟨u', g', hv, (hb'.block g' (Array.getElem?_eq_some_iff.1 hg').1).trans hg', OwG.keep ho (fun _ h => h.below hb') hb' hg⟩
        | _ + 15, _ => trivial
      · refine ⟨?_, ?_, ?_, ?_, ?_, ?_, ?_, ?_, ?_, ?_, ?_, ?_, ?_, ?_, ?_, trivial⟩
        all_goals
          intro a gh wr hag hJ hd
          obtain ⟨x0, x1, x2, x3, x4, x5, x6, x7, x8, x9, x10, x11, x12, x13, x14, x15, x16, x17, x18, x19, x20, x21, x22, x23, x24, x25, x26, x27, x28, rfl⟩ := act29l17 hag.size hag.defers
          have ag0 : x0 = .slice (some ⟨g, off, none⟩) ll.length c := hag.kept 0 (by kernel_rfl)
          have ag1 : x1 = undef := hag.kept 1 (by kernel_rfl)
          have ag2 : x2 = .slice none 0 0 := hag.kept 2 (by kernel_rfl)
          have ag3 : x3 = .slice Aq done.length cq := hag.kept 3 (by kernel_rfl)
          have ag4 : x4 = .int .i64 k := hag.kept 4 (by kernel_rfl)
          have ag5 : x5 = .slice (some ⟨w.heap.size, 0, none⟩) 0 0 := hag.kept 5 (by kernel_rfl)
          have ag28 : x28 = undef := hag.kept 28 (by kernel_rfl)
          clear hag
          subst ag0 ag1 ag2 ag3 ag4 ag5 ag28
        · go_wp2_with fail
          exact ⟨rfl, _, rfl, rfl, hJ, Below.refl _ _⟩
        · go_wp2_with fail
          exact ⟨rfl, _, rfl, ⟨wr.heap.size, rfl, World.ownsRow_made (size := 1) (e := 3) wr #[] 0 (Nat.le_trans hBW hJ.size) (by simp [maxLen]) rfl, fun b hb => if_neg (by simp [Value.ownBlock] at hb; omega)⟩, hJ.alloc hJ.size _, (Below.refl _ _).alloc (Nat.le_refl _) _⟩
        · go_wp2_with fail
          exact ⟨rfl, _, rfl, rfl, hJ, Below.refl _ _⟩
        · go_wp2_with fail
          exact ⟨rfl, _, rfl, rfl, hJ, Below.refl _ _⟩
        · have e1 : x14 = .slice (some ⟨g, off, none⟩) ll.length c := hd 2 (by kernel_rfl) _ rfl
          have e2 : x15 = .int .i64 k := hd 3 (by kernel_rfl) _ rfl
          subst e1 e2
          go_wp2_with fail
          exact ⟨rfl, _, rfl, rfl, hJ, Below.refl _ _⟩
        · have e1 : x16 = .pointer (some ⟨g, off + k * 2, none⟩) := hd 4 (by kernel_rfl) _ rfl
          subst e1
          go_wp2_with fail
          exact ⟨rfl, _, rfl, rfl, hJ, Below.refl _ _⟩
        · have e1 : x17 = .pointer (some ⟨g, off + k * 2, none⟩) := hd 5 (by kernel_rfl) _ rfl
          subst e1
          have c0 := carry hJ k0
          go_wp2_with fail
          exact ⟨rfl, _, rfl, rfl, hJ, Below.refl _ _⟩
        · obtain ⟨g1, e1, og⟩ : ∃ g, x13 = .slice (some ⟨g, 0, none⟩) 0 0 ∧ OwnC B 3 1 x13 0 [] 1 gh wr := hd 1 (by kernel_rfl) _ rfl
          have e2 : x18 = .slice Au r.length cu := hd 6 (by kernel_rfl) _ rfl
          subst e1 e2
          go_wp2_with (at_builtin; refine wpList_append_empty _ rfl (.tmp 13) (.tmp 18) _ rfl B 3 iI _ 1 8 Tryz.underlying28 hiI hzI0 hzI1 hzI2 rfl (by omega) g1 rfl og.1 _ r.length (r.flatMap cInt) rfl (hru.below hJ) (oneCell_flat cInt_one r) (by simp [maxLen]; omega) (by omega) (Nat.le_trans hBW hJ.size) ?_; intro v3 w3 own3 b3 at3)
          exact ⟨rfl, _, rfl, OwG.of_append own3 b3 at3 og, hJ.trans (b3.mono hJ.size), b3⟩
        · go_wp2_with fail
          exact ⟨rfl, _, rfl, rfl, hJ, Below.refl _ _⟩
        · go_wp2_with fail
          exact ⟨rfl, _, rfl, rfl, hJ, Below.refl _ _⟩
        · have e1 : x20 = .slice (some ⟨g, off, none⟩) ll.length c := hd 8 (by kernel_rfl) _ rfl
          have e2 : x21 = .int .i64 k := hd 9 (by kernel_rfl) _ rfl
          subst e1 e2
          go_wp2_with fail
          exact ⟨rfl, _, rfl, rfl, hJ, Below.refl _ _⟩
        · have e1 : x22 = .pointer (some ⟨g, off + k * 2, none⟩) := hd 10 (by kernel_rfl) _ rfl
          subst e1
          go_wp2_with fail
          exact ⟨rfl, _, rfl, rfl, hJ, Below.refl _ _⟩
        · have e1 : x23 = .pointer (some ⟨g, off + k * 2 + 1, none⟩) := hd 11 (by kernel_rfl) _ rfl
          subst e1
          have c0 := carry hJ k1
          go_wp2_with fail
          exact ⟨rfl, _, rfl, rfl, hJ, Below.refl _ _⟩
        · have ou : OwG B (fun w S => OwL 3 cInt 1 w S x19 r) 1 gh wr := hd 7 (by kernel_rfl) _ rfl
          have e1 : x24 = .int .i64 n := hd 12 (by kernel_rfl) _ rfl
          subst e1
          obtain ⟨D, m, e2⟩ : ∃ A c, x19 = .slice A r.length c := by obtain ⟨S, h, _⟩ := ou; obtain ⟨A, c, e, _⟩ := h.rd.form; exact ⟨A, c, e⟩
          subst e2
          go_wp2_with fail
          exact ⟨rfl, _, rfl, ⟨_, rfl, OwG.same ou _⟩, hJ, Below.refl _ _⟩
        · obtain ⟨u', e1, ou⟩ : ∃ u', x25 = .agg #[u', .int .i64 n] ∧ OwG B (fun w S => OwL 3 cInt 1 w S u' r) 1 gh wr := hd 13 (by kernel_rfl) _ rfl
          obtain ⟨D, m, e2⟩ : ∃ A c, u' = .slice A r.length c := by obtain ⟨S, h, _⟩ := ou; obtain ⟨A, c, e, _⟩ := h.rd.form; exact ⟨A, c, e⟩
          subst e1 e2
          go_wp2_with fail
          exact ⟨rfl, _, rfl, ⟨_, wr.heap.size, rfl, heap_alloc_new wr _, OwG.keep ou (fun _ h => h.below ((Below.refl _ _).alloc (Nat.le_refl _) _)) ((Below.refl _ _).alloc (Nat.le_refl _) _) (fun _ hb => if_pos hb)⟩, hJ.alloc hJ.size _, (Below.refl _ _).alloc (Nat.le_refl _) _⟩
      · intro a gh wr hag hJ hd
        obtain ⟨x0, x1, x2, x3, x4, x5, x6, x7, x8, x9, x10, x11, x12, x13, x14, x15, x16, x17, x18, x19, x20, x21, x22, x23, x24, x25, x26, x27, x28, rfl⟩ := act29l17 hag.size hag.defers
        have ag0 : x0 = .slice (some ⟨g, off, none⟩) ll.length c := hag.kept 0 (by kernel_rfl)
        have ag1 : x1 = undef := hag.kept 1 (by kernel_rfl)
        have ag2 : x2 = .slice none 0 0 := hag.kept 2 (by kernel_rfl)
        have ag3 : x3 = .slice Aq done.length cq := hag.kept 3 (by kernel_rfl)
        have ag4 : x4 = .int .i64 k := hag.kept 4 (by kernel_rfl)
        have ag5 : x5 = .slice (some ⟨w.heap.size, 0, none⟩) 0 0 := hag.kept 5 (by kernel_rfl)
        have ag28 : x28 = undef := hag.kept 28 (by kernel_rfl)
        clear hag
        subst ag0 ag1 ag2 ag3 ag4 ag5 ag28
        have e1 : x12 = .slice Aq done.length cq := hd 0 (by kernel_rfl) _ rfl
        obtain ⟨u', g', e2, hg', ou⟩ : ∃ u' g', x26 = .slice (some ⟨g', 0, none⟩) 1 1 ∧ wr.heap[g']? = some (.cells #[u', .int .i64 n] 55 (0, 0)) ∧ OwG B (fun w S => OwL 3 cInt 1 w S u' r) 1 gh wr := hd 14 (by kernel_rfl) _ rfl
        clear hd
        subst e1 e2
        obtain ⟨Sk, hk1, hk2⟩ := ou.one
        replace how := how.below hJ
        obtain ⟨vs, hvl, hown, hrows, rfl⟩ := how
        have Hrows := Lib.hid hrows
        have Hvl := Lib.hid hvl
        have hown1 : wr.ownsRow w.heap.size 55 2 (.slice Aq done.length cq) done.length (vs.flatMap cPl) := by have := own_up hown (fun b hb => (fresh_mono hf (Nat.le_refl _) hJ.size).2 b (List.mem_append_left _ hb)); rwa [hvl] at this
        have hJz := hJ.size
        have hone : ∀ y ∈ [u', Value.int .i64 n], y.oneCell' = true := by obtain ⟨A1, c1, rfl, _, _⟩ := hk1.rd.form; simp [Value.oneCell']
        have Hk1 := Lib.hid hk1
        have Hk2 := Lib.hid hk2
        have Hg := Lib.hid hg'
        have Hown := Lib.hid hown1
        have Hone := Lib.hid hone
        clear hrows hvl hown hk1 hk2 hg' ou hown1 hone
        change wpList _ _ _ [_, _] _ _
        refine wpList_appendB _ rfl (.tmp 12) (.tmp 26) _ rfl w.heap.size 55 i0 _ 2 32 Tryz.underlying25 hi0 hz0 hz1 hz2 rfl (by omega) _ done.length (vs.flatMap cPl) rfl Hown.out _ 1 [u', .int .i64 n] rfl (rdS_block Hg.out 2 1 rfl (by simp [maxLen])) Hone.out (by simp [maxLen]; omega) (by omega) (by omega) ?_
        intro v3 w3 own3 gr3 at3
        have hsn := pls_snoc (B := w.heap.size) (ll := done) (Hvl.out) Hrows.out (fresh_mono hf (Nat.le_refl _) hJz) Hk1.out (fresh_mono Hk2.out (by omega) (Nat.le_refl _)) (fun b hb hb' => by have := hf.2 b hb; have := Hk2.out.2 b hb'; omega) (by rw [Hvl.out]; exact own3) gr3 at3
        have hb3 := below_own Hown.out gr3 (by omega)
        have hbW : Below w.heap.size w w3 := (hb0.trans (hJ.mono (by omega))).trans hb3
        have Hsn := Lib.hid hsn
        clear hsn own3 gr3 at3 hb3 Hown Hrows Hvl Hk1 Hk2 Hg
        go_wp2_with fail
        go_roundw
        case rel => exact ⟨k + 1, _, by omega, by go_num, by rw [Htk.out]; exact Hsn.out.1, Hsn.out.2, hbW⟩
        case measure => simp [intOf]; omega
    · go_wp2_with fail
      go_ret
      rw [List.take_of_length_le (by omega)] at how
      exact ⟨_, _, rfl, how, hf, hb⟩
open Go.RowKit
theorem cCross_one (a : RCross) : ∀ y ∈ cCross a, y.oneCell' = true := by intro y hy; simp [cCross] at hy; rcases hy with rfl | rfl <;> rfl
theorem act13Company {a : Act} (h : a.tmps.size = 13) (hd : a.defers = []) : ∃ x0 x1 x2 x3 x4 x5 x6 x7 x8 x9 x10 x11 x12 : Value, a = ⟨#[x0, x1, x2, x3, x4, x5, x6, x7, x8, x9, x10, x11, x12], []⟩ := by
 obtain ⟨⟨l⟩, d⟩ := a
 subst hd
 match l, h with
 | [x0, x1, x2, x3, x4, x5, x6, x7, x8, x9, x10, x11, x12], _ => exact ⟨x0, x1, x2, x3, x4, x5, x6, x7, x8, x9, x10, x11, x12, rfl⟩
def pcompanyCopied (b0 B : Nat) (a0 : Int) (y1 y2 : Value) (d1 : List RCross) (d2 : List RPl) (i : Nat) (v : Value) (gh : Nat → Nat) (w : World) : Prop :=
 match i with
 | 0 => v = .pointer (some ⟨b0, 0, none⟩)
 | 1 => v = .int .i64 a0
 | 2 => ∃ g, v = .slice (some ⟨g, 0, none⟩) 0 0 ∧ OwnC B 79 2 v 0 [] 1 gh w
 | 3 => v = .pointer (some ⟨b0, 1, none⟩)
 | 4 => v = y1
 | 5 => OwG B (fun w S => OwL 79 cCross 2 w S v d1) 1 gh w
 | 6 => v = .pointer (some ⟨b0, 2, none⟩)
 | 7 => v = y2
 | 8 => OwG B (fun w S => OwPls w S v d2) 2 gh w
 | 9 => ∃ z5 z8, v = .agg #[.int .i64 a0, z5, z8] ∧ OwG B (fun w S => OwL 79 cCross 2 w S z5 d1) 1 gh w ∧ OwG B (fun w S => OwPls w S z8 d2) 2 gh w
 | _ => True
set_option maxHeartbeats 4000000 in
set_option maxRecDepth 100000 in
theorem companyCopied_any (a0 : Int) (v1 v2 : Value) (d1 : List RCross) (d2 : List RPl) (w : World) (h : RdCompany w v1 v2 d1 d2) (hl : szCompany d1 d2 ≤ 1048576) :
  Calls Tryz.prog 28 #[.agg #[.int .i64 a0, v1, v2]] w (ToCompany a0 d1 d2 w) := by
 obtain ⟨⟨A1, n1, rfl⟩, ⟨A2, n2, rfl⟩⟩ := h.forms
 obtain ⟨hd1, hd2⟩ := h
 unfold szCompany at hl
 obtain ⟨iCross, hiCross, hzCross0, hzCross1, hzCross2⟩ := info_parts infoCross
 go_enter Tryz.func28, Tryz.ntmps28
 go_wp2_with fail
 have La : Loc ((w.alloc (.cells #[.int .i64 a0, .slice A1 d1.length n1, .slice A2 d2.length n2] 27)).alloc (.cells #[.int .i64 0, .slice none 0 0, .slice none 0 0] 27)) w.heap.size [.int .i64 a0, .slice A1 d1.length n1, .slice A2 d2.length n2] := (Loc.new w #[.int .i64 a0, .slice A1 d1.length n1, .slice A2 d2.length n2] 27).alloc _
 have Lr : Loc ((w.alloc (.cells #[.int .i64 a0, .slice A1 d1.length n1, .slice A2 d2.length n2] 27)).alloc (.cells #[.int .i64 0, .slice none 0 0, .slice none 0 0] 27)) (w.heap.size + 1) [.int .i64 0, .slice none 0 0, .slice none 0 0] := by
  have := Loc.new (w.alloc (.cells #[.int .i64 a0, .slice A1 d1.length n1, .slice A2 d2.length n2] 27)) #[.int .i64 0, .slice none 0 0, .slice none 0 0] 27
  simpa using this
 have hb : Below w.heap.size w ((w.alloc (.cells #[.int .i64 a0, .slice A1 d1.length n1, .slice A2 d2.length n2] 27)).alloc (.cells #[.int .i64 0, .slice none 0 0, .slice none 0 0] 27)) := by (repeat' (with_reducible first | exact Below.refl _ _ | assumption | refine qS ?_ _ | refine qA ?_ _ | refine qD ?_ | refine qN ?_ _))
 have hz : ((w.alloc (.cells #[.int .i64 a0, .slice A1 d1.length n1, .slice A2 d2.length n2] 27)).alloc (.cells #[.int .i64 0, .slice none 0 0, .slice none 0 0] 27)).heap.size = w.heap.size + 1 + 1 := by simp
 generalize (w.alloc (.cells #[.int .i64 a0, .slice A1 d1.length n1, .slice A2 d2.length n2] 27)).alloc (.cells #[.int .i64 0, .slice none 0 0, .slice none 0 0] 27) = W at *
 have hzW : w.heap.size + 1 + 1 ≤ W.heap.size := by omega
 have hzW' : W.heap.size ≤ w.heap.size + 1 + 1 := by omega
 clear hz
 replace hd1 := hd1.below hb
 replace hd2 := hd2.below hb
 refine region_made (n := 13) 10 (by kernel_rfl) rfl (by kernel_rfl) (fun w' => Below W.heap.size W w') (fun i => if i = 2 then 1 else if i = 5 then 1 else if i = 8 then 2 else 0) (pcompanyCopied w.heap.size (w.heap.size + 1 + 1) a0 (.slice A1 d1.length n1) (.slice A2 d2.length n2) d1 d2) (Below.refl _ _).drew ?_ ?_ ?_
 ·intro i v gh gh' w1 w2 hp hJ hb' hg
  match i, hp with
  | 0, hp => exact hp
  | 1, hp => exact hp
  | 2, ⟨g, hv, ho⟩ => exact ⟨g, hv, OwnC.keep ho hb' hg⟩
  | 3, hp => exact hp
  | 4, hp => exact hp
  | 5, hp =>
   have hp' : OwG (w.heap.size + 1 + 1) (fun w S => OwL 79 cCross 2 w S v d1) 1 gh w1 := hp
   exact OwG.keep hp' (fun _ h => h.below hb') hb' hg
  | 6, hp => exact hp
  | 7, hp => exact hp
  | 8, hp =>
   have hp' : OwG (w.heap.size + 1 + 1) (fun w S => OwPls w S v d2) 2 gh w1 := hp
   exact OwG.keep hp' (fun _ h => h.below hb') hb' hg
  | 9, ⟨z5, z8, hv, o0, o1⟩ => exact ⟨z5, z8, hv, OwG.keep o0 (fun _ h => h.below hb') hb' hg, OwG.keep o1 (fun _ h => h.below hb') hb' hg⟩
  | _ + 10, _ => trivial
 ·refine ⟨?_, ?_, ?_, ?_, ?_, ?_, ?_, ?_, ?_, ?_, trivial⟩
  all_goals
   intro a gh wr hag hJ hd
   obtain ⟨x0, x1, x2, x3, x4, x5, x6, x7, x8, x9, x10, x11, x12, rfl⟩ := act13Company hag.size hag.defers
   have ag1 : x1 = .pointer (some ⟨w.heap.size, 0, none⟩) := hag.kept 1 (by kernel_rfl)
   clear hag
   subst ag1
  ·go_wp2_with fail
   exact ⟨rfl, _, rfl, rfl, hJ, Below.refl _ _⟩
  ·have e1 : x3 = .pointer (some ⟨w.heap.size, 0, none⟩) := hd 0 (by kernel_rfl) _ rfl
   subst e1
   have c0 := ((La.below hJ) 0 _ rfl).1
   go_wp2_with fail
   exact ⟨rfl, _, rfl, rfl, hJ, Below.refl _ _⟩
  ·go_wp2_with fail
   exact ⟨rfl, _, rfl, ⟨wr.heap.size, rfl, World.ownsRow_made (size := 2) (e := 79) wr #[] 0 (Nat.le_trans hzW hJ.size) (by simp [maxLen]) rfl, fun b hb => if_neg (by simp [Value.ownBlock] at hb; omega)⟩, hJ.alloc hJ.size _, (Below.refl _ _).alloc (Nat.le_refl _) _⟩
  ·go_wp2_with fail
   exact ⟨rfl, _, rfl, rfl, hJ, Below.refl _ _⟩
  ·have e1 : x6 = .pointer (some ⟨w.heap.size, 1, none⟩) := hd 3 (by kernel_rfl) _ rfl
   subst e1
   have c1 := ((La.below hJ) 1 _ rfl).1
   go_wp2_with fail
   exact ⟨rfl, _, rfl, rfl, hJ, Below.refl _ _⟩
  ·obtain ⟨g, e1, og⟩ : ∃ g, x5 = .slice (some ⟨g, 0, none⟩) 0 0 ∧ OwnC (w.heap.size + 1 + 1) 79 2 x5 0 [] 1 gh wr := hd 2 (by kernel_rfl) _ rfl
   have e2 : x7 = .slice A1 d1.length n1 := hd 4 (by kernel_rfl) _ rfl
   subst e1 e2
   go_wp2_with (at_builtin; refine wpList_append_empty _ rfl (.tmp 5) (.tmp 7) _ rfl (w.heap.size + 1 + 1) 79 iCross _ 2 16 Tryz.underlying24 hiCross hzCross0 hzCross1 hzCross2 rfl (by omega) g rfl og.1 _ d1.length (d1.flatMap cCross) rfl (hd1.below hJ) (oneCell_flat cCross_one d1) (by simp [maxLen]; omega) (by omega) (Nat.le_trans hzW hJ.size) ?_; intro v3 w3 own3 b3 at3)
   exact ⟨rfl, _, rfl, OwG.of_append own3 b3 at3 og, hJ.trans (b3.mono hJ.size), b3⟩
  ·go_wp2_with fail
   exact ⟨rfl, _, rfl, rfl, hJ, Below.refl _ _⟩
  ·have e1 : x9 = .pointer (some ⟨w.heap.size, 2, none⟩) := hd 6 (by kernel_rfl) _ rfl
   subst e1
   have c2 := ((La.below hJ) 2 _ rfl).1
   go_wp2_with fail
   exact ⟨rfl, _, rfl, rfl, hJ, Below.refl _ _⟩
  ·have e1 : x10 = .slice A2 d2.length n2 := hd 7 (by kernel_rfl) _ rfl
   subst e1
   go_wp2_with (go_at_call 53; refine (copyPlayers_any _ d2 _ (hd2.below hJ) (by omega)).mono ?_; rintro e w1 ⟨x, S, rfl, own1, f1, q1⟩)
   exact ⟨rfl, _, rfl, OwG.of_fresh (ow := (fun w S => OwPls w S x d2)) own1 f1 (Nat.le_trans hzW hJ.size), hJ.trans (q1.mono hJ.size), q1⟩
  ·skip
   have e4 : x4 = .int .i64 a0 := hd 1 (by kernel_rfl) _ rfl
   have q8 : OwG (w.heap.size + 1 + 1) (fun w S => OwL 79 cCross 2 w S x8 d1) 1 gh wr := hd 5 (by kernel_rfl) _ rfl
   obtain ⟨D8, m8, e8⟩ : ∃ A c, x8 = .slice A d1.length c := by obtain ⟨S, h, _⟩ := q8; obtain ⟨A, c, e, _⟩ := h.rd.form; exact ⟨A, c, e⟩
   have q11 : OwG (w.heap.size + 1 + 1) (fun w S => OwPls w S x11 d2) 2 gh wr := hd 8 (by kernel_rfl) _ rfl
   obtain ⟨D11, m11, e11⟩ : ∃ A c, x11 = .slice A d2.length c := by obtain ⟨S, h, _⟩ := q11; obtain ⟨A, c, e, _⟩ := h.rd.form; exact ⟨A, c, e⟩
   subst e4 e8 e11
   go_wp2_with fail
   exact ⟨rfl, _, rfl, ⟨_, _, rfl, OwG.same q8 _, OwG.same q11 _⟩, hJ, Below.refl _ _⟩
 ·intro a gh wr hag hJ hd
  obtain ⟨x0, x1, x2, x3, x4, x5, x6, x7, x8, x9, x10, x11, x12, rfl⟩ := act13Company hag.size hag.defers
  have ag2 : x2 = .pointer (some ⟨w.heap.size + 1, 0, none⟩) := hag.kept 2 (by kernel_rfl)
  subst ag2
  obtain ⟨z5, z8, e1, q0, q1⟩ : ∃ z5 z8, x12 = .agg #[.int .i64 a0, z5, z8] ∧ OwG (w.heap.size + 1 + 1) (fun w S => OwL 79 cCross 2 w S z5 d1) 1 gh wr ∧ OwG (w.heap.size + 1 + 1) (fun w S => OwPls w S z8 d2) 2 gh wr := hd 9 (by kernel_rfl) _ rfl
  obtain ⟨Dz5, mz5, rfl⟩ : ∃ A c, z5 = .slice A d1.length c := by obtain ⟨S, h, _⟩ := q0; obtain ⟨A, c, e, _⟩ := h.rd.form; exact ⟨A, c, e⟩
  obtain ⟨Dz8, mz8, rfl⟩ : ∃ A c, z8 = .slice A d2.length c := by obtain ⟨S, h, _⟩ := q1; obtain ⟨A, c, e, _⟩ := h.rd.form; exact ⟨A, c, e⟩
  subst e1
  have Lq := Lr.below hJ
  have r0 := (Lq 0 _ rfl).1
  have p0 := (Lq 0 _ rfl).2
  have r1 := (Lq 1 _ rfl).1
  have p1 := (Lq 1 _ rfl).2
  have r2 := (Lq 2 _ rfl).1
  have p2 := (Lq 2 _ rfl).2
  clear hd La Lr Lq
  have hz := hJ.size
  have hset : Chg [w.heap.size + 1] wr (((wr.setCell ⟨w.heap.size + 1, 0, none⟩ (.int .i64 a0)).setCell ⟨w.heap.size + 1, 1, none⟩ (.slice Dz5 d1.length mz5)).setCell ⟨w.heap.size + 1, 2, none⟩ (.slice Dz8 d2.length mz8)) := by repeat' (with_reducible first | exact Chg.refl _ _ | refine qC ?_)
  have Gq0 := Lib.hid (OwG.chg q0 hset (by simp) (fun S h hn => h.chg hset hn))
  clear q0
  have Gq1 := Lib.hid (OwG.chg q1 hset (by simp) (fun S h hn => h.chg hset hn))
  clear q1
  go_wp2_with fail
  obtain ⟨S1, S2, t1, t2, hf⟩ := OwG.two Gq0.out Gq1.out (by decide)
  refine bodyPost_ret (v := .agg #[.int .i64 a0, .slice Dz5 d1.length mz5, .slice Dz8 d2.length mz8]) (by simp [results, Tryz.results28, go_sem, *]) rfl ⟨.slice Dz5 d1.length mz5, .slice Dz8 d2.length mz8, (S1 ++ S2), rfl, ⟨S1, S2, rfl, t1, t2⟩, fresh_mono hf (by omega) (Nat.le_refl _), ?_⟩
  exact Below.chg (hb.trans (hJ.mono (by omega))) hset (by omega) (by simp)
def pl37Copy (b0 B : Nat) (a0 : Int) (y1 y2 : Value) (d1 : List RCross) (d2 : List RPl) (i : Nat) (v : Value) (gh : Nat → Nat) (w : World) : Prop :=
 match i with
 | 0 => v = .pointer (some ⟨b0, 0, none⟩)
 | 1 => v = .int .i64 a0
 | 2 => ∃ g, v = .slice (some ⟨g, 0, none⟩) 0 0 ∧ OwnC B 79 2 v 0 [] 1 gh w
 | 3 => v = .pointer (some ⟨b0, 1, none⟩)
 | 4 => v = y1
 | 5 => OwG B (fun w S => OwL 79 cCross 2 w S v d1) 1 gh w
 | 6 => v = .pointer (some ⟨b0, 2, none⟩)
 | 7 => v = y2
 | 8 => OwG B (fun w S => OwPls w S v d2) 2 gh w
 | 9 => ∃ z5 z8, v = .agg #[.int .i64 a0, z5, z8] ∧ OwG B (fun w S => OwL 79 cCross 2 w S z5 d1) 1 gh w ∧ OwG B (fun w S => OwPls w S z8 d2) 2 gh w
 | _ => True
set_option maxHeartbeats 4000000 in
set_option maxRecDepth 100000 in
theorem l37Copy_any (a0 : Int) (v1 v2 : Value) (d1 : List RCross) (d2 : List RPl) (w : World) (h : RdCompany w v1 v2 d1 d2) (hl : szCompany d1 d2 ≤ 1048576) :
  Calls Tryz.prog 97 #[.agg #[.int .i64 a0, v1, v2]] w (ToCompany a0 d1 d2 w) := by
 obtain ⟨⟨A1, n1, rfl⟩, ⟨A2, n2, rfl⟩⟩ := h.forms
 obtain ⟨hd1, hd2⟩ := h
 unfold szCompany at hl
 obtain ⟨iCross, hiCross, hzCross0, hzCross1, hzCross2⟩ := info_parts infoCross
 go_enter Tryz.func97, Tryz.ntmps97
 go_wp2_with fail
 have La : Loc ((w.alloc (.cells #[.int .i64 a0, .slice A1 d1.length n1, .slice A2 d2.length n2] 27)).alloc (.cells #[.int .i64 0, .slice none 0 0, .slice none 0 0] 27)) w.heap.size [.int .i64 a0, .slice A1 d1.length n1, .slice A2 d2.length n2] := (Loc.new w #[.int .i64 a0, .slice A1 d1.length n1, .slice A2 d2.length n2] 27).alloc _
 have Lr : Loc ((w.alloc (.cells #[.int .i64 a0, .slice A1 d1.length n1, .slice A2 d2.length n2] 27)).alloc (.cells #[.int .i64 0, .slice none 0 0, .slice none 0 0] 27)) (w.heap.size + 1) [.int .i64 0, .slice none 0 0, .slice none 0 0] := by
  have := Loc.new (w.alloc (.cells #[.int .i64 a0, .slice A1 d1.length n1, .slice A2 d2.length n2] 27)) #[.int .i64 0, .slice none 0 0, .slice none 0 0] 27
  simpa using this
 have hb : Below w.heap.size w ((w.alloc (.cells #[.int .i64 a0, .slice A1 d1.length n1, .slice A2 d2.length n2] 27)).alloc (.cells #[.int .i64 0, .slice none 0 0, .slice none 0 0] 27)) := by (repeat' (with_reducible first | exact Below.refl _ _ | assumption | refine qS ?_ _ | refine qA ?_ _ | refine qD ?_ | refine qN ?_ _))
 have hz : ((w.alloc (.cells #[.int .i64 a0, .slice A1 d1.length n1, .slice A2 d2.length n2] 27)).alloc (.cells #[.int .i64 0, .slice none 0 0, .slice none 0 0] 27)).heap.size = w.heap.size + 1 + 1 := by simp
 generalize (w.alloc (.cells #[.int .i64 a0, .slice A1 d1.length n1, .slice A2 d2.length n2] 27)).alloc (.cells #[.int .i64 0, .slice none 0 0, .slice none 0 0] 27) = W at *
 have hzW : w.heap.size + 1 + 1 ≤ W.heap.size := by omega
 have hzW' : W.heap.size ≤ w.heap.size + 1 + 1 := by omega
 clear hz
 replace hd1 := hd1.below hb
 replace hd2 := hd2.below hb
 refine region_made (n := 13) 10 (by kernel_rfl) rfl (by kernel_rfl) (fun w' => Below W.heap.size W w') (fun i => if i = 2 then 1 else if i = 5 then 1 else if i = 8 then 2 else 0) (pl37Copy w.heap.size (w.heap.size + 1 + 1) a0 (.slice A1 d1.length n1) (.slice A2 d2.length n2) d1 d2) (Below.refl _ _).drew ?_ ?_ ?_
 ·intro i v gh gh' w1 w2 hp hJ hb' hg
  match i, hp with
  | 0, hp => exact hp
  | 1, hp => exact hp
  | 2, ⟨g, hv, ho⟩ => exact ⟨g, hv, OwnC.keep ho hb' hg⟩
  | 3, hp => exact hp
  | 4, hp => exact hp
  | 5, hp =>
   have hp' : OwG (w.heap.size + 1 + 1) (fun w S => OwL 79 cCross 2 w S v d1) 1 gh w1 := hp
   exact OwG.keep hp' (fun _ h => h.below hb') hb' hg
  | 6, hp => exact hp
  | 7, hp => exact hp
  | 8, hp =>
   have hp' : OwG (w.heap.size + 1 + 1) (fun w S => OwPls w S v d2) 2 gh w1 := hp
   exact OwG.keep hp' (fun _ h => h.below hb') hb' hg
  | 9, ⟨z5, z8, hv, o0, o1⟩ => exact ⟨z5, z8, hv, OwG.keep o0 (fun _ h => h.below hb') hb' hg, OwG.keep o1 (fun _ h => h.below hb') hb' hg⟩
  | _ + 10, _ => trivial
 ·refine ⟨?_, ?_, ?_, ?_, ?_, ?_, ?_, ?_, ?_, ?_, trivial⟩
  all_goals
   intro a gh wr hag hJ hd
   obtain ⟨x0, x1, x2, x3, x4, x5, x6, x7, x8, x9, x10, x11, x12, rfl⟩ := act13Company hag.size hag.defers
   have ag1 : x1 = .pointer (some ⟨w.heap.size, 0, none⟩) := hag.kept 1 (by kernel_rfl)
   clear hag
   subst ag1
  ·go_wp2_with fail
   exact ⟨rfl, _, rfl, rfl, hJ, Below.refl _ _⟩
  ·have e1 : x3 = .pointer (some ⟨w.heap.size, 0, none⟩) := hd 0 (by kernel_rfl) _ rfl
   subst e1
   have c0 := ((La.below hJ) 0 _ rfl).1
   go_wp2_with fail
   exact ⟨rfl, _, rfl, rfl, hJ, Below.refl _ _⟩
  ·go_wp2_with fail
   exact ⟨rfl, _, rfl, ⟨wr.heap.size, rfl, World.ownsRow_made (size := 2) (e := 79) wr #[] 0 (Nat.le_trans hzW hJ.size) (by simp [maxLen]) rfl, fun b hb => if_neg (by simp [Value.ownBlock] at hb; omega)⟩, hJ.alloc hJ.size _, (Below.refl _ _).alloc (Nat.le_refl _) _⟩
  ·go_wp2_with fail
   exact ⟨rfl, _, rfl, rfl, hJ, Below.refl _ _⟩
  ·have e1 : x6 = .pointer (some ⟨w.heap.size, 1, none⟩) := hd 3 (by kernel_rfl) _ rfl
   subst e1
   have c1 := ((La.below hJ) 1 _ rfl).1
   go_wp2_with fail
   exact ⟨rfl, _, rfl, rfl, hJ, Below.refl _ _⟩
  ·obtain ⟨g, e1, og⟩ : ∃ g, x5 = .slice (some ⟨g, 0, none⟩) 0 0 ∧ OwnC (w.heap.size + 1 + 1) 79 2 x5 0 [] 1 gh wr := hd 2 (by kernel_rfl) _ rfl
   have e2 : x7 = .slice A1 d1.length n1 := hd 4 (by kernel_rfl) _ rfl
   subst e1 e2
   go_wp2_with (at_builtin; refine wpList_append_empty _ rfl (.tmp 5) (.tmp 7) _ rfl (w.heap.size + 1 + 1) 79 iCross _ 2 16 Tryz.underlying24 hiCross hzCross0 hzCross1 hzCross2 rfl (by omega) g rfl og.1 _ d1.length (d1.flatMap cCross) rfl (hd1.below hJ) (oneCell_flat cCross_one d1) (by simp [maxLen]; omega) (by omega) (Nat.le_trans hzW hJ.size) ?_; intro v3 w3 own3 b3 at3)
   exact ⟨rfl, _, rfl, OwG.of_append own3 b3 at3 og, hJ.trans (b3.mono hJ.size), b3⟩
  ·go_wp2_with fail
   exact ⟨rfl, _, rfl, rfl, hJ, Below.refl _ _⟩
  ·have e1 : x9 = .pointer (some ⟨w.heap.size, 2, none⟩) := hd 6 (by kernel_rfl) _ rfl
   subst e1
   have c2 := ((La.below hJ) 2 _ rfl).1
   go_wp2_with fail
   exact ⟨rfl, _, rfl, rfl, hJ, Below.refl _ _⟩
  ·have e1 : x10 = .slice A2 d2.length n2 := hd 7 (by kernel_rfl) _ rfl
   subst e1
   go_wp2_with (go_at_call 119; refine (l17Copy_any _ d2 _ (hd2.below hJ) (by omega)).mono ?_; rintro e w1 ⟨x, S, rfl, own1, f1, q1⟩)
   exact ⟨rfl, _, rfl, OwG.of_fresh (ow := (fun w S => OwPls w S x d2)) own1 f1 (Nat.le_trans hzW hJ.size), hJ.trans (q1.mono hJ.size), q1⟩
  ·skip
   have e4 : x4 = .int .i64 a0 := hd 1 (by kernel_rfl) _ rfl
   have q8 : OwG (w.heap.size + 1 + 1) (fun w S => OwL 79 cCross 2 w S x8 d1) 1 gh wr := hd 5 (by kernel_rfl) _ rfl
   obtain ⟨D8, m8, e8⟩ : ∃ A c, x8 = .slice A d1.length c := by obtain ⟨S, h, _⟩ := q8; obtain ⟨A, c, e, _⟩ := h.rd.form; exact ⟨A, c, e⟩
   have q11 : OwG (w.heap.size + 1 + 1) (fun w S => OwPls w S x11 d2) 2 gh wr := hd 8 (by kernel_rfl) _ rfl
   obtain ⟨D11, m11, e11⟩ : ∃ A c, x11 = .slice A d2.length c := by obtain ⟨S, h, _⟩ := q11; obtain ⟨A, c, e, _⟩ := h.rd.form; exact ⟨A, c, e⟩
   subst e4 e8 e11
   go_wp2_with fail
   exact ⟨rfl, _, rfl, ⟨_, _, rfl, OwG.same q8 _, OwG.same q11 _⟩, hJ, Below.refl _ _⟩
 ·intro a gh wr hag hJ hd
  obtain ⟨x0, x1, x2, x3, x4, x5, x6, x7, x8, x9, x10, x11, x12, rfl⟩ := act13Company hag.size hag.defers
  have ag2 : x2 = .pointer (some ⟨w.heap.size + 1, 0, none⟩) := hag.kept 2 (by kernel_rfl)
  subst ag2
  obtain ⟨z5, z8, e1, q0, q1⟩ : ∃ z5 z8, x12 = .agg #[.int .i64 a0, z5, z8] ∧ OwG (w.heap.size + 1 + 1) (fun w S => OwL 79 cCross 2 w S z5 d1) 1 gh wr ∧ OwG (w.heap.size + 1 + 1) (fun w S => OwPls w S z8 d2) 2 gh wr := hd 9 (by kernel_rfl) _ rfl
  obtain ⟨Dz5, mz5, rfl⟩ : ∃ A c, z5 = .slice A d1.length c := by obtain ⟨S, h, _⟩ := q0; obtain ⟨A, c, e, _⟩ := h.rd.form; exact ⟨A, c, e⟩
  obtain ⟨Dz8, mz8, rfl⟩ : ∃ A c, z8 = .slice A d2.length c := by obtain ⟨S, h, _⟩ := q1; obtain ⟨A, c, e, _⟩ := h.rd.form; exact ⟨A, c, e⟩
  subst e1
  have Lq := Lr.below hJ
  have r0 := (Lq 0 _ rfl).1
  have p0 := (Lq 0 _ rfl).2
  have r1 := (Lq 1 _ rfl).1
  have p1 := (Lq 1 _ rfl).2
  have r2 := (Lq 2 _ rfl).1
  have p2 := (Lq 2 _ rfl).2
  clear hd La Lr Lq
  have hz := hJ.size
  have hset : Chg [w.heap.size + 1] wr (((wr.setCell ⟨w.heap.size + 1, 0, none⟩ (.int .i64 a0)).setCell ⟨w.heap.size + 1, 1, none⟩ (.slice Dz5 d1.length mz5)).setCell ⟨w.heap.size + 1, 2, none⟩ (.slice Dz8 d2.length mz8)) := by repeat' (with_reducible first | exact Chg.refl _ _ | refine qC ?_)
  have Gq0 := Lib.hid (OwG.chg q0 hset (by simp) (fun S h hn => h.chg hset hn))
  clear q0
  have Gq1 := Lib.hid (OwG.chg q1 hset (by simp) (fun S h hn => h.chg hset hn))
  clear q1
  go_wp2_with fail
  obtain ⟨S1, S2, t1, t2, hf⟩ := OwG.two Gq0.out Gq1.out (by decide)
  refine bodyPost_ret (v := .agg #[.int .i64 a0, .slice Dz5 d1.length mz5, .slice Dz8 d2.length mz8]) (by simp [results, Tryz.results97, go_sem, *]) rfl ⟨.slice Dz5 d1.length mz5, .slice Dz8 d2.length mz8, (S1 ++ S2), rfl, ⟨S1, S2, rfl, t1, t2⟩, fresh_mono hf (by omega) (Nat.le_refl _), ?_⟩
  exact Below.chg (hb.trans (hJ.mono (by omega))) hset (by omega) (by simp)
open Go.RowKit
theorem act12Theatre {a : Act} (h : a.tmps.size = 12) (hd : a.defers = []) : ∃ x0 x1 x2 x3 x4 x5 x6 x7 x8 x9 x10 x11 : Value, a = ⟨#[x0, x1, x2, x3, x4, x5, x6, x7, x8, x9, x10, x11], []⟩ := by
 obtain ⟨⟨l⟩, d⟩ := a
 subst hd
 match l, h with
 | [x0, x1, x2, x3, x4, x5, x6, x7, x8, x9, x10, x11], _ => exact ⟨x0, x1, x2, x3, x4, x5, x6, x7, x8, x9, x10, x11, rfl⟩
def ptheatreCopied (b0 B : Nat) (a0 a4 : Int) (y1 y2 y3 : Value) (d1 : List RCross) (d2 : List RPl) (d3 : List Int) (i : Nat) (v : Value) (gh : Nat → Nat) (w : World) : Prop :=
 match i with
 | 0 => v = .pointer (some ⟨b0, 0, none⟩)
 | 1 => v = .agg #[.int .i64 a0, y1, y2]
 | 2 => ∃ u1 u2, v = .agg #[.int .i64 a0, u1, u2] ∧ OwG B (fun w S => OwCompany w S u1 u2 d1 d2) 1 gh w
 | 3 => v = .pointer (some ⟨b0, 3, none⟩)
 | 4 => v = y3
 | 5 => OwG B (fun w S => OwL 3 cInt 1 w S v d3) 2 gh w
 | 6 => v = .pointer (some ⟨b0, 4, none⟩)
 | 7 => v = .int .i64 a4
 | 8 => ∃ u1 u2 z5, v = .agg #[.int .i64 a0, u1, u2, z5, .int .i64 a4] ∧ OwG B (fun w S => OwCompany w S u1 u2 d1 d2) 1 gh w ∧ OwG B (fun w S => OwL 3 cInt 1 w S z5 d3) 2 gh w
 | _ => True
set_option maxHeartbeats 4000000 in
set_option maxRecDepth 100000 in
theorem theatreCopied_any (a0 a4 : Int) (v1 v2 v3 : Value) (d1 : List RCross) (d2 : List RPl) (d3 : List Int) (w : World) (h : RdTheatre w v1 v2 v3 d1 d2 d3) (hl : szTheatre d1 d2 d3 ≤ 1048576) :
  Calls Tryz.prog 15 #[.agg #[.int .i64 a0, v1, v2, v3, .int .i64 a4]] w (ToTheatre a0 a4 d1 d2 d3 w) := by
 obtain ⟨⟨A1, n1, rfl⟩, ⟨A2, n2, rfl⟩, ⟨A3, n3, rfl⟩⟩ := h.forms
 obtain ⟨hco, hd3⟩ := h
 unfold szTheatre szCompany at hl
 go_enter Tryz.func15, Tryz.ntmps15
 go_wp2_with fail
 have La : Loc ((w.alloc (.cells #[.int .i64 a0, .slice A1 d1.length n1, .slice A2 d2.length n2, .slice A3 d3.length n3, .int .i64 a4] 30)).alloc (.cells #[.int .i64 0, .slice none 0 0, .slice none 0 0, .slice none 0 0, .int .i64 0] 30)) w.heap.size [.int .i64 a0, .slice A1 d1.length n1, .slice A2 d2.length n2, .slice A3 d3.length n3, .int .i64 a4] := (Loc.new w #[.int .i64 a0, .slice A1 d1.length n1, .slice A2 d2.length n2, .slice A3 d3.length n3, .int .i64 a4] 30).alloc _
 have Lr : Loc ((w.alloc (.cells #[.int .i64 a0, .slice A1 d1.length n1, .slice A2 d2.length n2, .slice A3 d3.length n3, .int .i64 a4] 30)).alloc (.cells #[.int .i64 0, .slice none 0 0, .slice none 0 0, .slice none 0 0, .int .i64 0] 30)) (w.heap.size + 1) [.int .i64 0, .slice none 0 0, .slice none 0 0, .slice none 0 0, .int .i64 0] := by
  have := Loc.new (w.alloc (.cells #[.int .i64 a0, .slice A1 d1.length n1, .slice A2 d2.length n2, .slice A3 d3.length n3, .int .i64 a4] 30)) #[.int .i64 0, .slice none 0 0, .slice none 0 0, .slice none 0 0, .int .i64 0] 30
  simpa using this
 have hb : Below w.heap.size w ((w.alloc (.cells #[.int .i64 a0, .slice A1 d1.length n1, .slice A2 d2.length n2, .slice A3 d3.length n3, .int .i64 a4] 30)).alloc (.cells #[.int .i64 0, .slice none 0 0, .slice none 0 0, .slice none 0 0, .int .i64 0] 30)) := by (repeat' (with_reducible first | exact Below.refl _ _ | assumption | refine qS ?_ _ | refine qA ?_ _ | refine qD ?_ | refine qN ?_ _))
 have hz : ((w.alloc (.cells #[.int .i64 a0, .slice A1 d1.length n1, .slice A2 d2.length n2, .slice A3 d3.length n3, .int .i64 a4] 30)).alloc (.cells #[.int .i64 0, .slice none 0 0, .slice none 0 0, .slice none 0 0, .int .i64 0] 30)).heap.size = w.heap.size + 1 + 1 := by simp
 generalize (w.alloc (.cells #[.int .i64 a0, .slice A1 d1.length n1, .slice A2 d2.length n2, .slice A3 d3.length n3, .int .i64 a4] 30)).alloc (.cells #[.int .i64 0, .slice none 0 0, .slice none 0 0, .slice none 0 0, .int .i64 0] 30) = W at *
 have hzW : w.heap.size + 1 + 1 ≤ W.heap.size := by omega
 have hzW' : W.heap.size ≤ w.heap.size + 1 + 1 := by omega
 clear hz
 replace hco := hco.below hb
 replace hd3 := hd3.below hb
 refine region_made (n := 12) 9 (by kernel_rfl) rfl (by kernel_rfl) (fun w' => Below W.heap.size W w') (fun i => if i = 2 then 1 else if i = 5 then 2 else 0) (ptheatreCopied w.heap.size (w.heap.size + 1 + 1) a0 a4 (.slice A1 d1.length n1) (.slice A2 d2.length n2) (.slice A3 d3.length n3) d1 d2 d3) (Below.refl _ _).drew ?_ ?_ ?_
 ·intro i v gh gh' w1 w2 hp hJ hb' hg
  match i, hp with
  | 0, hp => exact hp
  | 1, hp => exact hp
  | 2, ⟨u1, u2, hv, ho⟩ => exact ⟨u1, u2, hv, OwG.keep ho (fun _ h => h.below hb') hb' hg⟩
  | 3, hp => exact hp
  | 4, hp => exact hp
  | 5, hp =>
   have hp' : OwG (w.heap.size + 1 + 1) (fun w S => OwL 3 cInt 1 w S v d3) 2 gh w1 := hp
   exact OwG.keep hp' (fun _ h => h.below hb') hb' hg
  | 6, hp => exact hp
  | 7, hp => exact hp
  | 8, ⟨u1, u2, z5, hv, o0, o1⟩ => exact ⟨u1, u2, z5, hv, OwG.keep o0 (fun _ h => h.below hb') hb' hg, OwG.keep o1 (fun _ h => h.below hb') hb' hg⟩
  | _ + 9, _ => trivial
 ·refine ⟨?_, ?_, ?_, ?_, ?_, ?_, ?_, ?_, ?_, trivial⟩
  all_goals
   intro a gh wr hag hJ hd
   obtain ⟨x0, x1, x2, x3, x4, x5, x6, x7, x8, x9, x10, x11, rfl⟩ := act12Theatre hag.size hag.defers
   have ag1 : x1 = .pointer (some ⟨w.heap.size, 0, none⟩) := hag.kept 1 (by kernel_rfl)
   clear hag
   subst ag1
  ·go_wp2_with fail
   exact ⟨rfl, _, rfl, rfl, hJ, Below.refl _ _⟩
  ·have e1 : x3 = .pointer (some ⟨w.heap.size, 0, none⟩) := hd 0 (by kernel_rfl) _ rfl
   subst e1
   have c0 := ((La.below hJ) 0 _ rfl).1
   have c1 := ((La.below hJ) 1 _ rfl).1
   have c2 := ((La.below hJ) 2 _ rfl).1
   go_wp2_with fail
   exact ⟨rfl, _, rfl, rfl, hJ, Below.refl _ _⟩
  ·have e1 : x4 = .agg #[.int .i64 a0, .slice A1 d1.length n1, .slice A2 d2.length n2] := hd 1 (by kernel_rfl) _ rfl
   subst e1
   go_wp2_with (go_at_call 28; refine (companyCopied_any a0 _ _ d1 d2 _ (hco.below hJ) (by unfold szCompany; omega)).mono ?_; rintro e w1 ⟨x, y, S, rfl, own1, f1, q1⟩)
   exact ⟨rfl, _, rfl, ⟨_, _, rfl, OwG.of_fresh (ow := fun w S => OwCompany w S x y d1 d2) own1 f1 (Nat.le_trans hzW hJ.size)⟩, hJ.trans (q1.mono hJ.size), q1⟩
  ·go_wp2_with fail
   exact ⟨rfl, _, rfl, rfl, hJ, Below.refl _ _⟩
  ·have e1 : x6 = .pointer (some ⟨w.heap.size, 3, none⟩) := hd 3 (by kernel_rfl) _ rfl
   subst e1
   have c3 := ((La.below hJ) 3 _ rfl).1
   go_wp2_with fail
   exact ⟨rfl, _, rfl, rfl, hJ, Below.refl _ _⟩
  ·have e1 : x7 = .slice A3 d3.length n3 := hd 4 (by kernel_rfl) _ rfl
   subst e1
   go_wp2_with (go_at_call 29; refine (copyOf_any _ d3 _ (hd3.below hJ) (by omega)).mono ?_; rintro e w1 ⟨x, rfl, own1, q1⟩)
   exact ⟨rfl, _, rfl, OwG.of_fresh (ow := (fun w S => OwL 3 cInt 1 w S x d3)) (OwL.mk_ own1) (fresh_of own1) (Nat.le_trans hzW hJ.size), hJ.trans (q1.mono hJ.size), q1⟩
  ·go_wp2_with fail
   exact ⟨rfl, _, rfl, rfl, hJ, Below.refl _ _⟩
  ·have e1 : x9 = .pointer (some ⟨w.heap.size, 4, none⟩) := hd 6 (by kernel_rfl) _ rfl
   subst e1
   have c4 := ((La.below hJ) 4 _ rfl).1
   go_wp2_with fail
   exact ⟨rfl, _, rfl, rfl, hJ, Below.refl _ _⟩
  ·skip
   obtain ⟨u1, u2, e5, q5⟩ : ∃ u1 u2, x5 = .agg #[.int .i64 a0, u1, u2] ∧ OwG (w.heap.size + 1 + 1) (fun w S => OwCompany w S u1 u2 d1 d2) 1 gh wr := hd 2 (by kernel_rfl) _ rfl
   obtain ⟨⟨B1, k1, rfl⟩, ⟨B2, k2, rfl⟩⟩ : (∃ A c, u1 = .slice A d1.length c) ∧ (∃ A c, u2 = .slice A d2.length c) := by obtain ⟨S, h, _⟩ := q5; exact h.rd.forms
   have q8 : OwG (w.heap.size + 1 + 1) (fun w S => OwL 3 cInt 1 w S x8 d3) 2 gh wr := hd 5 (by kernel_rfl) _ rfl
   obtain ⟨D8, m8, e8⟩ : ∃ A c, x8 = .slice A d3.length c := by obtain ⟨S, h, _⟩ := q8; obtain ⟨A, c, e, _⟩ := h.rd.form; exact ⟨A, c, e⟩
   have e10 : x10 = .int .i64 a4 := hd 7 (by kernel_rfl) _ rfl
   subst e5 e8 e10
   go_wp2_with fail
   exact ⟨rfl, _, rfl, ⟨_, _, _, rfl, OwG.same q5 _, OwG.same q8 _⟩, hJ, Below.refl _ _⟩
 ·intro a gh wr hag hJ hd
  obtain ⟨x0, x1, x2, x3, x4, x5, x6, x7, x8, x9, x10, x11, rfl⟩ := act12Theatre hag.size hag.defers
  have ag2 : x2 = .pointer (some ⟨w.heap.size + 1, 0, none⟩) := hag.kept 2 (by kernel_rfl)
  subst ag2
  obtain ⟨u1, u2, z5, e1, q0, q1⟩ : ∃ u1 u2 z5, x11 = .agg #[.int .i64 a0, u1, u2, z5, .int .i64 a4] ∧ OwG (w.heap.size + 1 + 1) (fun w S => OwCompany w S u1 u2 d1 d2) 1 gh wr ∧ OwG (w.heap.size + 1 + 1) (fun w S => OwL 3 cInt 1 w S z5 d3) 2 gh wr := hd 8 (by kernel_rfl) _ rfl
  obtain ⟨⟨B1, k1, rfl⟩, ⟨B2, k2, rfl⟩⟩ : (∃ A c, u1 = .slice A d1.length c) ∧ (∃ A c, u2 = .slice A d2.length c) := by obtain ⟨S, h, _⟩ := q0; exact h.rd.forms
  obtain ⟨Dz5, mz5, rfl⟩ : ∃ A c, z5 = .slice A d3.length c := by obtain ⟨S, h, _⟩ := q1; obtain ⟨A, c, e, _⟩ := h.rd.form; exact ⟨A, c, e⟩
  subst e1
  have Lq := Lr.below hJ
  have r0 := (Lq 0 _ rfl).1
  have p0 := (Lq 0 _ rfl).2
  have r1 := (Lq 1 _ rfl).1
  have p1 := (Lq 1 _ rfl).2
  have r2 := (Lq 2 _ rfl).1
  have p2 := (Lq 2 _ rfl).2
  have r3 := (Lq 3 _ rfl).1
  have p3 := (Lq 3 _ rfl).2
  have r4 := (Lq 4 _ rfl).1
  have p4 := (Lq 4 _ rfl).2
  clear hd La Lr Lq
  have hz := hJ.size
  have hset : Chg [w.heap.size + 1] wr (((((wr.setCell ⟨w.heap.size + 1, 0, none⟩ (.int .i64 a0)).setCell ⟨w.heap.size + 1, 1, none⟩ (.slice B1 d1.length k1)).setCell ⟨w.heap.size + 1, 2, none⟩ (.slice B2 d2.length k2)).setCell ⟨w.heap.size + 1, 3, none⟩ (.slice Dz5 d3.length mz5)).setCell ⟨w.heap.size + 1, 4, none⟩ (.int .i64 a4)) := by repeat' (with_reducible first | exact Chg.refl _ _ | refine qC ?_)
  have Gq0 := Lib.hid (OwG.chg q0 hset (by simp) (fun S h hn => h.chg hset hn))
  clear q0
  have Gq1 := Lib.hid (OwG.chg q1 hset (by simp) (fun S h hn => h.chg hset hn))
  clear q1
  go_wp2_with fail
  obtain ⟨S1, S2, t1, t2, hf⟩ := OwG.two Gq0.out Gq1.out (by decide)
  refine bodyPost_ret (v := .agg #[.int .i64 a0, .slice B1 d1.length k1, .slice B2 d2.length k2, .slice Dz5 d3.length mz5, .int .i64 a4]) (by simp [results, Tryz.results15, go_sem, *]) rfl ⟨.slice B1 d1.length k1, .slice B2 d2.length k2, .slice Dz5 d3.length mz5, (S1 ++ S2), rfl, ⟨S1, S2, rfl, t1, t2⟩, fresh_mono hf (by omega) (Nat.le_refl _), ?_⟩
  exact Below.chg (hb.trans (hJ.mono (by omega))) hset (by omega) (by simp)
open Go.RowKit
theorem ext_getD {a b : List Int} (hl : a.length = b.length) (h : ∀ k, k < a.length → a.getD k 0 = b.getD k 0) : a = b := by
 apply List.ext_getElem hl
 intro k h1 h2
 rw [← getD_at h1, ← getD_at h2]; exact h k h1
end Go.Proofs.YteidpejjjphecaaGreatDoor
