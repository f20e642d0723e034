/- Several texts in one: Contracts: Reduced, Tidy. Written by a program (gen_k8.py). Contracts: Tidy. Written by a program (gen_k8.py). Crossings in plain words: full turns, even twists at home, unwinding leaves none; reduced crossings lead to the same. No program in sight. -/
import Derived.Deep.QuietTactic
import Derived.BigQuiet
import Derived.IntWalk
import Derived.Test.YtjbhlbcjljdjmaaBdK7x5
import Derived.Test.YtjbhlbcjljdjmaaQ2
namespace Go.Proofs.Ytjbhlbcjljdjmaa
open Go.RowKit
theorem own_dn {w : World} {B : Nat} {e : TypeId} {size n : Nat} {v : Value} {xs : List Value} (h : w.ownsRow B e size v n xs) (k : Nat) : (w.drewN k).ownsRow B e size v n xs := h
theorem lastC_get {out : List RCross} (h : 0 < out.length) : lastC out = out[out.length - 1] := by
  unfold lastC; rw [List.getD_eq_getElem?_getD, List.getElem?_eq_getElem (by omega)]; rfl
theorem red_keep {out : List RCross} {c : RCross} (h : undoB out c = false) : redStep out c = out ++ [c] := by rw [redStep, h]; rfl
theorem red_drop {out : List RCross} {c : RCross} (h : undoB out c = true) : redStep out c = out.take (out.length - 1) := by rw [redStep, h]; rfl
theorem undo_nil {out : List RCross} {c : RCross} (h : out.length = 0) : undoB out c = false := by rw [undoB, h]; rfl
theorem undo_at {out : List RCross} {c : RCross} {q : RCross} (hl : lastC out = q) (h : q.1 ≠ c.1) : undoB out c = false := by rw [undoB, hl, decide_eq_false h]; simp
theorem undo_fr {out : List RCross} {c : RCross} {q : RCross} (hl : lastC out = q) (h : q.2 = c.2) : undoB out c = false := by rw [undoB, hl, h]; simp
theorem undo_t {out : List RCross} {c : RCross} {q : RCross} (h0 : 0 < out.length) (hl : lastC out = q) (h1 : q.1 = c.1) (h2 : q.2 ≠ c.2) : undoB out c = true := by
  rw [undoB, hl, decide_eq_true h0, decide_eq_true h1]; simpa using h2
theorem own_take {w : World} {B : Nat} {A : Option Addr} {c : Nat} {out : List RCross} (h : w.ownsRow B 115 2 (.slice A out.length c) out.length (out.flatMap cCross)) (h0 : 0 < out.length) : w.ownsRow B 115 2 (.slice A (out.length - 1) c) (out.take (out.length - 1)).length ((out.take (out.length - 1)).flatMap cCross) := by
  have hl : (out.take (out.length - 1)).length = out.length - 1 := by rw [List.length_take]; omega
  rw [hl, flat_take cCross_len]
  exact own_prefix h (by omega) h0
set_option maxHeartbeats 8000000 in
set_option maxRecDepth 100000 in
theorem implReduced_any (n : Int) (v : Value) (cs : List RCross) (w : World) (h : RdL cCross 2 w v cs) (hl : cs.length ≤ 1048576) :
    Calls Try.prog 104 #[.int .i64 n, v] w fun e w' => ∃ v', e = .returned v' ∧ w'.ownsRow w.heap.size 115 2 v' (redL n cs).length ((redL n cs).flatMap cCross) ∧ Below w.heap.size w w' := by
  have h0 := h
  obtain ⟨A, c, rfl, h1, h2⟩ := h.form
  obtain ⟨i0, hi0, hz0, hz1, hz2⟩ := info_parts infoCross
  go_enter Try.func104, Try.ntmps104
  go_wp2_with fail
  refine twoB (implCrossesOk_any n _ cs _ h0) (fun w1 hq hb => ?_) (fun w1 hq hb => ?_)
  · have hr := h0.below hb
    have hz1' := hb.size
    go_wp2_with fail
    go_loopw [5, 16] (fun q i wr => ∃ k : Nat, k ≤ cs.length ∧ i = .int .i64 k ∧ wr.ownsRow w1.heap.size 115 2 q (redF (cs.take k)).length ((redF (cs.take k)).flatMap cCross) ∧ Below w1.heap.size w1 wr) (fun _ i _ => cs.length - (intOf i).toNat)
    case atStart => exact ⟨0, Nat.zero_le _, rfl, World.ownsRow_made (size := 2) (e := 115) w1 #[] 0 (Nat.le_refl _) (by simp [maxLen]) rfl, by (repeat' (first | exact Below.refl _ _ | (refine Below.setCell ?_ (by first | omega | (simp; omega) | (simp; done)) _) | (refine Below.alloc ?_ (by first | omega | (simp; omega) | (simp; done)) _) | (refine Below.drew ?_) | (refine below_drewN ?_ _) | (refine Below.trans ?_ (Below.mono (by assumption) (by first | omega | (simp; omega) | (simp; done))))))⟩
    case round =>
      obtain ⟨k, hk, rfl, hown, hbr⟩ := hrel
      have hz := hbr.size
      by_cases hlt : k < cs.length
      · obtain ⟨g, off, rfl, hg, hc⟩ := (hr.below hbr).cell cCross_len (by omega) hlt
        have k0 := hc 0 _ rfl
        have k1 := hc 1 _ rfl
        simp only [Nat.add_zero] at k0 k1
        clear hc
        have hol := redF_len cs k hk
        have Hsu := Lib.hid (redF_succ cs hlt)
        generalize redF (cs.take k) = out at *
        generalize hcc : cs[k] = cc at *
        clear hcc
        obtain ⟨ca, cf⟩ := cc
        by_cases hn : out.length = 0
        · have Hst := Lib.hid (red_keep (c := (ca, cf)) (undo_nil hn))
          have hd : decide (0 < (out.length : Int)) = false := decide_eq_false (by omega)
          have hd' : decide (0 < out.length) = false := decide_eq_false (by omega)
          have hnn : (out.length : Int) ≤ 0 := by omega
          obtain ⟨A1, cap1, rfl, _, _⟩ := (RdS.of_own hown).form
          have Hn := Lib.hid hn
          clear hn
          go_wp2_with fail
          go_quiet (fail)
          rename_i nq
          go_wp2_with (at_builtin; refine wpList_appendR _ rfl (.tmp 50) (.tmp 52) _ rfl w1.heap.size 115 i0 _ 2 16 Try.underlying44 hi0 hz0 hz1 hz2 rfl (by omega) _ out.length (out.flatMap cCross) rfl (own_dn ((hown.alloc _)) nq |>.alloc _) _ 1 [.int .i64 ca, .bool cf] rfl (rdS_newAt ((wr.alloc _).drewN nq) (wr.heap.size + 1) (by simp) #[.int .i64 ca, .bool cf] _ 2 1 rfl (by simp [maxLen])) (by simp [Value.oneCell']) (by simp [maxLen]; omega) (by omega) (by simp; omega) ?_; intro v2 w2 hown2 hgr2)
          have hb2 := below_own ((own_dn (hown.alloc _) nq).alloc _) hgr2 (by simp; omega)
          clear hgr2
          go_wp2_with fail
          go_roundw
          case rel => exact ⟨k + 1, by omega, by go_num, by rw [Hsu.out, Hst.out, List.length_append, List.flatMap_append]; exact hown2, ((below_drewN (hbr.alloc hz _) nq).alloc (by simp; omega) _).trans hb2⟩
          case measure => simp [intOf]; omega
        · have hon : 0 < out.length := by omega
          obtain ⟨g1, cap1, rfl⟩ := own_form hown hon
          have hcap : out.length ≤ cap1 := by obtain ⟨A', c', e, h1, _⟩ := (RdS.of_own hown).form; injection e with _ _ e3; omega
          have hrd : RdL cCross 2 wr (.slice (some ⟨g1, 0, none⟩) out.length cap1) out := RdS.of_own hown
          obtain ⟨g', off', hAA, hg1, hc1⟩ := hrd.cell (k := out.length - 1) cCross_len (by omega) (by omega)
          injection hAA with hAA
          injection hAA with e1 e2
          subst e1 e2
          have j0 := hc1 0 _ rfl
          have j1 := hc1 1 _ rfl
          simp only [Nat.add_zero, Nat.zero_add] at j0 j1
          clear hc1 hrd hn
          have hlo := lastC_get hon
          rw [← hlo] at j0 j1
          clear hlo
          obtain ⟨la, lf, hq2⟩ : ∃ la lf, lastC out = (la, lf) := ⟨_, _, rfl⟩
          rw [hq2] at j0 j1
          have Hq2 := Lib.hid hq2
          clear hq2
          have i0' := cell_alloc (.cells #[.int .i64 ca, .bool cf] 115) j0
          have i1' := cell_alloc (.cells #[.int .i64 ca, .bool cf] 115) j1
          have hw1 : IntKind.i64.wrap ((out.length : Int) - 1) = (out.length : Int) - 1 := IntWalk.i64_in _ (by omega)
          have hw2 : (0 : Int) ≤ (out.length : Int) - 1 := by omega
          have hw2' : (1 : Int) ≤ (out.length : Int) := by omega
          have hw4 : (out.length : Int) - 1 < (out.length : Int) := by omega
          have hw3 : ((out.length : Int) - 1).toNat = out.length - 1 := by omega
          have hd : decide (0 < (out.length : Int)) = true := decide_eq_true (by omega)
          by_cases hla : la = ca
          · subst hla
            have hbe : (la == la) = true := by simp
            cases lf <;> cases cf
            · have Hst := Lib.hid (red_keep (undo_fr (c := (la, false)) Hq2.out rfl))
              go_wp2_with fail
              go_quiet (fail)
              rename_i nq
              go_wp2_with (at_builtin; refine wpList_appendR _ rfl (.tmp 50) (.tmp 52) _ rfl w1.heap.size 115 i0 _ 2 16 Try.underlying44 hi0 hz0 hz1 hz2 rfl (by omega) _ out.length (out.flatMap cCross) rfl (own_dn ((hown.alloc _)) nq |>.alloc _) _ 1 [.int .i64 la, .bool false] rfl (rdS_newAt ((wr.alloc _).drewN nq) (wr.heap.size + 1) (by simp) #[.int .i64 la, .bool false] _ 2 1 rfl (by simp [maxLen])) (by simp [Value.oneCell']) (by simp [maxLen]; omega) (by omega) (by simp; omega) ?_; intro v2 w2 hown2 hgr2)
              have hb2 := below_own ((own_dn (hown.alloc _) nq).alloc _) hgr2 (by simp; omega)
              clear hgr2
              go_wp2_with fail
              go_roundw
              case rel => exact ⟨k + 1, by omega, by go_num, by rw [Hsu.out, Hst.out, List.length_append, List.flatMap_append]; exact hown2, ((below_drewN (hbr.alloc hz _) nq).alloc (by simp; omega) _).trans hb2⟩
              case measure => simp [intOf]; omega
            · have Hst := Lib.hid (red_drop (undo_t (c := (la, true)) hon Hq2.out rfl (by simp)))
              go_wp2_with fail
              go_quiet (fail)
              rename_i nq
              go_wp2_with fail
              go_roundw
              case rel => exact ⟨k + 1, by omega, by go_num, by rw [Hsu.out, Hst.out]; exact own_dn ((own_take hown hon).alloc _) nq, below_drewN (hbr.alloc hz _) nq⟩
              case measure => simp [intOf]; omega
            · have Hst := Lib.hid (red_drop (undo_t (c := (la, false)) hon Hq2.out rfl (by simp)))
              go_wp2_with fail
              go_quiet (fail)
              rename_i nq
              go_wp2_with fail
              go_roundw
              case rel => exact ⟨k + 1, by omega, by go_num, by rw [Hsu.out, Hst.out]; exact own_dn ((own_take hown hon).alloc _) nq, below_drewN (hbr.alloc hz _) nq⟩
              case measure => simp [intOf]; omega
            · have Hst := Lib.hid (red_keep (undo_fr (c := (la, true)) Hq2.out rfl))
              go_wp2_with fail
              go_quiet (fail)
              rename_i nq
              go_wp2_with (at_builtin; refine wpList_appendR _ rfl (.tmp 50) (.tmp 52) _ rfl w1.heap.size 115 i0 _ 2 16 Try.underlying44 hi0 hz0 hz1 hz2 rfl (by omega) _ out.length (out.flatMap cCross) rfl (own_dn ((hown.alloc _)) nq |>.alloc _) _ 1 [.int .i64 la, .bool true] rfl (rdS_newAt ((wr.alloc _).drewN nq) (wr.heap.size + 1) (by simp) #[.int .i64 la, .bool true] _ 2 1 rfl (by simp [maxLen])) (by simp [Value.oneCell']) (by simp [maxLen]; omega) (by omega) (by simp; omega) ?_; intro v2 w2 hown2 hgr2)
              have hb2 := below_own ((own_dn (hown.alloc _) nq).alloc _) hgr2 (by simp; omega)
              clear hgr2
              go_wp2_with fail
              go_roundw
              case rel => exact ⟨k + 1, by omega, by go_num, by rw [Hsu.out, Hst.out, List.length_append, List.flatMap_append]; exact hown2, ((below_drewN (hbr.alloc hz _) nq).alloc (by simp; omega) _).trans hb2⟩
              case measure => simp [intOf]; omega
          · have hbe : (la == ca) = false := by rw [beq_eq_false_iff_ne]; exact hla
            have Hst := Lib.hid (red_keep (undo_at (c := (ca, cf)) Hq2.out hla))
            clear hla
            go_wp2_with fail
            go_quiet (fail)
            rename_i nq
            go_wp2_with (at_builtin; refine wpList_appendR _ rfl (.tmp 50) (.tmp 52) _ rfl w1.heap.size 115 i0 _ 2 16 Try.underlying44 hi0 hz0 hz1 hz2 rfl (by omega) _ out.length (out.flatMap cCross) rfl (own_dn ((hown.alloc _)) nq |>.alloc _) _ 1 [.int .i64 ca, .bool cf] rfl (rdS_newAt ((wr.alloc _).drewN nq) (wr.heap.size + 1) (by simp) #[.int .i64 ca, .bool cf] _ 2 1 rfl (by simp [maxLen])) (by simp [Value.oneCell']) (by simp [maxLen]; omega) (by omega) (by simp; omega) ?_; intro v2 w2 hown2 hgr2)
            have hb2 := below_own ((own_dn (hown.alloc _) nq).alloc _) hgr2 (by simp; omega)
            clear hgr2
            go_wp2_with fail
            go_roundw
            case rel => exact ⟨k + 1, by omega, by go_num, by rw [Hsu.out, Hst.out, List.length_append, List.flatMap_append]; exact hown2, ((below_drewN (hbr.alloc hz _) nq).alloc (by simp; omega) _).trans hb2⟩
            case measure => simp [intOf]; omega
      · obtain rfl : k = cs.length := by omega
        rw [List.take_length] at hown
        go_wp2_with fail
        go_ret
        refine ⟨_, rfl, ?_, hb.trans (hbr.mono hz1')⟩
        rw [redL, if_pos hq.out]
        exact own_mono hown hz1'
  · go_wp2_with fail
    go_ret
    refine ⟨_, rfl, ?_, hb⟩
    rw [redL, if_neg (by rw [hq.out]; simp)]
    exact World.ownsRow_nil _ _ _ _
set_option maxHeartbeats 8000000 in
set_option maxRecDepth 100000 in
theorem specReduced_any (n : Int) (v : Value) (cs : List RCross) (w : World) (h : RdL cCross 2 w v cs) (hl : cs.length ≤ 1048576) :
    Calls Try.prog 133 #[.int .i64 n, v] w fun e w' => ∃ v', e = .returned v' ∧ w'.ownsRow w.heap.size 115 2 v' (redL n cs).length ((redL n cs).flatMap cCross) ∧ Below w.heap.size w w' := by
  have h0 := h
  have hcon := fun (W : World) (hW : RdL cCross 2 W v cs) => specCrossesOk_any n v cs W hW
  obtain ⟨A, c, rfl, h1, h2⟩ := h.form
  obtain ⟨i0, hi0, hz0, hz1, hz2⟩ := info_parts infoCross
  cases hcb : crossesB n cs
  · rw [hcb] at hcon
    have Hcon := Lib.hid hcon
    have Hcb := Lib.hid hcb
    clear hcon hcb
    go_enter Try.func133, Try.ntmps133
    go_wp2_with fail
    go_loopw [5, 6] (fun q i wr => i = .int .i64 (0 : Nat) ∧ wr.ownsRow w.heap.size 115 2 q 0 [] ∧ Below w.heap.size w wr) (fun _ _ _ => 0)
    case atStart => exact ⟨rfl, World.ownsRow_made (size := 2) (e := 115) w #[] 0 (Nat.le_refl _) (by simp [maxLen]) rfl, by (repeat' (first | exact Below.refl _ _ | (refine Below.setCell ?_ (by first | omega | (simp; omega) | (simp; done)) _) | (refine Below.alloc ?_ (by first | omega | (simp; omega) | (simp; done)) _) | (refine Below.drew ?_) | (refine below_drewN ?_ _) | (refine Below.trans ?_ (Below.mono (by assumption) (by first | omega | (simp; omega) | (simp; done))))))⟩
    case round =>
      obtain ⟨rfl, hown, hbr⟩ := hrel
      have hz := hbr.size
      have hi00 : ((0 : Nat) : Int) = 0 := rfl
      by_cases hlt : 0 < cs.length
      · go_wp2_with fail
        refine (Hcon.out _ (h0.below hbr)).mono ?_
        rintro e w2 ⟨rfl, q2⟩
        go_wp2_with fail
        go_ret
        refine ⟨_, rfl, ?_, hbr.trans (q2.mono hz)⟩
        rw [redL, if_neg (by rw [Hcb.out]; simp)]
        exact own_below hown q2
      · go_wp2_with fail
        go_ret
        refine ⟨_, rfl, ?_, hbr⟩
        rw [redL, if_neg (by rw [Hcb.out]; simp)]
        exact hown
  · rw [hcb] at hcon
    have Hcon := Lib.hid hcon
    have Hcb := Lib.hid hcb
    clear hcon hcb
    obtain ⟨w1, hw1e⟩ : ∃ w1, w1 = w := ⟨_, rfl⟩
    have hb : Below w.heap.size w w1 := by rw [hw1e]; exact Below.refl _ _
    have hr := h0.below hb
    have hz1' := hb.size
    rw [← hw1e]
    clear hw1e
    go_enter Try.func133, Try.ntmps133
    go_wp2_with fail
    go_loopw [5, 6] (fun q i wr => ∃ k : Nat, k ≤ cs.length ∧ i = .int .i64 k ∧ wr.ownsRow w1.heap.size 115 2 q (redF (cs.take k)).length ((redF (cs.take k)).flatMap cCross) ∧ Below w1.heap.size w1 wr) (fun _ i _ => cs.length - (intOf i).toNat)
    case atStart => exact ⟨0, Nat.zero_le _, rfl, World.ownsRow_made (size := 2) (e := 115) w1 #[] 0 (Nat.le_refl _) (by simp [maxLen]) rfl, by (repeat' (first | exact Below.refl _ _ | (refine Below.setCell ?_ (by first | omega | (simp; omega) | (simp; done)) _) | (refine Below.alloc ?_ (by first | omega | (simp; omega) | (simp; done)) _) | (refine Below.drew ?_) | (refine below_drewN ?_ _) | (refine Below.trans ?_ (Below.mono (by assumption) (by first | omega | (simp; omega) | (simp; done))))))⟩
    case round =>
      obtain ⟨k, hk, rfl, hown, hbr⟩ := hrel
      have hz := hbr.size
      by_cases hlt : k < cs.length
      · have hol := redF_len cs k hk
        have Hsu := Lib.hid (redF_succ cs hlt)
        generalize redF (cs.take k) = out at *
        go_wp2_with fail
        refine (Hcon.out _ (hr.below hbr)).mono ?_
        rintro e w2 ⟨rfl, q2⟩
        have hb2' := hbr.trans (q2.mono hz)
        replace hown := own_below hown q2
        have hzz : w1.heap.size ≤ w2.heap.size := hb2'.size
        clear hbr hz q2 wr
        obtain ⟨g, off, rfl, hg, hc⟩ := (hr.below hb2').cell cCross_len (by omega) hlt
        have k0 := hc 0 _ rfl
        have k1 := hc 1 _ rfl
        simp only [Nat.add_zero] at k0 k1
        clear hc
        generalize hcc : cs[k] = cc at *
        clear hcc
        obtain ⟨ca, cf⟩ := cc
        by_cases hn : out.length = 0
        · have Hst := Lib.hid (red_keep (c := (ca, cf)) (undo_nil hn))
          have hd : decide (0 < (out.length : Int)) = false := decide_eq_false (by omega)
          have hd' : decide (0 < out.length) = false := decide_eq_false (by omega)
          have hnn : (out.length : Int) ≤ 0 := by omega
          obtain ⟨A1, cap1, rfl, _, _⟩ := (RdS.of_own hown).form
          have Hn := Lib.hid hn
          clear hn
          go_wp2_with fail
          go_quiet (fail)
          rename_i nq
          go_wp2_with (at_builtin; refine wpList_appendR _ rfl (.tmp 56) (.tmp 61) _ rfl w1.heap.size 115 i0 _ 2 16 Try.underlying44 hi0 hz0 hz1 hz2 rfl (by omega) _ out.length (out.flatMap cCross) rfl ((own_dn hown nq).alloc _) _ 1 [.int .i64 ca, .bool cf] rfl (rdS_newAt (w2.drewN nq) w2.heap.size rfl #[.int .i64 ca, .bool cf] _ 2 1 rfl (by simp [maxLen])) (by simp [Value.oneCell']) (by simp [maxLen]; omega) (by omega) (by simp; omega) ?_; intro v2 w2 hown2 hgr2)
          have hb2 := below_own ((own_dn hown nq).alloc _) hgr2 (by simp; omega)
          clear hgr2
          go_wp2_with fail
          go_roundw
          case rel => exact ⟨k + 1, by omega, by go_num, by rw [Hsu.out, Hst.out, List.length_append, List.flatMap_append]; exact hown2, ((below_drewN hb2' nq).alloc (by simp; omega) _).trans hb2⟩
          case measure => simp [intOf]; omega
        · have hon : 0 < out.length := by omega
          obtain ⟨g1, cap1, rfl⟩ := own_form hown hon
          have hcap : out.length ≤ cap1 := by obtain ⟨A', c', e, h1, _⟩ := (RdS.of_own hown).form; injection e with _ _ e3; omega
          have hrd : RdL cCross 2 w2 (.slice (some ⟨g1, 0, none⟩) out.length cap1) out := RdS.of_own hown
          obtain ⟨g', off', hAA, hg1, hc1⟩ := hrd.cell (k := out.length - 1) cCross_len (by omega) (by omega)
          injection hAA with hAA
          injection hAA with e1 e2
          subst e1 e2
          have j0 := hc1 0 _ rfl
          have j1 := hc1 1 _ rfl
          simp only [Nat.add_zero, Nat.zero_add] at j0 j1
          clear hc1 hrd hn
          have hlo := lastC_get hon
          rw [← hlo] at j0 j1
          clear hlo
          obtain ⟨la, lf, hq2⟩ : ∃ la lf, lastC out = (la, lf) := ⟨_, _, rfl⟩
          rw [hq2] at j0 j1
          have Hq2 := Lib.hid hq2
          clear hq2
          have hw1 : IntKind.i64.wrap ((out.length : Int) - 1) = (out.length : Int) - 1 := IntWalk.i64_in _ (by omega)
          have hw2 : (0 : Int) ≤ (out.length : Int) - 1 := by omega
          have hw2' : (1 : Int) ≤ (out.length : Int) := by omega
          have hw4 : (out.length : Int) - 1 < (out.length : Int) := by omega
          have hw3 : ((out.length : Int) - 1).toNat = out.length - 1 := by omega
          have hk0 : (0 : Int) ≤ (k : Int) := by omega
          have hkl : (k : Int) < (cs.length : Int) := by omega
          have hd : decide (0 < (out.length : Int)) = true := decide_eq_true (by omega)
          by_cases hla : la = ca
          · subst hla
            have hbe : (la == la) = true := by simp
            cases lf <;> cases cf
            · have Hst := Lib.hid (red_keep (undo_fr (c := (la, false)) Hq2.out rfl))
              go_wp2_with fail
              go_quiet (fail)
              rename_i nq
              go_wp2_with (at_builtin; refine wpList_appendR _ rfl (.tmp 56) (.tmp 61) _ rfl w1.heap.size 115 i0 _ 2 16 Try.underlying44 hi0 hz0 hz1 hz2 rfl (by omega) _ out.length (out.flatMap cCross) rfl ((own_dn hown nq).alloc _) _ 1 [.int .i64 la, .bool false] rfl (rdS_newAt (w2.drewN nq) w2.heap.size rfl #[.int .i64 la, .bool false] _ 2 1 rfl (by simp [maxLen])) (by simp [Value.oneCell']) (by simp [maxLen]; omega) (by omega) (by simp; omega) ?_; intro v2 w2 hown2 hgr2)
              have hb2 := below_own ((own_dn hown nq).alloc _) hgr2 (by simp; omega)
              clear hgr2
              go_wp2_with fail
              go_roundw
              case rel => exact ⟨k + 1, by omega, by go_num, by rw [Hsu.out, Hst.out, List.length_append, List.flatMap_append]; exact hown2, ((below_drewN hb2' nq).alloc (by simp; omega) _).trans hb2⟩
              case measure => simp [intOf]; omega
            · have Hst := Lib.hid (red_drop (undo_t (c := (la, true)) hon Hq2.out rfl (by simp)))
              go_wp2_with fail
              go_quiet (fail)
              rename_i nq
              go_wp2_with fail
              go_roundw
              case rel => exact ⟨k + 1, by omega, by go_num, by rw [Hsu.out, Hst.out]; exact own_dn (own_take hown hon) nq, below_drewN hb2' nq⟩
              case measure => simp [intOf]; omega
            · have Hst := Lib.hid (red_drop (undo_t (c := (la, false)) hon Hq2.out rfl (by simp)))
              go_wp2_with fail
              go_quiet (fail)
              rename_i nq
              go_wp2_with fail
              go_roundw
              case rel => exact ⟨k + 1, by omega, by go_num, by rw [Hsu.out, Hst.out]; exact own_dn (own_take hown hon) nq, below_drewN hb2' nq⟩
              case measure => simp [intOf]; omega
            · have Hst := Lib.hid (red_keep (undo_fr (c := (la, true)) Hq2.out rfl))
              go_wp2_with fail
              go_quiet (fail)
              rename_i nq
              go_wp2_with (at_builtin; refine wpList_appendR _ rfl (.tmp 56) (.tmp 61) _ rfl w1.heap.size 115 i0 _ 2 16 Try.underlying44 hi0 hz0 hz1 hz2 rfl (by omega) _ out.length (out.flatMap cCross) rfl ((own_dn hown nq).alloc _) _ 1 [.int .i64 la, .bool true] rfl (rdS_newAt (w2.drewN nq) w2.heap.size rfl #[.int .i64 la, .bool true] _ 2 1 rfl (by simp [maxLen])) (by simp [Value.oneCell']) (by simp [maxLen]; omega) (by omega) (by simp; omega) ?_; intro v2 w2 hown2 hgr2)
              have hb2 := below_own ((own_dn hown nq).alloc _) hgr2 (by simp; omega)
              clear hgr2
              go_wp2_with fail
              go_roundw
              case rel => exact ⟨k + 1, by omega, by go_num, by rw [Hsu.out, Hst.out, List.length_append, List.flatMap_append]; exact hown2, ((below_drewN hb2' nq).alloc (by simp; omega) _).trans hb2⟩
              case measure => simp [intOf]; omega
          · have hbe : (la == ca) = false := by rw [beq_eq_false_iff_ne]; exact hla
            have Hst := Lib.hid (red_keep (undo_at (c := (ca, cf)) Hq2.out hla))
            clear hla
            go_wp2_with fail
            go_quiet (fail)
            rename_i nq
            go_wp2_with (at_builtin; refine wpList_appendR _ rfl (.tmp 56) (.tmp 61) _ rfl w1.heap.size 115 i0 _ 2 16 Try.underlying44 hi0 hz0 hz1 hz2 rfl (by omega) _ out.length (out.flatMap cCross) rfl ((own_dn hown nq).alloc _) _ 1 [.int .i64 ca, .bool cf] rfl (rdS_newAt (w2.drewN nq) w2.heap.size rfl #[.int .i64 ca, .bool cf] _ 2 1 rfl (by simp [maxLen])) (by simp [Value.oneCell']) (by simp [maxLen]; omega) (by omega) (by simp; omega) ?_; intro v2 w2 hown2 hgr2)
            have hb2 := below_own ((own_dn hown nq).alloc _) hgr2 (by simp; omega)
            clear hgr2
            go_wp2_with fail
            go_roundw
            case rel => exact ⟨k + 1, by omega, by go_num, by rw [Hsu.out, Hst.out, List.length_append, List.flatMap_append]; exact hown2, ((below_drewN hb2' nq).alloc (by simp; omega) _).trans hb2⟩
            case measure => simp [intOf]; omega
      · obtain rfl : k = cs.length := by omega
        rw [List.take_length] at hown
        go_wp2_with fail
        go_ret
        refine ⟨_, rfl, ?_, hbr⟩
        rw [redL, if_pos Hcb.out]
        exact hown
end Go.Proofs.Ytjbhlbcjljdjmaa

namespace Go.Proofs.Ytjbhlbcjljdjmaa
open Go.RowKit
def tidyC (n : Int) (cs : List RCross) (pl : List RPl) : List RCross := if companyB n cs pl = true then redL n cs else cs
theorem tidy_f {n : Int} {cs : List RCross} {pl : List RPl} {w w' : World} {e : Ending} (h : companyB n cs pl = false) (hr : ToCompany n cs pl w e w') : ToCompany n (tidyC n cs pl) pl w e w' := by rw [tidyC, h]; exact hr
theorem tidy_t {n : Int} {cs : List RCross} {pl : List RPl} {w w' : World} {e : Ending} (h : companyB n cs pl = true) (hr : ToCompany n (redL n cs) pl w e w') : ToCompany n (tidyC n cs pl) pl w e w' := by rw [tidyC, h]; exact hr
theorem redL_len (n : Int) (cs : List RCross) : (redL n cs).length ≤ cs.length := by
  unfold redL; split
  · exact redF_all cs
  · simp
theorem tidy_sz (n : Int) (cs : List RCross) (pl : List RPl) : szCompany (tidyC n cs pl) pl ≤ szCompany cs pl := by
  unfold tidyC szCompany
  have := redL_len n cs
  split <;> omega
set_option maxHeartbeats 8000000 in
set_option maxRecDepth 100000 in
theorem implTidy_any (n : Int) (v1 v2 : Value) (cs : List RCross) (pl : List RPl) (w : World) (h : RdCompany w v1 v2 cs pl) (hsz : szCompany cs pl ≤ 1048576) :
    Calls Try.prog 48 #[.agg #[.int .i64 n, v1, v2]] w (ToCompany n (tidyC n cs pl) pl w) := by
  obtain ⟨⟨A1, n1, rfl⟩, ⟨A2, n2, rfl⟩⟩ := h.forms
  go_enter Try.func48, Try.ntmps48
  have hcl : cs.length ≤ 1048576 := by unfold szCompany at hsz; omega
  go_wp2_with fail
  refine (companyCopied_any n _ _ cs pl _ (h.below (by (repeat' (first | (with_reducible exact Below.refl _ _) | (with_reducible assumption) | (with_reducible refine Below.setCell ?_ (by first | omega | (simp; omega) | (simp; done)) _) | (with_reducible refine Below.alloc ?_ (by first | omega | (simp; omega) | (simp; done)) _) | (with_reducible refine Below.drew ?_) | (with_reducible refine below_drewN ?_ _))))) hsz).mono ?_
  rintro e W1 ⟨x1, x2, S, rfl, ow, f1, q⟩
  obtain ⟨⟨B1, k1, rfl⟩, ⟨B2, k2, rfl⟩⟩ := ow.rd.forms
  have Lc : Loc W1 (w.heap.size) [.int .i64 n, .slice A1 cs.length n1, .slice A2 pl.length n2] := by have := ((Loc.new w #[.int .i64 n, .slice A1 cs.length n1, .slice A2 pl.length n2] 47).alloc _).below q; simpa using this
  have Lr : Loc W1 (w.heap.size + 1) [.int .i64 0, .slice none 0 0, .slice none 0 0] := by have := (Loc.new (w.alloc (.cells #[.int .i64 n, .slice A1 cs.length n1, .slice A2 pl.length n2] 47)) #[.int .i64 0, .slice none 0 0, .slice none 0 0] 47).below q; simpa using this
  have hb : Below w.heap.size w W1 := Below.trans (by (repeat' (first | (with_reducible exact Below.refl _ _) | (with_reducible assumption) | (with_reducible refine Below.setCell ?_ (by first | omega | (simp; omega) | (simp; done)) _) | (with_reducible refine Below.alloc ?_ (by first | omega | (simp; omega) | (simp; done)) _) | (with_reducible refine Below.drew ?_) | (with_reducible refine below_drewN ?_ _)))) (q.mono (by simp <;> omega))
  have hz0 : w.heap.size + 1 + 1 ≤ W1.heap.size := by have := q.size; simp at this; omega
  have hlow : w.heap.size + 1 + 1 ≤ (((w.alloc (.cells #[.int .i64 n, .slice A1 cs.length n1, .slice A2 pl.length n2] 47)).alloc (.cells #[.int .i64 0, .slice none 0 0, .slice none 0 0] 47))).heap.size := by first | exact Nat.le_refl _ | (simp; done) | (simp; omega) | omega
  have FK := Lib.hid (fresh_mono f1 hlow (Nat.le_refl _))
  have DK : Hid (∀ x ∈ S, x ∉ [w.heap.size, w.heap.size + 1]) := (fun x hx => by have := (FK.out.2 x hx).1; simp; omega)
  have OK := Lib.hid ow
  clear ow f1 hlow
  clear q
  go_upto_region 2 with (fail)
  replace Lc : Loc (W1.alloc (.cells #[.int .i64 n, .slice B1 cs.length k1, .slice B2 pl.length k2] 47)) (w.heap.size) [.int .i64 n, .slice A1 cs.length n1, .slice A2 pl.length n2] := Lc.alloc _
  replace Lr : Loc (W1.alloc (.cells #[.int .i64 n, .slice B1 cs.length k1, .slice B2 pl.length k2] 47)) (w.heap.size + 1) [.int .i64 0, .slice none 0 0, .slice none 0 0] := Lr.alloc _
  obtain ⟨go, hgo⟩ : ∃ g, W1.heap.size = g := ⟨_, rfl⟩
  have Lo : Loc (W1.alloc (.cells #[.int .i64 n, .slice B1 cs.length k1, .slice B2 pl.length k2] 47)) W1.heap.size [.int .i64 n, .slice B1 cs.length k1, .slice B2 pl.length k2] := Loc.new W1 #[.int .i64 n, .slice B1 cs.length k1, .slice B2 pl.length k2] 47
  rw [hgo] at Lo
  have OK' := Lib.hid (OK.out.below (w' := (W1.alloc (.cells #[.int .i64 n, .slice B1 cs.length k1, .slice B2 pl.length k2] 47))) ((Below.refl _ _).alloc (Nat.le_refl _) _))
  clear OK; have OK := OK'; clear OK'
  have DK' : Hid (∀ x ∈ S, x ∉ [w.heap.size, w.heap.size + 1, go]) := (fun x hx => by have := DK.out x hx; have := (FK.out.2 x hx).2; simp at *; omega)
  clear DK; have DK := DK'; clear DK'
  have FK' := Lib.hid (fresh_mono (w' := (W1.alloc (.cells #[.int .i64 n, .slice B1 cs.length k1, .slice B2 pl.length k2] 47))) FK.out (Nat.le_refl _) (by simp))
  clear FK; have FK := FK'; clear FK'
  replace hb : Below w.heap.size w (W1.alloc (.cells #[.int .i64 n, .slice B1 cs.length k1, .slice B2 pl.length k2] 47)) := hb.alloc hb.size _
  have hlto : go < (W1.alloc (.cells #[.int .i64 n, .slice B1 cs.length k1, .slice B2 pl.length k2] 47)).heap.size := by simp; omega
  have hne_c_o : w.heap.size < go := by omega
  have hne_r_o : w.heap.size + 1 < go := by omega
  generalize W1.alloc (.cells #[.int .i64 n, .slice B1 cs.length k1, .slice B2 pl.length k2] 47) = W2 at *
  rw [hgo]
  clear hgo
  have c0 := (Lc 0 _ rfl).1
  have c1 := (Lc 1 _ rfl).1
  have c2 := (Lc 2 _ rfl).1
  go_wp2_with fail
  refine twoB (implCompanyOk_any n _ _ cs pl _ (h.below hb)) (fun W3 hq q => ?_) (fun W3 hq q => ?_)
  · skip
    clear c0 c1 c2
    have hzq : W2.heap.size ≤ W3.heap.size := by have := q.size; (try simp at this); omega
    replace Lc := Lc.below q
    replace Lr := Lr.below q
    replace Lo := Lo.below q
    have OK' := Lib.hid (OK.out.below q)
    clear OK; have OK := OK'; clear OK'
    have FK' := Lib.hid (fresh_mono (w' := W3) FK.out (Nat.le_refl _) hzq)
    clear FK; have FK := FK'; clear FK'
    replace hb : Below w.heap.size w W3 := hb.trans (q.mono hb.size)
    clear q
    obtain ⟨SK1, SK2, eK, oK, pK⟩ := OK.out
    have FKx := FK.out
    have DKx := DK.out
    rw [eK] at FKx DKx
    have OK1 := Lib.hid oK
    have OK2 := Lib.hid pK
    have FK1 := Lib.hid (fresh_left FKx)
    have FK2 := Lib.hid (fresh_right FKx)
    have DK1 : Hid (∀ x ∈ SK1, x ∉ [w.heap.size, w.heap.size + 1, go]) := (fun x hx => DKx x (List.mem_append_left _ hx))
    have DK2 : Hid (∀ x ∈ SK2, x ∉ [w.heap.size, w.heap.size + 1, go]) := (fun x hx => DKx x (List.mem_append_right _ hx))
    have JK : Hid (∀ x ∈ SK1, x ∉ SK2) := (nodup2 FKx.1).2.2.1
    clear OK FK DK FKx DKx oK pK
    have hU : ∀ x ∈ SK2, x < W3.heap.size := fun x hx => (FK2.out.2 x hx).2
    have c0 := (Lc 0 _ rfl).1
    have c1 := (Lc 1 _ rfl).1
    have c2 := (Lc 2 _ rfl).1
    go_wp2_with fail
    refine (implReduced_any n _ cs _ ((h.below hb).1) hcl).mono ?_
    rintro e W4 ⟨x, rfl, own, q⟩
    clear c0 c1 c2
    obtain ⟨B3, k3, rfl, _, _⟩ := (RdS.of_own own).form
    have f3 := fresh_of own
    have o3 : OwL 115 cCross 2 W4 _ (.slice B3 (redL n cs).length k3) (redL n cs) := OwL.mk_ own
    obtain ⟨SN, hSN⟩ : ∃ T, (Value.slice B3 (redL n cs).length k3).ownBlock.toList = T := ⟨_, rfl⟩
    rw [hSN] at o3 f3
    clear hSN own
    have hzq : W3.heap.size ≤ W4.heap.size := by have := q.size; (try simp at this); omega
    replace Lc := Lc.below q
    replace Lr := Lr.below q
    replace Lo := Lo.below q
    have OK1' := Lib.hid (OK1.out.below q)
    clear OK1; have OK1 := OK1'; clear OK1'
    have FK1' := Lib.hid (fresh_mono (w' := W4) FK1.out (Nat.le_refl _) hzq)
    clear FK1; have FK1 := FK1'; clear FK1'
    have OK2' := Lib.hid (OK2.out.below q)
    clear OK2; have OK2 := OK2'; clear OK2'
    have FK2' := Lib.hid (fresh_mono (w' := W4) FK2.out (Nat.le_refl _) hzq)
    clear FK2; have FK2 := FK2'; clear FK2'
    replace hb : Below w.heap.size w W4 := hb.trans (q.mono hb.size)
    have hlow : W3.heap.size ≤ W3.heap.size := by first | exact Nat.le_refl _ | (simp; done) | (simp; omega) | omega
    have FN := Lib.hid (fresh_mono f3 hlow (Nat.le_refl _))
    have DN : Hid (∀ x ∈ SN, x ∉ [w.heap.size, w.heap.size + 1, go]) := (fun x hx => by have := (FN.out.2 x hx).1; simp; omega)
    have ON := Lib.hid o3
    clear o3 f3 hlow
    clear q
    have hJ : ∀ x ∈ SN, x ∉ SK2 := fun x hx hx' => by have := (FN.out.2 x hx).1; have := hU x hx'; omega
    have HJ := Lib.hid hJ
    clear hJ hU
    have o1 := (Lo 1 _ rfl).1
    have of1 := (Lo 1 _ rfl).2
    go_upto_region 4 with (fail)
    clear o1 of1
    replace Lc : Loc (W4.setCell ⟨go, 1, none⟩ (.slice B3 (redL n cs).length k3)) (w.heap.size) [.int .i64 n, .slice A1 cs.length n1, .slice A2 pl.length n2] := Lc.far (g := go) (i := 1) (u := .slice B3 (redL n cs).length k3) (by omega)
    replace Lr : Loc (W4.setCell ⟨go, 1, none⟩ (.slice B3 (redL n cs).length k3)) (w.heap.size + 1) [.int .i64 0, .slice none 0 0, .slice none 0 0] := Lr.far (g := go) (i := 1) (u := .slice B3 (redL n cs).length k3) (by omega)
    replace Lo : Loc (W4.setCell ⟨go, 1, none⟩ (.slice B3 (redL n cs).length k3)) (go) [.int .i64 n, .slice B3 (redL n cs).length k3, .slice B2 pl.length k2] := Lo.set (i := 1) (v := .slice B1 cs.length k1) rfl
    have hch : Chg [go] W4 (W4.setCell ⟨go, 1, none⟩ (.slice B3 (redL n cs).length k3)) := chg_set (Chg.refl _ _) (by simp)
    have OK1' := Lib.hid (OK1.out.chg hch (fun x hx hx' => DK1.out x hx (by simp at hx'; subst hx'; simp)))
    clear OK1; have OK1 := OK1'; clear OK1'
    have FK1' := Lib.hid (fresh_mono (w' := (W4.setCell ⟨go, 1, none⟩ (.slice B3 (redL n cs).length k3))) FK1.out (Nat.le_refl _) hch.size)
    clear FK1; have FK1 := FK1'; clear FK1'
    have OK2' := Lib.hid (OK2.out.chg hch (fun x hx hx' => DK2.out x hx (by simp at hx'; subst hx'; simp)))
    clear OK2; have OK2 := OK2'; clear OK2'
    have FK2' := Lib.hid (fresh_mono (w' := (W4.setCell ⟨go, 1, none⟩ (.slice B3 (redL n cs).length k3))) FK2.out (Nat.le_refl _) hch.size)
    clear FK2; have FK2 := FK2'; clear FK2'
    have ON' := Lib.hid (ON.out.chg hch (fun x hx hx' => DN.out x hx (by simp at hx'; subst hx'; simp)))
    clear ON; have ON := ON'; clear ON'
    have FN' := Lib.hid (fresh_mono (w' := (W4.setCell ⟨go, 1, none⟩ (.slice B3 (redL n cs).length k3))) FN.out (Nat.le_refl _) hch.size)
    clear FN; have FN := FN'; clear FN'
    replace hb : Below w.heap.size w (W4.setCell ⟨go, 1, none⟩ (.slice B3 (redL n cs).length k3)) := Below.chg hb hch hb.size (by simp; omega)
    have hzc := hch.size
    clear hch
    generalize W4.setCell ⟨go, 1, none⟩ (.slice B3 (redL n cs).length k3) = W5 at *
    clear OK1 FK1 DK1
    have FK2' := Lib.hid (fresh_mono (B' := w.heap.size + 1 + 1) FK2.out (by omega) (Nat.le_refl _))
    have FN' := Lib.hid (fresh_mono (B' := w.heap.size + 1 + 1) FN.out (by omega) (Nat.le_refl _))
    clear FK2 FN; have FK2 := FK2'; have FN := FN'; clear FK2' FN'
    have OP : OwCompany W5 (SN ++ SK2) (.slice B3 (redL n cs).length k3) (.slice B2 pl.length k2) (redL n cs) pl := ⟨_, _, rfl, ON.out, OK2.out⟩
    have FQ := Lib.hid (fresh_join FN.out FK2.out (HJ.out))
    have DQ : Hid (∀ x ∈ SN ++ SK2, x ∉ [w.heap.size, w.heap.size + 1, go]) := (fun x hx => (List.mem_append.1 hx).elim (DN.out x) (DK2.out x))
    have OQ := Lib.hid (OP)
    clear ON FN DN OK2 FK2 DK2
    obtain ⟨SQ, hSQ⟩ : ∃ T, SN ++ SK2 = T := ⟨_, rfl⟩
    rw [hSQ] at OQ FQ DQ
    clear hSQ
    clear OP
    have o0 := (Lo 0 _ rfl).1
    have o1 := (Lo 1 _ rfl).1
    have o2 := (Lo 2 _ rfl).1
    have r0 := (Lr 0 _ rfl).1
    have rf0 := (Lr 0 _ rfl).2
    have r1 := (Lr 1 _ rfl).1
    have rf1 := (Lr 1 _ rfl).2
    have r2 := (Lr 2 _ rfl).1
    have rf2 := (Lr 2 _ rfl).2
    go_wp2_with fail
    refine bodyPost_ret (v := .agg #[.int .i64 n, .slice B3 (redL n cs).length k3, .slice B2 pl.length k2]) (by simp [results, Try.results48, go_sem, *]) rfl (tidy_t hq.out ⟨_, _, SQ, rfl, ?_, ?_, ?_⟩)
    · exact OQ.out.chg (T := [w.heap.size + 1]) (by repeat' (first | (with_reducible exact Chg.refl _ _) | (with_reducible refine chg_set ?_ (by simp)))) (fun x hx hx' => DQ.out x hx (by simp at hx'; subst hx'; simp))
    · exact fresh_mono FQ.out (by omega) (by simp)
    · exact Below.chg hb (S := [w.heap.size + 1]) (by repeat' (first | (with_reducible exact Chg.refl _ _) | (with_reducible refine chg_set ?_ (by simp)))) hb.size (by simp)
  · skip
    clear c0 c1 c2
    have hzq : W2.heap.size ≤ W3.heap.size := by have := q.size; (try simp at this); omega
    replace Lc := Lc.below q
    replace Lr := Lr.below q
    replace Lo := Lo.below q
    have OK' := Lib.hid (OK.out.below q)
    clear OK; have OK := OK'; clear OK'
    have FK' := Lib.hid (fresh_mono (w' := W3) FK.out (Nat.le_refl _) hzq)
    clear FK; have FK := FK'; clear FK'
    replace hb : Below w.heap.size w W3 := hb.trans (q.mono hb.size)
    clear q
    have o0 := (Lo 0 _ rfl).1
    have o1 := (Lo 1 _ rfl).1
    have o2 := (Lo 2 _ rfl).1
    have r0 := (Lr 0 _ rfl).1
    have rf0 := (Lr 0 _ rfl).2
    have r1 := (Lr 1 _ rfl).1
    have rf1 := (Lr 1 _ rfl).2
    have r2 := (Lr 2 _ rfl).1
    have rf2 := (Lr 2 _ rfl).2
    go_wp2_with fail
    refine bodyPost_ret (v := .agg #[.int .i64 n, .slice B1 cs.length k1, .slice B2 pl.length k2]) (by simp [results, Try.results48, go_sem, *]) rfl (tidy_f hq.out ⟨_, _, S, rfl, ?_, ?_, ?_⟩)
    · exact OK.out.chg (T := [w.heap.size + 1]) (by repeat' (first | (with_reducible exact Chg.refl _ _) | (with_reducible refine chg_set ?_ (by simp)))) (fun x hx hx' => DK.out x hx (by simp at hx'; subst hx'; simp))
    · exact fresh_mono FK.out (by omega) (by simp)
    · exact Below.chg hb (S := [w.heap.size + 1]) (by repeat' (first | (with_reducible exact Chg.refl _ _) | (with_reducible refine chg_set ?_ (by simp)))) hb.size (by simp)
set_option maxHeartbeats 8000000 in
set_option maxRecDepth 100000 in
theorem specTidy_any (n : Int) (v1 v2 : Value) (cs : List RCross) (pl : List RPl) (w : World) (h : RdCompany w v1 v2 cs pl) (hsz : szCompany cs pl ≤ 1048576) :
    Calls Try.prog 91 #[.agg #[.int .i64 n, v1, v2]] w (ToCompany n (tidyC n cs pl) pl w) := by
  obtain ⟨⟨A1, n1, rfl⟩, ⟨A2, n2, rfl⟩⟩ := h.forms
  go_enter Try.func91, Try.ntmps91
  have hcl : cs.length ≤ 1048576 := by unfold szCompany at hsz; omega
  go_wp2_with fail
  refine (l37Copy_any n _ _ cs pl _ (h.below (by (repeat' (first | (with_reducible exact Below.refl _ _) | (with_reducible assumption) | (with_reducible refine Below.setCell ?_ (by first | omega | (simp; omega) | (simp; done)) _) | (with_reducible refine Below.alloc ?_ (by first | omega | (simp; omega) | (simp; done)) _) | (with_reducible refine Below.drew ?_) | (with_reducible refine below_drewN ?_ _))))) hsz).mono ?_
  rintro e W1 ⟨x1, x2, S, rfl, ow, f1, q⟩
  obtain ⟨⟨B1, k1, rfl⟩, ⟨B2, k2, rfl⟩⟩ := ow.rd.forms
  have Lc : Loc W1 (w.heap.size) [.int .i64 n, .slice A1 cs.length n1, .slice A2 pl.length n2] := by have := ((Loc.new w #[.int .i64 n, .slice A1 cs.length n1, .slice A2 pl.length n2] 47).alloc _).below q; simpa using this
  have Lr : Loc W1 (w.heap.size + 1) [.int .i64 0, .slice none 0 0, .slice none 0 0] := by have := (Loc.new (w.alloc (.cells #[.int .i64 n, .slice A1 cs.length n1, .slice A2 pl.length n2] 47)) #[.int .i64 0, .slice none 0 0, .slice none 0 0] 47).below q; simpa using this
  have hb : Below w.heap.size w W1 := Below.trans (by (repeat' (first | (with_reducible exact Below.refl _ _) | (with_reducible assumption) | (with_reducible refine Below.setCell ?_ (by first | omega | (simp; omega) | (simp; done)) _) | (with_reducible refine Below.alloc ?_ (by first | omega | (simp; omega) | (simp; done)) _) | (with_reducible refine Below.drew ?_) | (with_reducible refine below_drewN ?_ _)))) (q.mono (by simp <;> omega))
  have hz0 : w.heap.size + 1 + 1 ≤ W1.heap.size := by have := q.size; simp at this; omega
  have hlow : w.heap.size + 1 + 1 ≤ (((w.alloc (.cells #[.int .i64 n, .slice A1 cs.length n1, .slice A2 pl.length n2] 47)).alloc (.cells #[.int .i64 0, .slice none 0 0, .slice none 0 0] 47))).heap.size := by first | exact Nat.le_refl _ | (simp; done) | (simp; omega) | omega
  have FK := Lib.hid (fresh_mono f1 hlow (Nat.le_refl _))
  have DK : Hid (∀ x ∈ S, x ∉ [w.heap.size, w.heap.size + 1]) := (fun x hx => by have := (FK.out.2 x hx).1; simp; omega)
  have OK := Lib.hid ow
  clear ow f1 hlow
  clear q
  go_upto_region 2 with (fail)
  replace Lc : Loc (W1.alloc (.cells #[.int .i64 n, .slice B1 cs.length k1, .slice B2 pl.length k2] 47)) (w.heap.size) [.int .i64 n, .slice A1 cs.length n1, .slice A2 pl.length n2] := Lc.alloc _
  replace Lr : Loc (W1.alloc (.cells #[.int .i64 n, .slice B1 cs.length k1, .slice B2 pl.length k2] 47)) (w.heap.size + 1) [.int .i64 0, .slice none 0 0, .slice none 0 0] := Lr.alloc _
  obtain ⟨go, hgo⟩ : ∃ g, W1.heap.size = g := ⟨_, rfl⟩
  have Lo : Loc (W1.alloc (.cells #[.int .i64 n, .slice B1 cs.length k1, .slice B2 pl.length k2] 47)) W1.heap.size [.int .i64 n, .slice B1 cs.length k1, .slice B2 pl.length k2] := Loc.new W1 #[.int .i64 n, .slice B1 cs.length k1, .slice B2 pl.length k2] 47
  rw [hgo] at Lo
  have OK' := Lib.hid (OK.out.below (w' := (W1.alloc (.cells #[.int .i64 n, .slice B1 cs.length k1, .slice B2 pl.length k2] 47))) ((Below.refl _ _).alloc (Nat.le_refl _) _))
  clear OK; have OK := OK'; clear OK'
  have DK' : Hid (∀ x ∈ S, x ∉ [w.heap.size, w.heap.size + 1, go]) := (fun x hx => by have := DK.out x hx; have := (FK.out.2 x hx).2; simp at *; omega)
  clear DK; have DK := DK'; clear DK'
  have FK' := Lib.hid (fresh_mono (w' := (W1.alloc (.cells #[.int .i64 n, .slice B1 cs.length k1, .slice B2 pl.length k2] 47))) FK.out (Nat.le_refl _) (by simp))
  clear FK; have FK := FK'; clear FK'
  replace hb : Below w.heap.size w (W1.alloc (.cells #[.int .i64 n, .slice B1 cs.length k1, .slice B2 pl.length k2] 47)) := hb.alloc hb.size _
  have hlto : go < (W1.alloc (.cells #[.int .i64 n, .slice B1 cs.length k1, .slice B2 pl.length k2] 47)).heap.size := by simp; omega
  have hne_c_o : w.heap.size < go := by omega
  have hne_r_o : w.heap.size + 1 < go := by omega
  generalize W1.alloc (.cells #[.int .i64 n, .slice B1 cs.length k1, .slice B2 pl.length k2] 47) = W2 at *
  rw [hgo]
  clear hgo
  have c0 := (Lc 0 _ rfl).1
  have c1 := (Lc 1 _ rfl).1
  have c2 := (Lc 2 _ rfl).1
  go_wp2_with fail
  refine twoB (specCompanyOk_any n _ _ cs pl _ (h.below hb)) (fun W3 hq q => ?_) (fun W3 hq q => ?_)
  · skip
    clear c0 c1 c2
    have hzq : W2.heap.size ≤ W3.heap.size := by have := q.size; (try simp at this); omega
    replace Lc := Lc.below q
    replace Lr := Lr.below q
    replace Lo := Lo.below q
    have OK' := Lib.hid (OK.out.below q)
    clear OK; have OK := OK'; clear OK'
    have FK' := Lib.hid (fresh_mono (w' := W3) FK.out (Nat.le_refl _) hzq)
    clear FK; have FK := FK'; clear FK'
    replace hb : Below w.heap.size w W3 := hb.trans (q.mono hb.size)
    clear q
    obtain ⟨SK1, SK2, eK, oK, pK⟩ := OK.out
    have FKx := FK.out
    have DKx := DK.out
    rw [eK] at FKx DKx
    have OK1 := Lib.hid oK
    have OK2 := Lib.hid pK
    have FK1 := Lib.hid (fresh_left FKx)
    have FK2 := Lib.hid (fresh_right FKx)
    have DK1 : Hid (∀ x ∈ SK1, x ∉ [w.heap.size, w.heap.size + 1, go]) := (fun x hx => DKx x (List.mem_append_left _ hx))
    have DK2 : Hid (∀ x ∈ SK2, x ∉ [w.heap.size, w.heap.size + 1, go]) := (fun x hx => DKx x (List.mem_append_right _ hx))
    have JK : Hid (∀ x ∈ SK1, x ∉ SK2) := (nodup2 FKx.1).2.2.1
    clear OK FK DK FKx DKx oK pK
    have hU : ∀ x ∈ SK2, x < W3.heap.size := fun x hx => (FK2.out.2 x hx).2
    have c0 := (Lc 0 _ rfl).1
    have c1 := (Lc 1 _ rfl).1
    have c2 := (Lc 2 _ rfl).1
    go_wp2_with fail
    refine (specReduced_any n _ cs _ ((h.below hb).1) hcl).mono ?_
    rintro e W4 ⟨x, rfl, own, q⟩
    clear c0 c1 c2
    obtain ⟨B3, k3, rfl, _, _⟩ := (RdS.of_own own).form
    have f3 := fresh_of own
    have o3 : OwL 115 cCross 2 W4 _ (.slice B3 (redL n cs).length k3) (redL n cs) := OwL.mk_ own
    obtain ⟨SN, hSN⟩ : ∃ T, (Value.slice B3 (redL n cs).length k3).ownBlock.toList = T := ⟨_, rfl⟩
    rw [hSN] at o3 f3
    clear hSN own
    have hzq : W3.heap.size ≤ W4.heap.size := by have := q.size; (try simp at this); omega
    replace Lc := Lc.below q
    replace Lr := Lr.below q
    replace Lo := Lo.below q
    have OK1' := Lib.hid (OK1.out.below q)
    clear OK1; have OK1 := OK1'; clear OK1'
    have FK1' := Lib.hid (fresh_mono (w' := W4) FK1.out (Nat.le_refl _) hzq)
    clear FK1; have FK1 := FK1'; clear FK1'
    have OK2' := Lib.hid (OK2.out.below q)
    clear OK2; have OK2 := OK2'; clear OK2'
    have FK2' := Lib.hid (fresh_mono (w' := W4) FK2.out (Nat.le_refl _) hzq)
    clear FK2; have FK2 := FK2'; clear FK2'
    replace hb : Below w.heap.size w W4 := hb.trans (q.mono hb.size)
    have hlow : W3.heap.size ≤ W3.heap.size := by first | exact Nat.le_refl _ | (simp; done) | (simp; omega) | omega
    have FN := Lib.hid (fresh_mono f3 hlow (Nat.le_refl _))
    have DN : Hid (∀ x ∈ SN, x ∉ [w.heap.size, w.heap.size + 1, go]) := (fun x hx => by have := (FN.out.2 x hx).1; simp; omega)
    have ON := Lib.hid o3
    clear o3 f3 hlow
    clear q
    have hJ : ∀ x ∈ SN, x ∉ SK2 := fun x hx hx' => by have := (FN.out.2 x hx).1; have := hU x hx'; omega
    have HJ := Lib.hid hJ
    clear hJ hU
    have o1 := (Lo 1 _ rfl).1
    have of1 := (Lo 1 _ rfl).2
    go_upto_region 4 with (fail)
    clear o1 of1
    replace Lc : Loc (W4.setCell ⟨go, 1, none⟩ (.slice B3 (redL n cs).length k3)) (w.heap.size) [.int .i64 n, .slice A1 cs.length n1, .slice A2 pl.length n2] := Lc.far (g := go) (i := 1) (u := .slice B3 (redL n cs).length k3) (by omega)
    replace Lr : Loc (W4.setCell ⟨go, 1, none⟩ (.slice B3 (redL n cs).length k3)) (w.heap.size + 1) [.int .i64 0, .slice none 0 0, .slice none 0 0] := Lr.far (g := go) (i := 1) (u := .slice B3 (redL n cs).length k3) (by omega)
    replace Lo : Loc (W4.setCell ⟨go, 1, none⟩ (.slice B3 (redL n cs).length k3)) (go) [.int .i64 n, .slice B3 (redL n cs).length k3, .slice B2 pl.length k2] := Lo.set (i := 1) (v := .slice B1 cs.length k1) rfl
    have hch : Chg [go] W4 (W4.setCell ⟨go, 1, none⟩ (.slice B3 (redL n cs).length k3)) := chg_set (Chg.refl _ _) (by simp)
    have OK1' := Lib.hid (OK1.out.chg hch (fun x hx hx' => DK1.out x hx (by simp at hx'; subst hx'; simp)))
    clear OK1; have OK1 := OK1'; clear OK1'
    have FK1' := Lib.hid (fresh_mono (w' := (W4.setCell ⟨go, 1, none⟩ (.slice B3 (redL n cs).length k3))) FK1.out (Nat.le_refl _) hch.size)
    clear FK1; have FK1 := FK1'; clear FK1'
    have OK2' := Lib.hid (OK2.out.chg hch (fun x hx hx' => DK2.out x hx (by simp at hx'; subst hx'; simp)))
    clear OK2; have OK2 := OK2'; clear OK2'
    have FK2' := Lib.hid (fresh_mono (w' := (W4.setCell ⟨go, 1, none⟩ (.slice B3 (redL n cs).length k3))) FK2.out (Nat.le_refl _) hch.size)
    clear FK2; have FK2 := FK2'; clear FK2'
    have ON' := Lib.hid (ON.out.chg hch (fun x hx hx' => DN.out x hx (by simp at hx'; subst hx'; simp)))
    clear ON; have ON := ON'; clear ON'
    have FN' := Lib.hid (fresh_mono (w' := (W4.setCell ⟨go, 1, none⟩ (.slice B3 (redL n cs).length k3))) FN.out (Nat.le_refl _) hch.size)
    clear FN; have FN := FN'; clear FN'
    replace hb : Below w.heap.size w (W4.setCell ⟨go, 1, none⟩ (.slice B3 (redL n cs).length k3)) := Below.chg hb hch hb.size (by simp; omega)
    have hzc := hch.size
    clear hch
    generalize W4.setCell ⟨go, 1, none⟩ (.slice B3 (redL n cs).length k3) = W5 at *
    clear OK1 FK1 DK1
    have FK2' := Lib.hid (fresh_mono (B' := w.heap.size + 1 + 1) FK2.out (by omega) (Nat.le_refl _))
    have FN' := Lib.hid (fresh_mono (B' := w.heap.size + 1 + 1) FN.out (by omega) (Nat.le_refl _))
    clear FK2 FN; have FK2 := FK2'; have FN := FN'; clear FK2' FN'
    have OP : OwCompany W5 (SN ++ SK2) (.slice B3 (redL n cs).length k3) (.slice B2 pl.length k2) (redL n cs) pl := ⟨_, _, rfl, ON.out, OK2.out⟩
    have FQ := Lib.hid (fresh_join FN.out FK2.out (HJ.out))
    have DQ : Hid (∀ x ∈ SN ++ SK2, x ∉ [w.heap.size, w.heap.size + 1, go]) := (fun x hx => (List.mem_append.1 hx).elim (DN.out x) (DK2.out x))
    have OQ := Lib.hid (OP)
    clear ON FN DN OK2 FK2 DK2
    obtain ⟨SQ, hSQ⟩ : ∃ T, SN ++ SK2 = T := ⟨_, rfl⟩
    rw [hSQ] at OQ FQ DQ
    clear hSQ
    clear OP
    have o0 := (Lo 0 _ rfl).1
    have o1 := (Lo 1 _ rfl).1
    have o2 := (Lo 2 _ rfl).1
    have r0 := (Lr 0 _ rfl).1
    have rf0 := (Lr 0 _ rfl).2
    have r1 := (Lr 1 _ rfl).1
    have rf1 := (Lr 1 _ rfl).2
    have r2 := (Lr 2 _ rfl).1
    have rf2 := (Lr 2 _ rfl).2
    go_wp2_with fail
    refine bodyPost_ret (v := .agg #[.int .i64 n, .slice B3 (redL n cs).length k3, .slice B2 pl.length k2]) (by simp [results, Try.results91, go_sem, *]) rfl (tidy_t hq.out ⟨_, _, SQ, rfl, ?_, ?_, ?_⟩)
    · exact OQ.out.chg (T := [w.heap.size + 1]) (by repeat' (first | (with_reducible exact Chg.refl _ _) | (with_reducible refine chg_set ?_ (by simp)))) (fun x hx hx' => DQ.out x hx (by simp at hx'; subst hx'; simp))
    · exact fresh_mono FQ.out (by omega) (by simp)
    · exact Below.chg hb (S := [w.heap.size + 1]) (by repeat' (first | (with_reducible exact Chg.refl _ _) | (with_reducible refine chg_set ?_ (by simp)))) hb.size (by simp)
  · skip
    clear c0 c1 c2
    have hzq : W2.heap.size ≤ W3.heap.size := by have := q.size; (try simp at this); omega
    replace Lc := Lc.below q
    replace Lr := Lr.below q
    replace Lo := Lo.below q
    have OK' := Lib.hid (OK.out.below q)
    clear OK; have OK := OK'; clear OK'
    have FK' := Lib.hid (fresh_mono (w' := W3) FK.out (Nat.le_refl _) hzq)
    clear FK; have FK := FK'; clear FK'
    replace hb : Below w.heap.size w W3 := hb.trans (q.mono hb.size)
    clear q
    have o0 := (Lo 0 _ rfl).1
    have o1 := (Lo 1 _ rfl).1
    have o2 := (Lo 2 _ rfl).1
    have r0 := (Lr 0 _ rfl).1
    have rf0 := (Lr 0 _ rfl).2
    have r1 := (Lr 1 _ rfl).1
    have rf1 := (Lr 1 _ rfl).2
    have r2 := (Lr 2 _ rfl).1
    have rf2 := (Lr 2 _ rfl).2
    go_wp2_with fail
    refine bodyPost_ret (v := .agg #[.int .i64 n, .slice B1 cs.length k1, .slice B2 pl.length k2]) (by simp [results, Try.results91, go_sem, *]) rfl (tidy_f hq.out ⟨_, _, S, rfl, ?_, ?_, ?_⟩)
    · exact OK.out.chg (T := [w.heap.size + 1]) (by repeat' (first | (with_reducible exact Chg.refl _ _) | (with_reducible refine chg_set ?_ (by simp)))) (fun x hx hx' => DK.out x hx (by simp at hx'; subst hx'; simp))
    · exact fresh_mono FK.out (by omega) (by simp)
    · exact Below.chg hb (S := [w.heap.size + 1]) (by repeat' (first | (with_reducible exact Chg.refl _ _) | (with_reducible refine chg_set ?_ (by simp)))) hb.size (by simp)
end Go.Proofs.Ytjbhlbcjljdjmaa

namespace Go.Proofs.Ytjbhlbcjljdjmaa
open Go.RowKit
theorem swapL_swapL : ∀ (l : List Int) (k : Nat), k + 1 < l.length → swapL (swapL l k) k = l := by
  intro l
  induction l with
  | nil => intro k h; simp at h
  | cons a l ih =>
    intro k h
    cases k with
    | zero =>
      match l, h with
      | b :: l, _ => rw [swapL_zero, swapL_zero]
    | succ k => rw [swapL_succ, swapL_succ, ih k (by simpa using h)]
theorem swapL_at {l : List Int} {k : Nat} (h : k + 1 < l.length) : (swapL l k).getD k 0 = l.getD (k + 1) 0 := by
  unfold swapL
  simp only [List.getD_eq_getElem?_getD, List.getElem?_set, List.length_set]
  rw [if_neg (show ¬ k + 1 = k by omega)]
  simp only [if_true]
  rw [if_pos (show k < l.length by omega), Option.getD_some]
theorem swapL_at1 {l : List Int} {k : Nat} (h : k + 1 < l.length) : (swapL l k).getD (k + 1) 0 = l.getD k 0 := by
  unfold swapL
  simp only [List.getD_eq_getElem?_getD, List.getElem?_set, List.length_set]
  simp only [if_true]
  rw [if_pos h, Option.getD_some]
theorem swapL_ne {l : List Int} {k j : Nat} (h1 : j ≠ k) (h2 : j ≠ k + 1) : (swapL l k).getD j 0 = l.getD j 0 := by
  unfold swapL
  simp only [List.getD_eq_getElem?_getD, List.getElem?_set, List.length_set]
  rw [if_neg (fun e => h2 e.symm), if_neg (fun e => h1 e.symm)]
theorem upN_getD {n i : Nat} (h : i < n) : (upN n).getD i 0 = (i : Int) := by
  unfold upN
  rw [List.getD_eq_getElem?_getD, List.getElem?_map, List.getElem?_range h]; rfl
theorem ord_ne {n : Nat} {o : List Int} (h : IsOrd n o) {i j x y : Nat} (hi : i < n) (hj : j < n) (hij : i ≠ j) (hx : o.getD i 0 = (x : Int)) (hy : o.getD j 0 = (y : Int)) : x ≠ y := by
  have hl := h.len
  have h1 : i < o.length := by omega
  have h2 : j < o.length := by omega
  have := h.ne h1 h2 hij
  rw [List.getD_eq_getElem?_getD, List.getElem?_eq_getElem h1, Option.getD_some] at hx
  rw [List.getD_eq_getElem?_getD, List.getElem?_eq_getElem h2, Option.getD_some] at hy
  intro e
  subst e
  exact this (by rw [hx, hy])
/-- the table t' is t with d more for the pair x, y -/
structure Adds (n : Nat) (t t' : List (List Int)) (x y : Nat) (d : Int) : Prop where
  sq : Sq n t'
  cell : ∀ i j, cellT t' i j = if (i = x ∧ j = y) ∨ (i = y ∧ j = x) then cellT t i j + d else cellT t i j
theorem Adds.st {n : Nat} {o : List Int} {t t' : List (List Int)} {x y : Nat} {d : Int} (h : IsSt n (o, t)) (ha : Adds n t t' x y d) : IsSt n (o, t') := by
  refine ⟨h.ord, ha.sq, fun i j => ?_⟩
  show cellT t' i j = cellT t' j i
  have hs : cellT t i j = cellT t j i := h.sym i j
  rw [ha.cell, ha.cell, hs]
  by_cases h1 : (i = x ∧ j = y) ∨ (i = y ∧ j = x)
  · rw [if_pos h1, if_pos (h1.symm.imp (fun e => ⟨e.2, e.1⟩) (fun e => ⟨e.2, e.1⟩))]
  · rw [if_neg h1, if_neg (fun e => h1 (e.symm.imp (fun e => ⟨e.2, e.1⟩) (fun e => ⟨e.2, e.1⟩)))]
theorem step_at {n : Nat} {o : List Int} {t : List (List Int)} (h : IsSt n (o, t)) {k : Nat} (hk : k + 1 < n) (f : Bool) {x y : Nat} (hx : o.getD k 0 = (x : Int)) (hy : o.getD (k + 1) 0 = (y : Int)) :
    x < n ∧ y < n ∧ x ≠ y ∧ ∃ t', twStep (o, t) ((k : Int), f) = (swapL o k, t') ∧ Adds n t t' x y (stepB f) ∧ IsSt n (swapL o k, t') := by
  obtain ⟨x', y', hx', hy', hne, e1, e2, e3, e4⟩ := pair_of h.ord hk
  have ex : x = x' := by have := hx.symm.trans e1; omega
  have ey : y = y' := by have := hy.symm.trans e2; omega
  subst ex ey
  have hst := h.step (c := ((k : Int), f)) ⟨by simp, by simp; omega⟩
  rw [twStep_of (_n := n) (c := ((k : Int), f)) e3 e4] at hst ⊢
  exact ⟨hx', hy', hne, _, rfl, ⟨hst.sq, fun i j => add2_cell h.sq hx' hy' hne _ i j⟩, hst⟩
theorem turn_of {n i : Nat} (f : Bool) : ∀ (m : Nat) (o : List Int) (t : List (List Int)), IsSt n (o, t) → i + m + 1 < n → ∀ x y : Nat, o.getD i 0 = (x : Int) → o.getD (i + m + 1) 0 = (y : Int) →
    ∃ t', ((downL i m ++ [((i : Int), f), ((i : Int), f)]) ++ upL i m).foldl twStep (o, t) = (o, t') ∧ Adds n t t' x y (2 * stepB f) := by
  intro m
  induction m with
  | zero =>
    intro o t h hk x y hx hy
    have hl := h.ord.len
    have hl : o.length = n := hl
    obtain ⟨_, _, hne, t1, e1, a1, s1⟩ := step_at h hk f hx hy
    obtain ⟨_, _, _, t2, e2, a2, s2⟩ := step_at s1 hk f ((swapL_at (by omega)).trans hy) ((swapL_at1 (by omega)).trans hx)
    refine ⟨t2, ?_, a2.sq, fun a b => ?_⟩
    · show twStep (twStep (o, t) ((i : Int), f)) ((i : Int), f) = (o, t2)
      rw [e1, e2, swapL_swapL o i (by omega)]
    · rw [a2.cell, a1.cell]
      by_cases h1 : (a = x ∧ b = y) ∨ (a = y ∧ b = x)
      · rw [if_pos h1, if_pos h1.symm, if_pos h1]; omega
      · rw [if_neg h1, if_neg (fun e => h1 e.symm), if_neg h1]
  | succ m ih =>
    intro o t h hk x y hx hy
    have hl : o.length = n := h.ord.len
    have hk1 : i + m + 1 + 1 < n := by omega
    obtain ⟨z, _, _, _, _, hz, _, _, _⟩ := pair_of h.ord hk1
    have hy' : o.getD (i + m + 1 + 1) 0 = (y : Int) := by rw [← hy]; rfl
    obtain ⟨_, _, hzy, t1, e1, a1, s1⟩ := step_at h hk1 false hz hy'
    have hxz : x ≠ z := ord_ne h.ord (show i < n by omega) (show i + m + 1 < n by omega) (by omega) hx hz
    have hxy : x ≠ y := ord_ne h.ord (show i < n by omega) hk1 (by omega) hx hy'
    obtain ⟨t2, e2, a2⟩ := ih (swapL o (i + m + 1)) t1 s1 (by omega) x y ((swapL_ne (by omega) (by omega)).trans hx) ((swapL_at (by omega)).trans hy')
    obtain ⟨_, _, _, t3, e3, a3, s3⟩ := step_at (a2.st s1) hk1 true ((swapL_at (by omega)).trans hy') ((swapL_at1 (by omega)).trans hz)
    refine ⟨t3, ?_, a3.sq, fun a b => ?_⟩
    · have hsplit : (downL i (m + 1) ++ [((i : Int), f), ((i : Int), f)]) ++ upL i (m + 1) = (((i + m + 1 : Nat) : Int), false) :: (((downL i m ++ [((i : Int), f), ((i : Int), f)]) ++ upL i m) ++ [(((i + m + 1 : Nat) : Int), true)]) := by
        simp [downL, upL]
      rw [hsplit, List.foldl_cons, List.foldl_append, e1, e2]
      show twStep _ _ = _
      rw [e3, swapL_swapL o _ (by omega)]
    · have hf : stepB false = -1 := rfl
      have ht : stepB true = 1 := rfl
      rw [a3.cell, a2.cell, a1.cell, hf, ht]
      generalize cellT t a b = v
      generalize stepB f = s
      repeat' split
      all_goals omega
theorem turn_home {n i k : Nat} (f : Bool) {t : List (List Int)} (h : IsSt n (upN n, t)) (hik : i < k) (hk : k < n) : ∃ t', (turnL i k f).foldl twStep (upN n, t) = (upN n, t') ∧ Adds n t t' i k (2 * stepB f) := by
  unfold turnL
  exact turn_of f (k - 1 - i) (upN n) t h (by omega) i k (upN_getD (by omega)) (by rw [show i + (k - 1 - i) + 1 = k by omega]; exact upN_getD hk)
def dirT (f : Bool) (m : Nat) : Int := if f = true then 2 * (m : Int) else -(2 * (m : Int))
theorem many_home {n i k : Nat} (f : Bool) {t : List (List Int)} (h : IsSt n (upN n, t)) (hik : i < k) (hk : k < n) (m : Nat) : ∃ t', (manyL (turnL i k f) m).foldl twStep (upN n, t) = (upN n, t') ∧ Adds n t t' i k (dirT f m) := by
  induction m with
  | zero => exact ⟨t, rfl, h.sq, fun a b => by have : dirT f 0 = 0 := by cases f <;> rfl
                                               rw [this, Int.add_zero]; split <;> rfl⟩
  | succ m ih =>
    obtain ⟨t1, e1, a1⟩ := ih
    obtain ⟨t2, e2, a2⟩ := turn_home f (a1.st h) hik hk
    refine ⟨t2, by rw [manyL, List.foldl_append, e1, e2], a2.sq, fun a b => ?_⟩
    rw [a2.cell, a1.cell]
    have hd : dirT f (m + 1) = dirT f m + 2 * stepB f := by cases f <;> simp [dirT, stepB] <;> omega
    rw [hd]
    split <;> omega
theorem dir_even {t : Int} (h : t % 2 = 0) : dirT (decide (t < 0)) (timesT t) = -t := by
  unfold dirT timesT
  by_cases h1 : t < 0
  · rw [decide_eq_true h1, if_pos rfl]; omega
  · rw [decide_eq_false h1, if_neg (by simp)]; omega
theorem pairI_of (i k : Nat) : pairI [(i : Int), (k : Int)] = i := rfl
theorem pairK_of (i k : Nat) : pairK [(i : Int), (k : Int)] = k := rfl
/-- each pair of a list is unwound -/
theorem unw_home {n : Nat} {ll : List (List Int)} : ∀ (ps : List (List Int)) (t : List (List Int)), IsSt n (upN n, t) → ps.Nodup → (∀ r ∈ ps, ∃ i k : Nat, r = [(i : Int), (k : Int)] ∧ i < k ∧ k < n ∧ cellT ll i k % 2 = 0) →
    ∃ t', (unwTo ll ps).foldl twStep (upN n, t) = (upN n, t') ∧ IsSt n (upN n, t') ∧ ∀ a b : Nat, a < b → cellT t' a b = cellT t a b - (if [(a : Int), (b : Int)] ∈ ps then cellT ll a b else 0) := by
  intro ps
  induction ps with
  | nil => intro t h _ _; exact ⟨t, rfl, h, fun a b _ => by rw [if_neg (by simp)]; omega⟩
  | cons r ps ih =>
    intro t h hnd hps
    obtain ⟨i, k, rfl, hik, hk, hev⟩ := hps r List.mem_cons_self
    rw [List.nodup_cons] at hnd
    obtain ⟨t1, e1, a1⟩ := many_home (decide (cellT ll i k < 0)) h hik hk (timesT (cellT ll i k))
    rw [dir_even hev] at a1
    obtain ⟨t2, e2, s2, c2⟩ := ih t1 (a1.st h) hnd.2 (fun r hr => hps r (List.mem_cons_of_mem _ hr))
    refine ⟨t2, ?_, s2, fun a b hab => ?_⟩
    · have : unwTo ll ([(i : Int), (k : Int)] :: ps) = unwR ll [(i : Int), (k : Int)] ++ unwTo ll ps := by unfold unwTo; rw [List.flatMap_cons]
      rw [this, List.foldl_append]
      unfold unwR
      rw [pairI_of, pairK_of, e1, e2]
    · rw [c2 a b hab, a1.cell]
      by_cases h1 : a = i ∧ b = k
      · obtain ⟨rfl, rfl⟩ := h1
        rw [if_pos (.inl ⟨rfl, rfl⟩), if_neg hnd.1, if_pos List.mem_cons_self]; omega
      · have hne : ¬ ([(a : Int), (b : Int)] = [(i : Int), (k : Int)]) := by
          intro e
          injection e with e1 e2
          injection e2 with e2 _
          exact h1 ⟨by omega, by omega⟩
        rw [if_neg (fun e => e.elim h1 (fun e => by omega))]
        by_cases h2 : [(a : Int), (b : Int)] ∈ ps
        · rw [if_pos h2, if_pos (List.mem_cons_of_mem _ h2)]
        · rw [if_neg h2, if_neg (fun e => (List.mem_cons.1 e).elim hne h2)]
theorem woundR_nodup (ll : List (List Int)) (i m : Nat) : (woundR ll i m).Nodup := by
  unfold woundR
  rw [List.nodup_iff_pairwise_ne, List.pairwise_map]
  refine List.Pairwise.imp ?_ (List.Pairwise.filter _ (List.nodup_iff_pairwise_ne.1 List.nodup_range))
  intro a b hab e
  injection e with _ e2
  injection e2 with e2 _
  exact hab (by omega)
theorem woundTo_nodup (ll : List (List Int)) (n m : Nat) : (woundTo ll n m).Nodup := by
  induction m with
  | zero => exact List.nodup_nil
  | succ m ih =>
    rw [woundTo, List.nodup_append]
    refine ⟨ih, woundR_nodup ll m n, ?_⟩
    intro r hr r' hr' e
    subst e
    obtain ⟨i, k, e, h1, _⟩ := woundTo_mem hr
    obtain ⟨k', _, e'⟩ := List.mem_map.1 hr'
    rw [← e'] at e
    injection e with e1 _
    omega
theorem woundTo_all {ll : List (List Int)} {n m a b : Nat} (ha : a < m) (hab : a < b) (hb : b < n) (hc : cellT ll a b ≠ 0) : [(a : Int), (b : Int)] ∈ woundTo ll n m := by
  induction m with
  | zero => omega
  | succ m ih =>
    rw [woundTo, List.mem_append]
    rcases Nat.lt_succ_iff_lt_or_eq.1 ha with h | rfl
    · exact .inl (ih h)
    · refine .inr (List.mem_map.2 ⟨b, List.mem_filter.2 ⟨List.mem_range.2 hb, ?_⟩, rfl⟩)
      simp [woundB, hab, hc]
/-- twists are odd exactly where a pair stands the other way round -/
def ParSt (n : Nat) (st : List Int × List (List Int)) : Prop := ∀ p q : Nat, p < q → q < n → ∀ a b : Nat, st.1.getD p 0 = (a : Int) → st.1.getD q 0 = (b : Int) → cellT st.2 a b % 2 = if b < a then 1 else 0
theorem ParSt.start (n : Nat) : ParSt n (upN n, zeroT n) := by
  intro p q hpq hq a b ha hb
  have ha : (upN n).getD p 0 = (a : Int) := ha
  have hb : (upN n).getD q 0 = (b : Int) := hb
  rw [upN_getD (by omega)] at ha
  rw [upN_getD (by omega)] at hb
  show cellT (zeroT n) a b % 2 = _
  rw [zeroT_cell, if_neg (by omega)]; rfl
theorem ParSt.step {n : Nat} {o : List Int} {t : List (List Int)} (h : IsSt n (o, t)) (hp : ParSt n (o, t)) {k : Nat} (hk : k + 1 < n) (f : Bool) : ParSt n (twStep (o, t) ((k : Int), f)) := by
  have hl : o.length = n := h.ord.len
  obtain ⟨x, y, _, _, _, ex, ey, _, _⟩ := pair_of h.ord hk
  obtain ⟨hx, hy, hne, t', e, ad, s'⟩ := step_at h hk f ex ey
  rw [e]
  have other : ∀ p q a b : Nat, p < q → q < n → ¬ (p = k ∧ q = k + 1) → o.getD p 0 = (a : Int) → o.getD q 0 = (b : Int) → cellT t' a b % 2 = if b < a then 1 else 0 := by
    intro p q a b hpq hq hno ha hb
    rw [ad.cell, if_neg, ]
    · exact hp p q hpq hq a b ha hb
    · rintro (⟨rfl, rfl⟩ | ⟨rfl, rfl⟩)
      · have h1 : p = k := Classical.byContradiction fun hn => ord_ne h.ord (show p < n by omega) (show k < n by omega) hn ha ex rfl
        have h2 : q = k + 1 := Classical.byContradiction fun hn => ord_ne h.ord hq hk hn hb ey rfl
        exact hno ⟨h1, h2⟩
      · have h1 : p = k + 1 := Classical.byContradiction fun hn => ord_ne h.ord (show p < n by omega) hk hn ha ey rfl
        have h2 : q = k := Classical.byContradiction fun hn => ord_ne h.ord hq (show k < n by omega) hn hb ex rfl
        omega
  intro p q hpq hq a b ha hb
  have ga : (swapL o k).getD p 0 = (a : Int) := ha
  have gb : (swapL o k).getD q 0 = (b : Int) := hb
  clear ha hb
  show cellT t' a b % 2 = _
  by_cases h1 : p = k
  · subst h1
    rw [swapL_at (by omega)] at ga
    by_cases h2 : q = p + 1
    · subst h2
      rw [swapL_at1 (by omega)] at gb
      have ea : a = y := by have := ga.symm.trans ey; omega
      have eb : b = x := by have := gb.symm.trans ex; omega
      subst ea eb
      have h3 : cellT t b a % 2 = if a < b then 1 else 0 := hp p (p + 1) (by omega) hq b a ex ey
      have h4 : cellT t a b = cellT t b a := h.sym a b
      rw [ad.cell, if_pos (.inr ⟨rfl, rfl⟩), h4]
      have hs : stepB f = 1 ∨ stepB f = -1 := by cases f; exact .inr rfl; exact .inl rfl
      by_cases h5 : a < b
      · rw [if_pos h5] at h3
        rw [if_neg (by omega)]
        omega
      · rw [if_neg h5] at h3
        rw [if_pos (by omega)]
        omega
    · rw [swapL_ne (by omega) h2] at gb
      exact other (p + 1) q a b (by omega) hq (by omega) ga gb
  · by_cases h2 : p = k + 1
    · subst h2
      rw [swapL_at1 (by omega)] at ga
      rw [swapL_ne (by omega) (by omega)] at gb
      exact other k q a b (by omega) hq (by omega) ga gb
    · rw [swapL_ne h1 h2] at ga
      by_cases h3 : q = k
      · subst h3
        rw [swapL_at (by omega)] at gb
        exact other p (q + 1) a b (by omega) hk (by omega) ga gb
      · by_cases h4 : q = k + 1
        · subst h4
          rw [swapL_at1 (by omega)] at gb
          exact other p k a b (by omega) (by omega) (by omega) ga gb
        · rw [swapL_ne h3 h4] at gb
          exact other p q a b hpq hq (by omega) ga gb
theorem cross_nat {n : Nat} {c : RCross} (h : 0 ≤ c.1 ∧ c.1 ≤ (n : Int) - 2) : ∃ k : Nat, c = ((k : Int), c.2) ∧ k + 1 < n := ⟨c.1.toNat, by rw [show ((c.1.toNat : Nat) : Int) = c.1 by omega], by omega⟩
theorem ParSt.fold {n : Nat} : ∀ (cs : List RCross) {st : List Int × List (List Int)}, IsSt n st → ParSt n st → (∀ c ∈ cs, 0 ≤ c.1 ∧ c.1 ≤ (n : Int) - 2) → ParSt n (cs.foldl twStep st) := by
  intro cs
  induction cs with
  | nil => intro st _ h _; exact h
  | cons c cs ih =>
    intro st h hp hc
    rw [List.foldl_cons]
    have hb := hc c List.mem_cons_self
    refine ih (h.step hb) ?_ (fun x hx => hc x (List.mem_cons_of_mem _ hx))
    obtain ⟨k, e, hk⟩ := cross_nat hb
    rw [e]
    exact ParSt.step (o := st.1) (t := st.2) h hp hk _
theorem tw_even {n : Nat} {cs : List RCross} (h : ∀ c ∈ cs, 0 ≤ c.1 ∧ c.1 ≤ (n : Int) - 2) (ho : orderF n cs = upN n) {i k : Nat} (hik : i < k) (hk : k < n) : cellT (twL n cs) i k % 2 = 0 := by
  have hp := ParSt.fold cs (IsSt.start n) (ParSt.start n) h
  have := hp i k hik hk i k (by show (twSt n cs).1.getD i 0 = _; rw [twSt_fst, ho, upN_getD (by omega)]) (by show (twSt n cs).1.getD k 0 = _; rw [twSt_fst, ho, upN_getD (by omega)])
  rw [if_neg (by omega)] at this
  exact this
theorem twSt_app (n : Nat) (a b : List RCross) : twSt n (a ++ b) = b.foldl twStep (twSt n a) := by unfold twSt; rw [List.foldl_append]
/-- unwinding at home leaves nothing wound -/
theorem unwind_zero {n : Nat} {cs : List RCross} (h : ∀ c ∈ cs, 0 ≤ c.1 ∧ c.1 ≤ (n : Int) - 2) (ho : orderF n cs = upN n) : orderF n (cs ++ unwindL n cs) = upN n ∧ woundL n (cs ++ unwindL n cs) = [] := by
  have e0 : twSt n cs = (upN n, twL n cs) := by rw [← ho, ← twSt_fst]; rfl
  have hst : IsSt n (upN n, twL n cs) := by rw [← e0]; exact IsSt.tw h
  obtain ⟨t', e, s, c⟩ := unw_home (ll := twL n cs) (woundL n cs) (twL n cs) hst (woundTo_nodup _ _ _) (fun r hr => by
    obtain ⟨i, k, e, h1, h2, h3, _⟩ := woundTo_mem hr
    exact ⟨i, k, e, h2, h3, tw_even h ho h2 h3⟩)
  have e1 : twSt n (cs ++ unwindL n cs) = (upN n, t') := by rw [twSt_app, e0]; exact e
  refine ⟨by rw [← twSt_fst, e1], ?_⟩
  have e2 : twL n (cs ++ unwindL n cs) = t' := by unfold twL; rw [e1]
  unfold woundL
  rw [e2, List.eq_nil_iff_forall_not_mem]
  intro r hr
  obtain ⟨i, k, _, h1, h2, h3, h4⟩ := woundTo_mem hr
  rw [c i k h2] at h4
  by_cases h5 : cellT (twL n cs) i k = 0
  · rw [h5] at h4; apply h4; split <;> rfl
  · rw [if_pos (show [(i : Int), (k : Int)] ∈ woundL n cs from woundTo_all (by omega) h2 h3 h5)] at h4
    exact h4 (by omega)
/- reduced crossings -/
theorem cancel {n : Nat} {st : List Int × List (List Int)} (h : IsSt n st) {l c : RCross} (hb : 0 ≤ l.1 ∧ l.1 ≤ (n : Int) - 2) (h1 : l.1 = c.1) (h2 : l.2 ≠ c.2) : twStep (twStep st l) c = st := by
  obtain ⟨o, t⟩ := st
  have hl : o.length = n := h.ord.len
  obtain ⟨k, e, hk⟩ := cross_nat hb
  have ec : c = ((k : Int), c.2) := by rw [show c = (c.1, c.2) from rfl, ← h1, e]
  rw [e, ec]
  obtain ⟨x, y, _, _, _, ex, ey, _, _⟩ := pair_of h.ord hk
  obtain ⟨_, _, hne, t1, e1, a1, s1⟩ := step_at h hk l.2 ex ey
  obtain ⟨_, _, _, t2, e2, a2, s2⟩ := step_at s1 hk c.2 ((swapL_at (by omega)).trans ey) ((swapL_at1 (by omega)).trans ex)
  rw [e1, e2, swapL_swapL o k (by omega)]
  have : t2 = t := by
    refine sq_ext a2.sq h.sq (fun i j _ _ => ?_)
    rw [a2.cell, a1.cell]
    have hs : stepB l.2 + stepB c.2 = 0 := by
      cases hl2 : l.2 <;> cases hc2 : c.2 <;> simp [hl2, hc2] at h2 <;> rfl
    by_cases h1 : (i = x ∧ j = y) ∨ (i = y ∧ j = x)
    · rw [if_pos h1, if_pos h1.symm]; show _ = cellT t i j; omega
    · rw [if_neg h1, if_neg (fun e => h1 e.symm)]
  rw [this]
theorem red_split {out : List RCross} (h : 0 < out.length) : out = out.take (out.length - 1) ++ [lastC out] := by
  unfold lastC
  rw [List.getD_eq_getElem?_getD, List.getElem?_eq_getElem (show out.length - 1 < out.length by omega), Option.getD_some]
  have := take_snoc_l out (show out.length - 1 < out.length by omega)
  rw [show out.length - 1 + 1 = out.length by omega, List.take_length] at this
  exact this
theorem red_step_st {n : Nat} {out : List RCross} {c : RCross} (h : ∀ c ∈ out, 0 ≤ c.1 ∧ c.1 ≤ (n : Int) - 2) (hc : 0 ≤ c.1 ∧ c.1 ≤ (n : Int) - 2) : twSt n (redStep out c) = twStep (twSt n out) c ∧ ∀ x ∈ redStep out c, 0 ≤ x.1 ∧ x.1 ≤ (n : Int) - 2 := by
  unfold redStep
  by_cases hu : undoB out c = true
  · rw [if_pos hu]
    unfold undoB at hu
    rw [Bool.and_eq_true, Bool.and_eq_true, decide_eq_true_eq, decide_eq_true_eq] at hu
    obtain ⟨h0, h1, h2⟩ := hu
    have hsp := red_split h0
    have h2 : (lastC out).2 ≠ c.2 := by simpa using h2
    refine ⟨?_, fun x hx => h x (List.mem_of_mem_take hx)⟩
    have e1 : twSt n out = twStep (twSt n (out.take (out.length - 1))) (lastC out) := by
      conv => lhs; rw [hsp]
      rw [twSt_app]; rfl
    rw [e1]
    have hm : lastC out ∈ out := by
      have : lastC out ∈ out.take (out.length - 1) ++ [lastC out] := by simp
      rwa [← hsp] at this
    exact (cancel (IsSt.tw (fun x hx => h x (List.mem_of_mem_take hx))) (h _ hm) h1 h2).symm
  · rw [if_neg hu, twSt_app]
    exact ⟨rfl, fun x hx => (List.mem_append.1 hx).elim (h x) (fun e => by rw [List.mem_singleton.1 e]; exact hc)⟩
theorem red_state {n : Nat} : ∀ (cs out : List RCross), (∀ c ∈ out, 0 ≤ c.1 ∧ c.1 ≤ (n : Int) - 2) → (∀ c ∈ cs, 0 ≤ c.1 ∧ c.1 ≤ (n : Int) - 2) → twSt n (cs.foldl redStep out) = cs.foldl twStep (twSt n out) ∧ ∀ x ∈ cs.foldl redStep out, 0 ≤ x.1 ∧ x.1 ≤ (n : Int) - 2 := by
  intro cs
  induction cs with
  | nil => intro out h _; exact ⟨rfl, h⟩
  | cons c cs ih =>
    intro out h hc
    rw [List.foldl_cons, List.foldl_cons]
    obtain ⟨e1, e2⟩ := red_step_st h (hc c List.mem_cons_self)
    rw [← e1]
    exact ih _ e2 (fun x hx => hc x (List.mem_cons_of_mem _ hx))
theorem redF_state {n : Nat} {cs : List RCross} (h : ∀ c ∈ cs, 0 ≤ c.1 ∧ c.1 ≤ (n : Int) - 2) : twSt n (redF cs) = twSt n cs ∧ ∀ x ∈ redF cs, 0 ≤ x.1 ∧ x.1 ≤ (n : Int) - 2 := red_state cs [] (fun _ hx => by simp at hx) h
theorem redF_valid {n : Nat} {cs : List RCross} (h : crossesB n cs = true) : crossesB n (redF cs) = true := by
  obtain ⟨h1, h2, h3⟩ := crosses_len h
  have h4 := (redF_state h3).2
  have h5 := redF_all cs
  refine crosses_t (inB_iff.2 h1) (by omega) ?_
  rw [List.all_eq_true]
  intro c hc
  exact inB_iff.2 (h4 c hc)
theorem redF_order {n : Nat} {cs : List RCross} (h : crossesB n cs = true) : orderF n (redF cs) = orderF n cs := by rw [← twSt_fst, ← twSt_fst, (redF_state (crosses_len h).2.2).1]
theorem redF_wound {n : Nat} {cs : List RCross} (h : crossesB n cs = true) : woundL n (redF cs) = woundL n cs := by
  unfold woundL twL
  rw [(redF_state (crosses_len h).2.2).1]
/- going home -/
theorem home_order {n : Nat} {cs : List RCross} (h : crossesB n cs = true) : orderF n (cs ++ homeL n cs) = upN n := by
  have h3 := (crosses_len h).2.2
  rw [homeL_t h]
  have h1 := (swaps_home _ n (orderF n cs) (IsOrd.order h3) rfl).2
  unfold orderF at h1 ⊢
  rw [List.foldl_append, List.foldl_map]
  exact h1
end Go.Proofs.Ytjbhlbcjljdjmaa
