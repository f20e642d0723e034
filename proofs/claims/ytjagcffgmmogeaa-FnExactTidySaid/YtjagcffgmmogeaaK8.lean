/- Contracts: Reduced, Tidy. Written by a program (gen_k8.py). -/
import Derived.Test.YtjagcffgmmogeaaK7
import Derived.Test.YtjagcffgmmogeaaQ2
import Derived.Deep.QuietTactic
import Derived.BigQuiet
import Derived.IntWalk
namespace Go.Proofs.Ytjagcffgmmogeaa
open Go.RowKit
theorem own_dn {w : World} {B : Nat} {e : TypeId} {size n : Nat} {v : Value} {xs : List Value} (h : w.ownsRow B e size v n xs) (k : Nat) : (w.drewN k).ownsRow B e size v n xs := h
theorem lastC_get {out : List RCross} (h : 0 < out.length) : lastC out = out[out.length - 1] := by
  unfold lastC; rw [List.getD_eq_getElem?_getD, List.getElem?_eq_getElem (by omega)]; rfl
theorem red_keep {out : List RCross} {c : RCross} (h : undoB out c = false) : redStep out c = out ++ [c] := by rw [redStep, h]; rfl
theorem red_drop {out : List RCross} {c : RCross} (h : undoB out c = true) : redStep out c = out.take (out.length - 1) := by rw [redStep, h]; rfl
theorem undo_nil {out : List RCross} {c : RCross} (h : out.length = 0) : undoB out c = false := by rw [undoB, h]; rfl
theorem undo_at {out : List RCross} {c : RCross} {q : RCross} (hl : lastC out = q) (h : q.1 ≠ c.1) : undoB out c = false := by rw [undoB, hl, decide_eq_false h]; simp
theorem undo_fr {out : List RCross} {c : RCross} {q : RCross} (hl : lastC out = q) (h : q.2 = c.2) : undoB out c = false := by rw [undoB, hl, h]; simp
theorem undo_t {out : List RCross} {c : RCross} {q : RCross} (h0 : 0 < out.length) (hl : lastC out = q) (h1 : q.1 = c.1) (h2 : q.2 ≠ c.2) : undoB out c = true := by
  rw [undoB, hl, decide_eq_true h0, decide_eq_true h1]; simpa using h2
theorem own_take {w : World} {B : Nat} {A : Option Addr} {c : Nat} {out : List RCross} (h : w.ownsRow B 83 2 (.slice A out.length c) out.length (out.flatMap cCross)) (h0 : 0 < out.length) : w.ownsRow B 83 2 (.slice A (out.length - 1) c) (out.take (out.length - 1)).length ((out.take (out.length - 1)).flatMap cCross) := by
  have hl : (out.take (out.length - 1)).length = out.length - 1 := by rw [List.length_take]; omega
  rw [hl, flat_take cCross_len]
  exact own_prefix h (by omega) h0
set_option maxHeartbeats 8000000 in
set_option maxRecDepth 100000 in
theorem implReduced_any (n : Int) (v : Value) (cs : List RCross) (w : World) (h : RdL cCross 2 w v cs) (hl : cs.length ≤ 1048576) :
    Calls Try.prog 73 #[.int .i64 n, v] w fun e w' => ∃ v', e = .returned v' ∧ w'.ownsRow w.heap.size 83 2 v' (redL n cs).length ((redL n cs).flatMap cCross) ∧ Below w.heap.size w w' := by
  have h0 := h
  obtain ⟨A, c, rfl, h1, h2⟩ := h.form
  obtain ⟨i0, hi0, hz0, hz1, hz2⟩ := info_parts infoCross
  go_enter Try.func73, Try.ntmps73
  go_wp2_with fail
  refine twoB (implCrossesOk_any n _ cs _ h0) (fun w1 hq hb => ?_) (fun w1 hq hb => ?_)
  · have hr := h0.below hb
    have hz1' := hb.size
    go_wp2_with fail
    go_loopw [5, 16] (fun q i wr => ∃ k : Nat, k ≤ cs.length ∧ i = .int .i64 k ∧ wr.ownsRow w1.heap.size 83 2 q (redF (cs.take k)).length ((redF (cs.take k)).flatMap cCross) ∧ Below w1.heap.size w1 wr) (fun _ i _ => cs.length - (intOf i).toNat)
    case atStart => exact ⟨0, Nat.zero_le _, rfl, World.ownsRow_made (size := 2) (e := 83) w1 #[] 0 (Nat.le_refl _) (by simp [maxLen]) rfl, by (repeat' (first | exact Below.refl _ _ | (refine Below.setCell ?_ (by first | omega | (simp; omega) | (simp; done)) _) | (refine Below.alloc ?_ (by first | omega | (simp; omega) | (simp; done)) _) | (refine Below.drew ?_) | (refine below_drewN ?_ _) | (refine Below.trans ?_ (Below.mono (by assumption) (by first | omega | (simp; omega) | (simp; done))))))⟩
    case round =>
      obtain ⟨k, hk, rfl, hown, hbr⟩ := hrel
      have hz := hbr.size
      by_cases hlt : k < cs.length
      · obtain ⟨g, off, rfl, hg, hc⟩ := (hr.below hbr).cell cCross_len (by omega) hlt
        have k0 := hc 0 _ rfl
        have k1 := hc 1 _ rfl
        simp only [Nat.add_zero] at k0 k1
        clear hc
        have hol := redF_len cs k hk
        have Hsu := Lib.hid (redF_succ cs hlt)
        generalize redF (cs.take k) = out at *
        generalize hcc : cs[k] = cc at *
        clear hcc
        obtain ⟨ca, cf⟩ := cc
        by_cases hn : out.length = 0
        · have Hst := Lib.hid (red_keep (c := (ca, cf)) (undo_nil hn))
          have hd : decide (0 < (out.length : Int)) = false := decide_eq_false (by omega)
          have hd' : decide (0 < out.length) = false := decide_eq_false (by omega)
          have hnn : (out.length : Int) ≤ 0 := by omega
          obtain ⟨A1, cap1, rfl, _, _⟩ := (RdS.of_own hown).form
          have Hn := Lib.hid hn
          clear hn
          go_wp2_with fail
          go_quiet (fail)
          rename_i nq
          go_wp2_with (at_builtin; refine wpList_appendR _ rfl (.tmp 50) (.tmp 52) _ rfl w1.heap.size 83 i0 _ 2 16 Try.underlying27 hi0 hz0 hz1 hz2 rfl (by omega) _ out.length (out.flatMap cCross) rfl (own_dn ((hown.alloc _)) nq |>.alloc _) _ 1 [.int .i64 ca, .bool cf] rfl (rdS_newAt ((wr.alloc _).drewN nq) (wr.heap.size + 1) (by simp) #[.int .i64 ca, .bool cf] _ 2 1 rfl (by simp [maxLen])) (by simp [Value.oneCell']) (by simp [maxLen]; omega) (by omega) (by simp; omega) ?_; intro v2 w2 hown2 hgr2)
          have hb2 := below_own ((own_dn (hown.alloc _) nq).alloc _) hgr2 (by simp; omega)
          clear hgr2
          go_wp2_with fail
          go_roundw
          case rel => exact ⟨k + 1, by omega, by go_num, by rw [Hsu.out, Hst.out, List.length_append, List.flatMap_append]; exact hown2, ((below_drewN (hbr.alloc hz _) nq).alloc (by simp; omega) _).trans hb2⟩
          case measure => simp [intOf]; omega
        · have hon : 0 < out.length := by omega
          obtain ⟨g1, cap1, rfl⟩ := own_form hown hon
          have hcap : out.length ≤ cap1 := by obtain ⟨A', c', e, h1, _⟩ := (RdS.of_own hown).form; injection e with _ _ e3; omega
          have hrd : RdL cCross 2 wr (.slice (some ⟨g1, 0, none⟩) out.length cap1) out := RdS.of_own hown
          obtain ⟨g', off', hAA, hg1, hc1⟩ := hrd.cell (k := out.length - 1) cCross_len (by omega) (by omega)
          injection hAA with hAA
          injection hAA with e1 e2
          subst e1 e2
          have j0 := hc1 0 _ rfl
          have j1 := hc1 1 _ rfl
          simp only [Nat.add_zero, Nat.zero_add] at j0 j1
          clear hc1 hrd hn
          have hlo := lastC_get hon
          rw [← hlo] at j0 j1
          clear hlo
          obtain ⟨la, lf, hq2⟩ : ∃ la lf, lastC out = (la, lf) := ⟨_, _, rfl⟩
          rw [hq2] at j0 j1
          have Hq2 := Lib.hid hq2
          clear hq2
          have i0' := cell_alloc (.cells #[.int .i64 ca, .bool cf] 83) j0
          have i1' := cell_alloc (.cells #[.int .i64 ca, .bool cf] 83) j1
          have hw1 : IntKind.i64.wrap ((out.length : Int) - 1) = (out.length : Int) - 1 := IntWalk.i64_in _ (by omega)
          have hw2 : (0 : Int) ≤ (out.length : Int) - 1 := by omega
          have hw2' : (1 : Int) ≤ (out.length : Int) := by omega
          have hw4 : (out.length : Int) - 1 < (out.length : Int) := by omega
          have hw3 : ((out.length : Int) - 1).toNat = out.length - 1 := by omega
          have hd : decide (0 < (out.length : Int)) = true := decide_eq_true (by omega)
          by_cases hla : la = ca
          · subst hla
            have hbe : (la == la) = true := by simp
            cases lf <;> cases cf
            · have Hst := Lib.hid (red_keep (undo_fr (c := (la, false)) Hq2.out rfl))
              go_wp2_with fail
              go_quiet (fail)
              rename_i nq
              go_wp2_with (at_builtin; refine wpList_appendR _ rfl (.tmp 50) (.tmp 52) _ rfl w1.heap.size 83 i0 _ 2 16 Try.underlying27 hi0 hz0 hz1 hz2 rfl (by omega) _ out.length (out.flatMap cCross) rfl (own_dn ((hown.alloc _)) nq |>.alloc _) _ 1 [.int .i64 la, .bool false] rfl (rdS_newAt ((wr.alloc _).drewN nq) (wr.heap.size + 1) (by simp) #[.int .i64 la, .bool false] _ 2 1 rfl (by simp [maxLen])) (by simp [Value.oneCell']) (by simp [maxLen]; omega) (by omega) (by simp; omega) ?_; intro v2 w2 hown2 hgr2)
              have hb2 := below_own ((own_dn (hown.alloc _) nq).alloc _) hgr2 (by simp; omega)
              clear hgr2
              go_wp2_with fail
              go_roundw
              case rel => exact ⟨k + 1, by omega, by go_num, by rw [Hsu.out, Hst.out, List.length_append, List.flatMap_append]; exact hown2, ((below_drewN (hbr.alloc hz _) nq).alloc (by simp; omega) _).trans hb2⟩
              case measure => simp [intOf]; omega
            · have Hst := Lib.hid (red_drop (undo_t (c := (la, true)) hon Hq2.out rfl (by simp)))
              go_wp2_with fail
              go_quiet (fail)
              rename_i nq
              go_wp2_with fail
              go_roundw
              case rel => exact ⟨k + 1, by omega, by go_num, by rw [Hsu.out, Hst.out]; exact own_dn ((own_take hown hon).alloc _) nq, below_drewN (hbr.alloc hz _) nq⟩
              case measure => simp [intOf]; omega
            · have Hst := Lib.hid (red_drop (undo_t (c := (la, false)) hon Hq2.out rfl (by simp)))
              go_wp2_with fail
              go_quiet (fail)
              rename_i nq
              go_wp2_with fail
              go_roundw
              case rel => exact ⟨k + 1, by omega, by go_num, by rw [Hsu.out, Hst.out]; exact own_dn ((own_take hown hon).alloc _) nq, below_drewN (hbr.alloc hz _) nq⟩
              case measure => simp [intOf]; omega
            · have Hst := Lib.hid (red_keep (undo_fr (c := (la, true)) Hq2.out rfl))
              go_wp2_with fail
              go_quiet (fail)
              rename_i nq
              go_wp2_with (at_builtin; refine wpList_appendR _ rfl (.tmp 50) (.tmp 52) _ rfl w1.heap.size 83 i0 _ 2 16 Try.underlying27 hi0 hz0 hz1 hz2 rfl (by omega) _ out.length (out.flatMap cCross) rfl (own_dn ((hown.alloc _)) nq |>.alloc _) _ 1 [.int .i64 la, .bool true] rfl (rdS_newAt ((wr.alloc _).drewN nq) (wr.heap.size + 1) (by simp) #[.int .i64 la, .bool true] _ 2 1 rfl (by simp [maxLen])) (by simp [Value.oneCell']) (by simp [maxLen]; omega) (by omega) (by simp; omega) ?_; intro v2 w2 hown2 hgr2)
              have hb2 := below_own ((own_dn (hown.alloc _) nq).alloc _) hgr2 (by simp; omega)
              clear hgr2
              go_wp2_with fail
              go_roundw
              case rel => exact ⟨k + 1, by omega, by go_num, by rw [Hsu.out, Hst.out, List.length_append, List.flatMap_append]; exact hown2, ((below_drewN (hbr.alloc hz _) nq).alloc (by simp; omega) _).trans hb2⟩
              case measure => simp [intOf]; omega
          · have hbe : (la == ca) = false := by rw [beq_eq_false_iff_ne]; exact hla
            have Hst := Lib.hid (red_keep (undo_at (c := (ca, cf)) Hq2.out hla))
            clear hla
            go_wp2_with fail
            go_quiet (fail)
            rename_i nq
            go_wp2_with (at_builtin; refine wpList_appendR _ rfl (.tmp 50) (.tmp 52) _ rfl w1.heap.size 83 i0 _ 2 16 Try.underlying27 hi0 hz0 hz1 hz2 rfl (by omega) _ out.length (out.flatMap cCross) rfl (own_dn ((hown.alloc _)) nq |>.alloc _) _ 1 [.int .i64 ca, .bool cf] rfl (rdS_newAt ((wr.alloc _).drewN nq) (wr.heap.size + 1) (by simp) #[.int .i64 ca, .bool cf] _ 2 1 rfl (by simp [maxLen])) (by simp [Value.oneCell']) (by simp [maxLen]; omega) (by omega) (by simp; omega) ?_; intro v2 w2 hown2 hgr2)
            have hb2 := below_own ((own_dn (hown.alloc _) nq).alloc _) hgr2 (by simp; omega)
            clear hgr2
            go_wp2_with fail
            go_roundw
            case rel => exact ⟨k + 1, by omega, by go_num, by rw [Hsu.out, Hst.out, List.length_append, List.flatMap_append]; exact hown2, ((below_drewN (hbr.alloc hz _) nq).alloc (by simp; omega) _).trans hb2⟩
            case measure => simp [intOf]; omega
      · obtain rfl : k = cs.length := by omega
        rw [List.take_length] at hown
        go_wp2_with fail
        go_ret
        refine ⟨_, rfl, ?_, hb.trans (hbr.mono hz1')⟩
        rw [redL, if_pos hq.out]
        exact own_mono hown hz1'
  · go_wp2_with fail
    go_ret
    refine ⟨_, rfl, ?_, hb⟩
    rw [redL, if_neg (by rw [hq.out]; simp)]
    exact World.ownsRow_nil _ _ _ _
set_option maxHeartbeats 8000000 in
set_option maxRecDepth 100000 in
theorem specReduced_any (n : Int) (v : Value) (cs : List RCross) (w : World) (h : RdL cCross 2 w v cs) (hl : cs.length ≤ 1048576) :
    Calls Try.prog 72 #[.int .i64 n, v] w fun e w' => ∃ v', e = .returned v' ∧ w'.ownsRow w.heap.size 83 2 v' (redL n cs).length ((redL n cs).flatMap cCross) ∧ Below w.heap.size w w' := by
  have h0 := h
  have hcon := fun (W : World) (hW : RdL cCross 2 W v cs) => specCrossesOk_any n v cs W hW
  obtain ⟨A, c, rfl, h1, h2⟩ := h.form
  obtain ⟨i0, hi0, hz0, hz1, hz2⟩ := info_parts infoCross
  cases hcb : crossesB n cs
  · rw [hcb] at hcon
    have Hcon := Lib.hid hcon
    have Hcb := Lib.hid hcb
    clear hcon hcb
    go_enter Try.func72, Try.ntmps72
    go_wp2_with fail
    go_loopw [5, 6] (fun q i wr => i = .int .i64 (0 : Nat) ∧ wr.ownsRow w.heap.size 83 2 q 0 [] ∧ Below w.heap.size w wr) (fun _ _ _ => 0)
    case atStart => exact ⟨rfl, World.ownsRow_made (size := 2) (e := 83) w #[] 0 (Nat.le_refl _) (by simp [maxLen]) rfl, by (repeat' (first | exact Below.refl _ _ | (refine Below.setCell ?_ (by first | omega | (simp; omega) | (simp; done)) _) | (refine Below.alloc ?_ (by first | omega | (simp; omega) | (simp; done)) _) | (refine Below.drew ?_) | (refine below_drewN ?_ _) | (refine Below.trans ?_ (Below.mono (by assumption) (by first | omega | (simp; omega) | (simp; done))))))⟩
    case round =>
      obtain ⟨rfl, hown, hbr⟩ := hrel
      have hz := hbr.size
      have hi00 : ((0 : Nat) : Int) = 0 := rfl
      by_cases hlt : 0 < cs.length
      · go_wp2_with fail
        refine (Hcon.out _ (h0.below hbr)).mono ?_
        rintro e w2 ⟨rfl, q2⟩
        go_wp2_with fail
        go_ret
        refine ⟨_, rfl, ?_, hbr.trans (q2.mono hz)⟩
        rw [redL, if_neg (by rw [Hcb.out]; simp)]
        exact own_below hown q2
      · go_wp2_with fail
        go_ret
        refine ⟨_, rfl, ?_, hbr⟩
        rw [redL, if_neg (by rw [Hcb.out]; simp)]
        exact hown
  · rw [hcb] at hcon
    have Hcon := Lib.hid hcon
    have Hcb := Lib.hid hcb
    clear hcon hcb
    obtain ⟨w1, hw1e⟩ : ∃ w1, w1 = w := ⟨_, rfl⟩
    have hb : Below w.heap.size w w1 := by rw [hw1e]; exact Below.refl _ _
    have hr := h0.below hb
    have hz1' := hb.size
    rw [← hw1e]
    clear hw1e
    go_enter Try.func72, Try.ntmps72
    go_wp2_with fail
    go_loopw [5, 6] (fun q i wr => ∃ k : Nat, k ≤ cs.length ∧ i = .int .i64 k ∧ wr.ownsRow w1.heap.size 83 2 q (redF (cs.take k)).length ((redF (cs.take k)).flatMap cCross) ∧ Below w1.heap.size w1 wr) (fun _ i _ => cs.length - (intOf i).toNat)
    case atStart => exact ⟨0, Nat.zero_le _, rfl, World.ownsRow_made (size := 2) (e := 83) w1 #[] 0 (Nat.le_refl _) (by simp [maxLen]) rfl, by (repeat' (first | exact Below.refl _ _ | (refine Below.setCell ?_ (by first | omega | (simp; omega) | (simp; done)) _) | (refine Below.alloc ?_ (by first | omega | (simp; omega) | (simp; done)) _) | (refine Below.drew ?_) | (refine below_drewN ?_ _) | (refine Below.trans ?_ (Below.mono (by assumption) (by first | omega | (simp; omega) | (simp; done))))))⟩
    case round =>
      obtain ⟨k, hk, rfl, hown, hbr⟩ := hrel
      have hz := hbr.size
      by_cases hlt : k < cs.length
      · have hol := redF_len cs k hk
        have Hsu := Lib.hid (redF_succ cs hlt)
        generalize redF (cs.take k) = out at *
        go_wp2_with fail
        refine (Hcon.out _ (hr.below hbr)).mono ?_
        rintro e w2 ⟨rfl, q2⟩
        have hb2' := hbr.trans (q2.mono hz)
        replace hown := own_below hown q2
        have hzz : w1.heap.size ≤ w2.heap.size := hb2'.size
        clear hbr hz q2 wr
        obtain ⟨g, off, rfl, hg, hc⟩ := (hr.below hb2').cell cCross_len (by omega) hlt
        have k0 := hc 0 _ rfl
        have k1 := hc 1 _ rfl
        simp only [Nat.add_zero] at k0 k1
        clear hc
        generalize hcc : cs[k] = cc at *
        clear hcc
        obtain ⟨ca, cf⟩ := cc
        by_cases hn : out.length = 0
        · have Hst := Lib.hid (red_keep (c := (ca, cf)) (undo_nil hn))
          have hd : decide (0 < (out.length : Int)) = false := decide_eq_false (by omega)
          have hd' : decide (0 < out.length) = false := decide_eq_false (by omega)
          have hnn : (out.length : Int) ≤ 0 := by omega
          obtain ⟨A1, cap1, rfl, _, _⟩ := (RdS.of_own hown).form
          have Hn := Lib.hid hn
          clear hn
          go_wp2_with fail
          go_quiet (fail)
          rename_i nq
          go_wp2_with (at_builtin; refine wpList_appendR _ rfl (.tmp 56) (.tmp 61) _ rfl w1.heap.size 83 i0 _ 2 16 Try.underlying27 hi0 hz0 hz1 hz2 rfl (by omega) _ out.length (out.flatMap cCross) rfl ((own_dn hown nq).alloc _) _ 1 [.int .i64 ca, .bool cf] rfl (rdS_newAt (w2.drewN nq) w2.heap.size rfl #[.int .i64 ca, .bool cf] _ 2 1 rfl (by simp [maxLen])) (by simp [Value.oneCell']) (by simp [maxLen]; omega) (by omega) (by simp; omega) ?_; intro v2 w2 hown2 hgr2)
          have hb2 := below_own ((own_dn hown nq).alloc _) hgr2 (by simp; omega)
          clear hgr2
          go_wp2_with fail
          go_roundw
          case rel => exact ⟨k + 1, by omega, by go_num, by rw [Hsu.out, Hst.out, List.length_append, List.flatMap_append]; exact hown2, ((below_drewN hb2' nq).alloc (by simp; omega) _).trans hb2⟩
          case measure => simp [intOf]; omega
        · have hon : 0 < out.length := by omega
          obtain ⟨g1, cap1, rfl⟩ := own_form hown hon
          have hcap : out.length ≤ cap1 := by obtain ⟨A', c', e, h1, _⟩ := (RdS.of_own hown).form; injection e with _ _ e3; omega
          have hrd : RdL cCross 2 w2 (.slice (some ⟨g1, 0, none⟩) out.length cap1) out := RdS.of_own hown
          obtain ⟨g', off', hAA, hg1, hc1⟩ := hrd.cell (k := out.length - 1) cCross_len (by omega) (by omega)
          injection hAA with hAA
          injection hAA with e1 e2
          subst e1 e2
          have j0 := hc1 0 _ rfl
          have j1 := hc1 1 _ rfl
          simp only [Nat.add_zero, Nat.zero_add] at j0 j1
          clear hc1 hrd hn
          have hlo := lastC_get hon
          rw [← hlo] at j0 j1
          clear hlo
          obtain ⟨la, lf, hq2⟩ : ∃ la lf, lastC out = (la, lf) := ⟨_, _, rfl⟩
          rw [hq2] at j0 j1
          have Hq2 := Lib.hid hq2
          clear hq2
          have hw1 : IntKind.i64.wrap ((out.length : Int) - 1) = (out.length : Int) - 1 := IntWalk.i64_in _ (by omega)
          have hw2 : (0 : Int) ≤ (out.length : Int) - 1 := by omega
          have hw2' : (1 : Int) ≤ (out.length : Int) := by omega
          have hw4 : (out.length : Int) - 1 < (out.length : Int) := by omega
          have hw3 : ((out.length : Int) - 1).toNat = out.length - 1 := by omega
          have hk0 : (0 : Int) ≤ (k : Int) := by omega
          have hkl : (k : Int) < (cs.length : Int) := by omega
          have hd : decide (0 < (out.length : Int)) = true := decide_eq_true (by omega)
          by_cases hla : la = ca
          · subst hla
            have hbe : (la == la) = true := by simp
            cases lf <;> cases cf
            · have Hst := Lib.hid (red_keep (undo_fr (c := (la, false)) Hq2.out rfl))
              go_wp2_with fail
              go_quiet (fail)
              rename_i nq
              go_wp2_with (at_builtin; refine wpList_appendR _ rfl (.tmp 56) (.tmp 61) _ rfl w1.heap.size 83 i0 _ 2 16 Try.underlying27 hi0 hz0 hz1 hz2 rfl (by omega) _ out.length (out.flatMap cCross) rfl ((own_dn hown nq).alloc _) _ 1 [.int .i64 la, .bool false] rfl (rdS_newAt (w2.drewN nq) w2.heap.size rfl #[.int .i64 la, .bool false] _ 2 1 rfl (by simp [maxLen])) (by simp [Value.oneCell']) (by simp [maxLen]; omega) (by omega) (by simp; omega) ?_; intro v2 w2 hown2 hgr2)
              have hb2 := below_own ((own_dn hown nq).alloc _) hgr2 (by simp; omega)
              clear hgr2
              go_wp2_with fail
              go_roundw
              case rel => exact ⟨k + 1, by omega, by go_num, by rw [Hsu.out, Hst.out, List.length_append, List.flatMap_append]; exact hown2, ((below_drewN hb2' nq).alloc (by simp; omega) _).trans hb2⟩
              case measure => simp [intOf]; omega
            · have Hst := Lib.hid (red_drop (undo_t (c := (la, true)) hon Hq2.out rfl (by simp)))
              go_wp2_with fail
              go_quiet (fail)
              rename_i nq
              go_wp2_with fail
              go_roundw
              case rel => exact ⟨k + 1, by omega, by go_num, by rw [Hsu.out, Hst.out]; exact own_dn (own_take hown hon) nq, below_drewN hb2' nq⟩
              case measure => simp [intOf]; omega
            · have Hst := Lib.hid (red_drop (undo_t (c := (la, false)) hon Hq2.out rfl (by simp)))
              go_wp2_with fail
              go_quiet (fail)
              rename_i nq
              go_wp2_with fail
              go_roundw
              case rel => exact ⟨k + 1, by omega, by go_num, by rw [Hsu.out, Hst.out]; exact own_dn (own_take hown hon) nq, below_drewN hb2' nq⟩
              case measure => simp [intOf]; omega
            · have Hst := Lib.hid (red_keep (undo_fr (c := (la, true)) Hq2.out rfl))
              go_wp2_with fail
              go_quiet (fail)
              rename_i nq
              go_wp2_with (at_builtin; refine wpList_appendR _ rfl (.tmp 56) (.tmp 61) _ rfl w1.heap.size 83 i0 _ 2 16 Try.underlying27 hi0 hz0 hz1 hz2 rfl (by omega) _ out.length (out.flatMap cCross) rfl ((own_dn hown nq).alloc _) _ 1 [.int .i64 la, .bool true] rfl (rdS_newAt (w2.drewN nq) w2.heap.size rfl #[.int .i64 la, .bool true] _ 2 1 rfl (by simp [maxLen])) (by simp [Value.oneCell']) (by simp [maxLen]; omega) (by omega) (by simp; omega) ?_; intro v2 w2 hown2 hgr2)
              have hb2 := below_own ((own_dn hown nq).alloc _) hgr2 (by simp; omega)
              clear hgr2
              go_wp2_with fail
              go_roundw
              case rel => exact ⟨k + 1, by omega, by go_num, by rw [Hsu.out, Hst.out, List.length_append, List.flatMap_append]; exact hown2, ((below_drewN hb2' nq).alloc (by simp; omega) _).trans hb2⟩
              case measure => simp [intOf]; omega
          · have hbe : (la == ca) = false := by rw [beq_eq_false_iff_ne]; exact hla
            have Hst := Lib.hid (red_keep (undo_at (c := (ca, cf)) Hq2.out hla))
            clear hla
            go_wp2_with fail
            go_quiet (fail)
            rename_i nq
            go_wp2_with (at_builtin; refine wpList_appendR _ rfl (.tmp 56) (.tmp 61) _ rfl w1.heap.size 83 i0 _ 2 16 Try.underlying27 hi0 hz0 hz1 hz2 rfl (by omega) _ out.length (out.flatMap cCross) rfl ((own_dn hown nq).alloc _) _ 1 [.int .i64 ca, .bool cf] rfl (rdS_newAt (w2.drewN nq) w2.heap.size rfl #[.int .i64 ca, .bool cf] _ 2 1 rfl (by simp [maxLen])) (by simp [Value.oneCell']) (by simp [maxLen]; omega) (by omega) (by simp; omega) ?_; intro v2 w2 hown2 hgr2)
            have hb2 := below_own ((own_dn hown nq).alloc _) hgr2 (by simp; omega)
            clear hgr2
            go_wp2_with fail
            go_roundw
            case rel => exact ⟨k + 1, by omega, by go_num, by rw [Hsu.out, Hst.out, List.length_append, List.flatMap_append]; exact hown2, ((below_drewN hb2' nq).alloc (by simp; omega) _).trans hb2⟩
            case measure => simp [intOf]; omega
      · obtain rfl : k = cs.length := by omega
        rw [List.take_length] at hown
        go_wp2_with fail
        go_ret
        refine ⟨_, rfl, ?_, hbr⟩
        rw [redL, if_pos Hcb.out]
        exact hown
end Go.Proofs.Ytjagcffgmmogeaa
