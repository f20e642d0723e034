/- Contracts: BodyOk of the reference. -/
import Derived.Test.YthponccjbbkhaaaB4
namespace Go.Proofs.Ythponccjbbkhaaa
open Go.RowKit
theorem one {P : Program} {f : FuncId} {args : Array Value} {w : World} {n a b : Int} {R : Ending → World → Prop}
    (h : Calls P f args w fun e w' => e = .returned (.bool (inB n a b)) ∧ w = w') (hv : inB n a b = true) (k : R (.returned (.bool true)) w) : Calls P f args w R := by
  rw [hv] at h
  refine h.mono ?_
  rintro e w' ⟨rfl, rfl⟩
  exact k
theorem limb_parts {n L : Int} {t : RLimb} (e : n - 1 = L) (h : limbB n t = true) : inB t.1 0 L = true ∧ inB t.2.1 0 L = true ∧ inB t.2.2 1 100 = true := by
  rw [limbB, e, Bool.and_eq_true, Bool.and_eq_true] at h
  exact ⟨h.1.1, h.1.2, h.2⟩
set_option maxHeartbeats 8000000 in
set_option maxRecDepth 100000 in
theorem specBodyOk_any (n : Int) (v : Value) (l : List RLimb) (w : World) (h : RdL cLimb 3 w v l) :
    Calls Try.prog 97 #[.agg #[.int .i64 n, v]] w fun e w' => e = .returned (.bool (bodyB n l)) ∧ Below w.heap.size w w' := by
  obtain ⟨A, c, rfl, h1, h2⟩ := h.form
  obtain ⟨i0, hi0, hz0, hz1, hz2⟩ := info_parts infoInt
  by_cases hlen : (l.length : Int) = n - 1
  · obtain ⟨m, rfl, hm⟩ : ∃ m : Nat, n = m ∧ l.length + 1 = m := ⟨l.length + 1, by omega, rfl⟩
    have Hm := Lib.hid hm
    have hm1 : (m : Int) - 1 = (l.length : Int) := by omega
    clear hlen hm
    go_enter Try.func97, Try.ntmps97
    go_upto_region 1 with (fail)
    have hbW : Below w.heap.size w (w.alloc (.cells #[.int .i64 (m : Int), .slice A l.length c] 60)) := by (repeat' (first | (with_reducible exact Below.refl _ _) | (with_reducible assumption) | (with_reducible refine Below.setCell ?_ (by first | omega | (simp; omega) | (simp; done)) _) | (with_reducible refine Below.alloc ?_ (by first | omega | (simp; omega) | (simp; done)) _) | (with_reducible refine Below.drew ?_) | (with_reducible refine below_drewN ?_ _)))
    have Lb : Loc (w.alloc (.cells #[.int .i64 (m : Int), .slice A l.length c] 60)) w.heap.size [.int .i64 (m : Int), .slice A l.length c] := Loc.new w #[.int .i64 (m : Int), .slice A l.length c] 60
    have hwW : w.heap.size < (w.alloc (.cells #[.int .i64 (m : Int), .slice A l.length c] 60)).heap.size := by simp
    generalize w.alloc (.cells #[.int .i64 (m : Int), .slice A l.length c] 60) = W at *
    have hW : RdL cLimb 3 W (.slice A l.length c) l := h.below hbW
    have b0w := (Lb 0 _ rfl).1
    have b1w := (Lb 1 _ rfl).1
    have hn1 : ¬ w.heap.size = W.heap.size := by omega
    have hn2 : ¬ W.heap.size = w.heap.size := by omega
    go_wp2_with (first
      | (go_at_call 78; refine twoI (l01In_any _ _ _ _) (fun hc hm hm' => ?_) (fun hc => ?_))
      | (at_make; refine wpList_make_full _ rfl _ _ _ rfl W.heap.size 3 i0 _ 1 Try.underlying24 hi0 hz0 hz1 _ _ _ _ m rfl rfl rfl rfl (by rw [hz2]; omega) (by simp [maxLen]; omega) (Nat.le_refl _) ?_; intro w2 hown hgr))
    · have hb2 : Below W.heap.size W w2 := Below.grown (Below.refl _ _) hgr (by omega) (by simp)
      rw [Nat.mul_one, row_made, rowN_zero] at hown
      have hg0 := hown.lt W.heap.size rfl
      go_loopw [4] (fun i wr => ∃ k : Nat, k ≤ m ∧ i = .int .i64 k ∧ wr.ownsRow W.heap.size 3 1 (.slice (some ⟨W.heap.size, 0, none⟩) m m) m ((rowN m (fun j => if j < k then j else 0)).flatMap cInt) ∧ Below W.heap.size W wr) (fun i _ => m - (intOf i).toNat)
      case atStart => exact ⟨0, Nat.zero_le _, rfl, hown, hb2⟩
      case round =>
        obtain ⟨k, hk, rfl, hown, hbr⟩ := hrel
        have hzr := hbr.size
        have b0 := carry hbr b0w
        have b1 := carry hbr b1w
        have hlf := rowN_len m (fun j => if j < k then j else 0)
        by_cases hlt : k < m
        · have hst := row_stored hown k k
          rw [rowN_fill] at hst
          have k3 := row_cell hown (k := k) (by omega)
          have f3 := hown.frozenAt k
          go_wp2_with fail
          go_roundw
          case rel => exact ⟨k + 1, by omega, by go_num, hst, by (repeat' (first | exact Below.refl _ _ | (refine Below.setCell ?_ (by first | omega | (simp; omega) | (simp; done)) _) | (refine Below.alloc ?_ (by first | omega | (simp; omega) | (simp; done)) _) | (refine Below.drew ?_) | (refine below_drewN ?_ _) | (refine Below.trans ?_ (Below.mono (by assumption) (by first | omega | (simp; omega) | (simp; done))))))⟩
          case measure => simp [intOf]; omega
        · obtain rfl : k = m := by omega
          rw [rowN_full] at hown
          clear hlf
          go_wp2_with fail
          clear hgr hb2 hg0 b0 b1
          go_loopw [5] (fun i wr => ∃ q : Nat, q ≤ l.length ∧ i = .int .i64 q ∧ Hid ((l.take q).all (limbB k) = true) ∧ Hid (treeB l = treeAt l q) ∧ wr.ownsRow W.heap.size 3 1 (.slice (some ⟨W.heap.size, 0, none⟩) k k) k ((rowN k (pF l q)).flatMap cInt) ∧ Below W.heap.size W wr) (fun i _ => l.length - (intOf i).toNat)
          case atStart => exact ⟨0, Nat.zero_le _, rfl, by rfl, by rfl, hown, hbr⟩
          case round =>
            obtain ⟨q, hq, rfl, hall, htr, hown, hb⟩ := hrel
            have hz := hb.size
            have b0 := carry hb b0w
            have b1 := carry hb b1w
            have hww : w.heap.size < wr.heap.size := by omega
            have hbo : Below w.heap.size w wr := Below.trans hbW (hb.mono (by omega))
            by_cases hltq : q < l.length
            · obtain ⟨g, off, rfl, hg, hc'⟩ := (hW.below hb).cell cLimb_len (by omega) hltq
              have k0 := hc' 0 _ rfl
              have k1 := hc' 1 _ rfl
              have k2 := hc' 2 _ rfl
              simp only [Nat.add_zero] at k0 k1 k2
              clear hc'
              have Hall := Lib.hid (fun h => all_take_succ (p := limbB k) hltq hall.out h)
              have Hf := Lib.hid (fun h => all_false_at (p := limbB k) hltq h)
              have Ht := Lib.hid (fun h1 h2 h3 => limb_t (n := k) (t := l[q]'hltq) hm1 h1 h2 h3)
              have Hf1 := Lib.hid (fun h => limb_f1 (n := k) (t := l[q]'hltq) hm1 h)
              have Hf2 := Lib.hid (fun h => limb_f2 (n := k) (t := l[q]'hltq) hm1 h)
              have Hf3 := Lib.hid (fun h => limb_f3 (n := k) (t := l[q]'hltq) h)
              have Hst := Lib.hid (treeAt_step hltq)
              have Hps := Lib.hid (pF_succ hltq)
              by_cases hok : limbB k l[q] = true
              · obtain ⟨hA, hB, hC⟩ := limb_parts hm1 hok
                have hA' := inB_iff.1 hA
                have hB' := inB_iff.1 hB
                obtain ⟨a, ea⟩ : ∃ a : Nat, l[q].1 = (a : Int) := ⟨l[q].1.toNat, by omega⟩
                obtain ⟨b, eb⟩ : ∃ b : Nat, l[q].2.1 = (b : Int) := ⟨l[q].2.1.toNat, by omega⟩
                rw [ea] at k0 hA hA'
                rw [eb] at k1 hB hB'
                have hst := Hst.out
                have hps := Hps.out
                rw [show (limbE l[q]).1 = a by rw [limbE, ea]; rfl, show (limbE l[q]).2 = b by rw [limbE, eb]; rfl] at hst
                rw [show limbE l[q] = (a, b) by rw [limbE, ea, eb]; rfl] at hps
                have Hok := Lib.hid (Hall.out hok)
                have HA := Lib.hid hA
                have HB := Lib.hid hB
                have HC := Lib.hid hC
                have HS := Lib.hid hst
                have HP := Lib.hid hps
                clear hst hps hA hB hC hok ea eb Hall Hf Ht Hf1 Hf2 Hf3 Hst Hps
                generalize l[q].2.2 = len at *
                have ak : a < k := by omega
                have bk : b < k := by omega
                have ka := row_cell hown (k := a) (by rw [rowN_len]; exact ak)
                have kb := row_cell hown (k := b) (by rw [rowN_len]; exact bk)
                rw [rowN_get] at ka kb
                have hn3 : ¬ wr.heap.size = W.heap.size := by have := (hown.lt W.heap.size rfl).2; omega
                have hn4 : ¬ W.heap.size = wr.heap.size := fun e => hn3 e.symm
                have hwg : W.heap.size < wr.heap.size := (hown.lt W.heap.size rfl).2
                by_cases hxy : pF l q a = pF l q b
                · have Hxy := Lib.hid hxy
                  rw [hxy] at ka
                  clear hxy
                  generalize pF l q b = y at *
                  go_wp2_with (go_at_call 78; refine one (l01In_any _ _ _ _) (by first | exact HA.out | exact HB.out | exact HC.out) ?_)
                  go_ret
                  exact ⟨ret_bool (body_f4 (htr.out.trans (HS.out.trans (by rw [Hxy.out]; simp)))).symm, by (repeat' (first | (with_reducible exact Below.refl _ _) | (with_reducible assumption) | (with_reducible refine Below.setCell ?_ (by first | omega | (simp; omega) | (simp; done)) _) | (with_reducible refine Below.alloc ?_ (by first | omega | (simp; omega) | (simp; done)) _) | (with_reducible refine Below.drew ?_) | (with_reducible refine below_drewN ?_ _)))⟩
                · have Hxy := Lib.hid hxy
                  obtain ⟨x, hx⟩ : ∃ x, pF l q a = x := ⟨_, rfl⟩
                  obtain ⟨y, hy⟩ : ∃ y, pF l q b = y := ⟨_, rfl⟩
                  have Hx := Lib.hid hx
                  have Hy := Lib.hid hy
                  rw [hx, hy] at hxy
                  rw [hx] at ka
                  rw [hy] at kb
                  clear hx hy
                  have hown0 : wr.ownsRow W.heap.size 3 1 (.slice (some ⟨W.heap.size, 0, none⟩) k k) k ((rowN k (midN (pF l q) x y 0)).flatMap cInt) := by rw [midN_zero]; exact hown
                  clear hown
                  go_wp2_with (go_at_call 78; refine one (l01In_any _ _ _ _) (by first | exact HA.out | exact HB.out | exact HC.out) ?_)
                  go_loopw [9] (fun i wr => ∃ p : Nat, p ≤ k ∧ i = .int .i64 p ∧ wr.ownsRow W.heap.size 3 1 (.slice (some ⟨W.heap.size, 0, none⟩) k k) k ((rowN k (midN (pF l q) x y p)).flatMap cInt) ∧ Below W.heap.size W wr) (fun i _ => k - (intOf i).toNat)
                  case atStart => exact ⟨0, Nat.zero_le _, rfl, own_below hown0 (by (repeat' (first | (with_reducible exact Below.refl _ _) | (with_reducible assumption) | (with_reducible refine Below.setCell ?_ (by first | omega | (simp; omega) | (simp; done)) _) | (with_reducible refine Below.alloc ?_ (by first | omega | (simp; omega) | (simp; done)) _) | (with_reducible refine Below.drew ?_) | (with_reducible refine below_drewN ?_ _)))), by (repeat' (first | (with_reducible exact Below.refl _ _) | (with_reducible assumption) | (with_reducible refine Below.setCell ?_ (by first | omega | (simp; omega) | (simp; done)) _) | (with_reducible refine Below.alloc ?_ (by first | omega | (simp; omega) | (simp; done)) _) | (with_reducible refine Below.drew ?_) | (with_reducible refine below_drewN ?_ _)))⟩
                  case round =>
                    obtain ⟨p, hp, rfl, hown, hbi⟩ := hrel
                    have hzi := hbi.size
                    have b0 := carry hbi b0w
                    have b1 := carry hbi b1w
                    by_cases hltp : p < k
                    · have kp := row_cell hown (k := p) (by rw [rowN_len]; exact hltp)
                      rw [rowN_get, midN_at] at kp
                      have hgp := (hown.lt W.heap.size rfl).2
                      by_cases hpy : pF l q p = y
                      · have hst := row_stored hown p x
                        rw [midN_t hpy] at hst
                        rw [hpy] at kp
                        have f3 := hown.frozenAt p
                        clear hpy hxy
                        go_wp2_with fail
                        go_roundw
                        case rel => exact ⟨p + 1, by omega, by go_num, hst, by (repeat' (first | exact Below.refl _ _ | (refine Below.setCell ?_ (by first | omega | (simp; omega) | (simp; done)) _) | (refine Below.alloc ?_ (by first | omega | (simp; omega) | (simp; done)) _) | (refine Below.drew ?_) | (refine below_drewN ?_ _) | (refine Below.trans ?_ (Below.mono (by assumption) (by first | omega | (simp; omega) | (simp; done))))))⟩
                        case measure => simp [intOf]; omega
                      · rw [midN_f hpy] at hown
                        generalize pF l q p = z at *
                        have hzy : ¬ (z : Int) = (y : Int) := by omega
                        clear hxy
                        go_wp2_with fail
                        go_roundw
                        case rel => exact ⟨p + 1, by omega, by go_num, hown, by (repeat' (first | exact Below.refl _ _ | (refine Below.setCell ?_ (by first | omega | (simp; omega) | (simp; done)) _) | (refine Below.alloc ?_ (by first | omega | (simp; omega) | (simp; done)) _) | (refine Below.drew ?_) | (refine below_drewN ?_ _) | (refine Below.trans ?_ (Below.mono (by assumption) (by first | omega | (simp; omega) | (simp; done))))))⟩
                        case measure => simp [intOf]; omega
                    · obtain rfl : p = k := by omega
                      have hown1 : ∀ (e : Edge), e = (a, b) → rowN p (midN (pF l q) x y p) = rowN p (uniStep (pF l q) e) := by
                        rintro e rfl
                        rw [← Hx.out, ← Hy.out]; exact midN_end (e := (a, b))
                      rw [hown1 _ rfl, ← HP.out] at hown
                      clear hown1
                      go_wp2_with fail
                      go_roundw
                      case rel => exact ⟨q + 1, by omega, by go_num, Hok.out, htr.out.trans (HS.out.trans (by rw [beq_eq_false_iff_ne.2 Hxy.out]; rfl)), hown, hbi⟩
                      case measure => simp [intOf]; omega
              · have Hok := Lib.hid hok
                clear hok
                generalize l[q] = t at *
                obtain ⟨t1, t2, t3⟩ := t
                go_wp2_with (go_at_call 78; refine twoI (l01In_any _ _ _ _) (fun hq hq1 hq2 => ?_) (fun hq => ?_))
                all_goals first
                  | exact absurd (Ht.out (by exact Hid.out (by assumption)) (by exact Hid.out (by assumption)) hq.out) Hok.out
                  | (go_ret
                     exact ⟨ret_bool (body_f3 (Hf.out (by first | exact Hf1.out hq.out | exact Hf2.out hq.out | exact Hf3.out hq.out))).symm, by (repeat' (first | (with_reducible exact Below.refl _ _) | (with_reducible assumption) | (with_reducible refine Below.setCell ?_ (by first | omega | (simp; omega) | (simp; done)) _) | (with_reducible refine Below.alloc ?_ (by first | omega | (simp; omega) | (simp; done)) _) | (with_reducible refine Below.drew ?_) | (with_reducible refine below_drewN ?_ _)))⟩)
            · obtain rfl : q = l.length := by omega
              have Ha := Lib.hid (all_take_end hltq hall.out)
              go_wp2_with fail
              go_ret
              exact ⟨ret_bool ((body_eq hc.out hm1 Ha.out).trans (htr.out.trans (treeAt_end l))).symm, hbo⟩
    · go_ret
      exact ⟨ret_bool (body_f1 hc.out).symm, by (repeat' (first | (with_reducible exact Below.refl _ _) | (with_reducible assumption) | (with_reducible refine Below.setCell ?_ (by first | omega | (simp; omega) | (simp; done)) _) | (with_reducible refine Below.alloc ?_ (by first | omega | (simp; omega) | (simp; done)) _) | (with_reducible refine Below.drew ?_) | (with_reducible refine below_drewN ?_ _)))⟩
  · go_enter Try.func97, Try.ntmps97
    go_wp2_with (go_at_call 78; refine twoI (l01In_any _ _ _ _) (fun hc hm hm' => ?_) (fun hc => ?_))
    all_goals
      go_ret
      exact ⟨ret_bool (body_f2 hlen).symm, by (repeat' (first | exact Below.refl _ _ | (refine Below.setCell ?_ (by first | omega | (simp; omega) | (simp; done)) _) | (refine Below.alloc ?_ (by first | omega | (simp; omega) | (simp; done)) _) | (refine Below.drew ?_) | (refine below_drewN ?_ _) | (refine Below.trans ?_ (Below.mono (by assumption) (by first | omega | (simp; omega) | (simp; done))))))⟩
end Go.Proofs.Ythponccjbbkhaaa
