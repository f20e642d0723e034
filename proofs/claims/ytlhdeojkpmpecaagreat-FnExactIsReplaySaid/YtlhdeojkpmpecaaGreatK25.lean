/- Contracts: IsReplay. Written by a program (gen_k25.py). -/
import Derived.BigQuiet
import Derived.Deep.QuietTactic
import Derived.Test.YtlhdeojkpmpecaaGreatK24
import Derived.Test.YtlhdeojkpmpecaaGreatBdY7x8
namespace Go.Proofs.YtlhdeojkpmpecaaGreat
open Go.RowKit
def replB (t : Th) (acts : List RAct) (ns : List Int) : Bool := (t.ok && decide (acts.length ≤ 40)) && decide ((actsF t acts).2 = ns)
theorem repl_f1 {t : Th} {acts : List RAct} {ns : List Int} (h : t.ok = false) : replB t acts ns = false := by rw [replB, h]; rfl
theorem repl_f2 {t : Th} {acts : List RAct} {ns : List Int} (h : 40 < acts.length) : replB t acts ns = false := by rw [replB, decide_eq_false (show ¬ acts.length ≤ 40 by omega), Bool.and_false]; rfl
theorem repl_t {t : Th} {acts : List RAct} {ns : List Int} (h1 : t.ok = true) (h2 : ¬ 40 < acts.length) : replB t acts ns = decide ((actsF t acts).2 = ns) := by rw [replB, h1, decide_eq_true (show acts.length ≤ 40 by omega)]; rfl
set_option maxHeartbeats 2000000 in
set_option maxRecDepth 100000 in
theorem l39Ints_any (v v' : Value) (a b : List Int) (w : World) (h : RdL cInt 1 w v a) (hq : RdL cInt 1 w v' b) :
  Calls Tryz.prog 73 #[v, v'] w fun e w' => e = .returned (.bool (decide (a = b))) ∧ Below w.heap.size w w' := by
 obtain ⟨A, c, rfl, h1, h2⟩ := h.form
 obtain ⟨A', c', rfl, h1', h2'⟩ := hq.form
 by_cases hl : a.length = b.length
 rotate_left
 ·have hd : ((a.length : Int) != (b.length : Int)) = true := by rw [bne_iff_ne]; omega
  have hne : decide (a = b) = false := decide_eq_false (fun e => hl (by rw [e]))
  have HNE := Lib.hid hne
  clear hne hl
  go_enter Tryz.func73, Tryz.ntmps73
  go_wp2_with fail
  go_ret
  exact ⟨by rw [HNE.out] <;> rfl, Below.refl _ _⟩
 ·have hd : ((a.length : Int) != (b.length : Int)) = false := by rw [bne_eq_false_iff_eq]; omega
  have HL := Lib.hid hl
  have h := Lib.hid h
  have hq := Lib.hid hq
  clear hl
  go_enter Tryz.func73, Tryz.ntmps73
  go_wp2_with fail
  go_loopw [5] (fun i wr => ∃ k : Nat, k ≤ a.length ∧ i = .int .i64 k ∧ Hid (a.take k = b.take k) ∧ Below w.heap.size w wr) (fun i _ => a.length - (intOf i).toNat)
  case atStart => exact ⟨0, Nat.zero_le _, rfl, by simp [Hid], Below.refl _ _⟩
  case round =>
   obtain ⟨k, hk, rfl, ht, hb⟩ := hrel
   by_cases hlt : k < a.length
   ·have hlt' : k < b.length := by have := HL.out; omega
    obtain ⟨g, off, rfl, hg, hcell⟩ := (h.out.below hb).cell cInt_len (by omega) hlt
    obtain ⟨g', off', rfl, hg', hcell'⟩ := (hq.out.below hb).cell cInt_len (by omega) hlt'
    have k0 := hcell 0 _ rfl
    have k1 := hcell' 0 _ rfl
    simp only [Nat.add_zero, Nat.mul_one] at k0 k1
    clear hcell hcell'
    have Hta := Lib.hid (take_snoc_l a hlt)
    have Htb := Lib.hid (take_snoc_l b hlt')
    have Hga : Hid (a[k]? = some a[k]) := List.getElem?_eq_getElem hlt
    have Hgb : Hid (b[k]? = some b[k]) := List.getElem?_eq_getElem hlt'
    generalize a[k] = x at *
    generalize b[k] = y at *
    by_cases hxy : x = y
    ·have hd2 : (x != y) = false := by rw [bne_eq_false_iff_eq]; exact hxy
     have HXY := Lib.hid hxy
     clear hxy
     go_wp2_with fail
     go_quiet (fail)
     rename_i nq
     have hb2 := below_drewN hb nq
     go_wp2_with fail
     go_roundw
     case rel => exact ⟨k + 1, by omega, by go_num, by show _ = _; rw [Hta.out, Htb.out, ht.out, HXY.out], hb2⟩
     case measure => simp [intOf]; omega
    ·have hd2 : (x != y) = true := by rw [bne_iff_ne]; exact hxy
     have hne : decide (a = b) = false := decide_eq_false (fun e => hxy (by have h1 := Hga.out; have h2 := Hgb.out; rw [e, h2] at h1; injection h1 with h1; exact h1.symm))
     have HNE := Lib.hid hne
     clear hne hxy
     go_wp2_with fail
     go_quiet (fail)
     rename_i nq
     have hb2 := below_drewN hb nq
     go_wp2_with fail
     go_ret
     exact ⟨by rw [HNE.out] <;> rfl, hb2⟩
   ·have HE : Hid (decide (a = b) = true) := decide_eq_true (by have h1 := ht.out; have h2 := HL.out; rwa [List.take_of_length_le (by omega), List.take_of_length_le (by omega)] at h1)
    go_wp2_with fail
    go_ret
    exact ⟨by rw [HE.out] <;> rfl, hb⟩
set_option maxHeartbeats 4000000 in
set_option maxRecDepth 100000 in
theorem implIsReplay_any (n m : Int) (v1 v2 v3 va vn : Value) (cs : List RCross) (pl : List RPl) (ds : List Int) (acts : List RAct) (ns : List Int) (w : World) (h : RdTheatre w v1 v2 v3 cs pl ds) (ha : RdL cAct 3 w va acts) (hn : RdL cInt 1 w vn ns) (hsz : szTheatre cs pl ds ≤ 1048576) :
  Calls Tryz.prog 29 #[.agg #[.int .i64 n, v1, v2, v3, .int .i64 m], va, vn] w fun e w' => e = .returned (.bool (replB ⟨n, m, cs, pl, ds⟩ acts ns)) ∧ Below w.heap.size w w' := by
 obtain ⟨⟨A1, n1, rfl⟩, ⟨A2, n2, rfl⟩, ⟨A3, n3, rfl⟩⟩ := h.forms
 obtain ⟨Ac, cc, rfl, hac, hacc⟩ := ha.form
 obtain ⟨An, cn, rfl, hnc, hncc⟩ := hn.form
 have hb0 : Below w.heap.size w (w.alloc (.cells #[.int .i64 n, .slice A1 cs.length n1, .slice A2 pl.length n2, .slice A3 ds.length n3, .int .i64 m] 37)) := (Below.refl _ _).alloc (Nat.le_refl _) _
 have Lc : Loc (w.alloc (.cells #[.int .i64 n, .slice A1 cs.length n1, .slice A2 pl.length n2, .slice A3 ds.length n3, .int .i64 m] 37)) w.heap.size [.int .i64 n, .slice A1 cs.length n1, .slice A2 pl.length n2, .slice A3 ds.length n3, .int .i64 m] := Loc.new w #[.int .i64 n, .slice A1 cs.length n1, .slice A2 pl.length n2, .slice A3 ds.length n3, .int .i64 m] 37
 go_enter Tryz.func29, Tryz.ntmps29
 go_upto_region 1 with (fail)
 obtain ⟨gc, hgc⟩ : ∃ g, w.heap.size = g := ⟨_, rfl⟩
 rw [hgc] at Lc
 generalize w.alloc (.cells #[.int .i64 n, .slice A1 cs.length n1, .slice A2 pl.length n2, .slice A3 ds.length n3, .int .i64 m] 37) = W0 at *
 (try rw [hgc])
 clear hgc
 have c0 := (Lc 0 _ rfl).1
 have c1 := (Lc 1 _ rfl).1
 have c2 := (Lc 2 _ rfl).1
 have c3 := (Lc 3 _ rfl).1
 have c4 := (Lc 4 _ rfl).1
 go_wp2_with fail
 refine twoB (implTheatreOk_any n m _ _ _ cs pl ds _ (h.below hb0)) (fun w1 hq q => ?_) (fun w1 hq q => ?_)
 ·have hb1 := bl_trans hb0 q
  have HQ : Hid ((⟨n, m, cs, pl, ds⟩ : Th).ok = true) := hq
  by_cases hl : 40 < acts.length
  ·have hd : decide ((40 : Int) < (acts.length : Int)) = true := decide_eq_true (by omega)
   have HF := Lib.hid (repl_f2 (t := ⟨n, m, cs, pl, ds⟩) (ns := ns) hl)
   go_wp2_with fail
   go_ret
   exact ⟨by rw [HF.out] <;> rfl, hb1⟩
  ·have hd : decide ((40 : Int) < (acts.length : Int)) = false := decide_eq_false (by omega)
   have HF := Lib.hid (repl_t (ns := ns) HQ.out hl)
   obtain ⟨⟨⟨rn, rm, rcs, rpl, rds⟩, rns⟩, hres⟩ : ∃ r, actsF ⟨n, m, cs, pl, ds⟩ acts = r := ⟨_, rfl⟩
   have hX : Hid (∀ W, RdTheatre W (.slice A1 cs.length n1) (.slice A2 pl.length n2) (.slice A3 ds.length n3) cs pl ds → RdL cAct 3 W (.slice Ac acts.length cc) acts → Calls Tryz.prog 21 #[.agg #[.int .i64 n, .slice A1 cs.length n1, .slice A2 pl.length n2, .slice A3 ds.length n3, .int .i64 m], .slice Ac acts.length cc] W (RetTI W.heap.size rn rm rcs rpl rds rns W)) := fun W hr ha => by
    have := implRunActs_any n m _ _ _ _ cs pl ds acts W hr ha hsz
    rw [hres] at this
    exact this
   rw [hres] at HF
   have HRL : Hid (rns.length ≤ 40) := by have := (actsF_sz ⟨n, m, cs, pl, ds⟩ acts).2; rw [hres] at this; exact this
   clear hres
   have L1 := Lc.below q
   clear c0 c1 c2 c3 c4
   have c0 := (L1 0 _ rfl).1
   have c1 := (L1 1 _ rfl).1
   have c2 := (L1 2 _ rfl).1
   have c3 := (L1 3 _ rfl).1
   have c4 := (L1 4 _ rfl).1
   go_wp2_with fail
   refine (hX.out _ (h.below hb1) (ha.below hb1)).mono ?_
   rintro e w2 ⟨x1, x2, x3, S, v, SN, rfl, ow, fr, on, fnn, dj, q2⟩
   obtain ⟨⟨B1, k1, rfl⟩, ⟨B2, k2, rfl⟩, ⟨B3, k3, rfl⟩⟩ := ow.rd.forms
   obtain ⟨Bn, kn, rfl, _, _⟩ := on.rd.form
   have hb2 := bl_trans hb1 q2
   have hrn := on.rd
   clear ow fr on fnn dj q2 c0 c1 c2 c3 c4
   go_wp2_with fail
   refine (implSameInts_any _ _ _ _ _ (hrn.below ((Below.refl _ _).alloc (Nat.le_refl _) _)) (hn.below (by first | exact hb2.alloc hb2.size _ | exact hb2))).mono ?_
   rintro e w3 ⟨rfl, q3⟩
   have hb3 : Below w.heap.size w w3 := bl_trans (by first | exact hb2.alloc hb2.size _ | exact hb2) q3
   go_wp2_with fail
   go_ret
   exact ⟨by rw [HF.out] <;> rfl, hb3⟩
 ·have HF := Lib.hid (repl_f1 (t := ⟨n, m, cs, pl, ds⟩) (acts := acts) (ns := ns) hq.out)
  have hb1 := bl_trans hb0 q
  go_wp2_with fail
  go_ret
  exact ⟨by rw [HF.out] <;> rfl, hb1⟩
set_option maxHeartbeats 4000000 in
set_option maxRecDepth 100000 in
theorem specIsReplay_any (n m : Int) (v1 v2 v3 va vn : Value) (cs : List RCross) (pl : List RPl) (ds : List Int) (acts : List RAct) (ns : List Int) (w : World) (h : RdTheatre w v1 v2 v3 cs pl ds) (ha : RdL cAct 3 w va acts) (hn : RdL cInt 1 w vn ns) (hsz : szTheatre cs pl ds ≤ 1048576) :
  Calls Tryz.prog 27 #[.agg #[.int .i64 n, v1, v2, v3, .int .i64 m], va, vn] w fun e w' => e = .returned (.bool (replB ⟨n, m, cs, pl, ds⟩ acts ns)) ∧ Below w.heap.size w w' := by
 obtain ⟨⟨A1, n1, rfl⟩, ⟨A2, n2, rfl⟩, ⟨A3, n3, rfl⟩⟩ := h.forms
 obtain ⟨Ac, cc, rfl, hac, hacc⟩ := ha.form
 obtain ⟨An, cn, rfl, hnc, hncc⟩ := hn.form
 have hb0 : Below w.heap.size w (w.alloc (.cells #[.int .i64 n, .slice A1 cs.length n1, .slice A2 pl.length n2, .slice A3 ds.length n3, .int .i64 m] 37)) := (Below.refl _ _).alloc (Nat.le_refl _) _
 have Lc : Loc (w.alloc (.cells #[.int .i64 n, .slice A1 cs.length n1, .slice A2 pl.length n2, .slice A3 ds.length n3, .int .i64 m] 37)) w.heap.size [.int .i64 n, .slice A1 cs.length n1, .slice A2 pl.length n2, .slice A3 ds.length n3, .int .i64 m] := Loc.new w #[.int .i64 n, .slice A1 cs.length n1, .slice A2 pl.length n2, .slice A3 ds.length n3, .int .i64 m] 37
 go_enter Tryz.func27, Tryz.ntmps27
 go_upto_region 1 with (fail)
 obtain ⟨gc, hgc⟩ : ∃ g, w.heap.size = g := ⟨_, rfl⟩
 rw [hgc] at Lc
 generalize w.alloc (.cells #[.int .i64 n, .slice A1 cs.length n1, .slice A2 pl.length n2, .slice A3 ds.length n3, .int .i64 m] 37) = W0 at *
 (try rw [hgc])
 clear hgc
 have c0 := (Lc 0 _ rfl).1
 have c1 := (Lc 1 _ rfl).1
 have c2 := (Lc 2 _ rfl).1
 have c3 := (Lc 3 _ rfl).1
 have c4 := (Lc 4 _ rfl).1
 go_wp2_with fail
 refine twoB (specTheatreOk_any n m _ _ _ cs pl ds _ (h.below hb0)) (fun w1 hq q => ?_) (fun w1 hq q => ?_)
 ·have hb1 := bl_trans hb0 q
  have HQ : Hid ((⟨n, m, cs, pl, ds⟩ : Th).ok = true) := hq
  by_cases hl : 40 < acts.length
  ·have hd : decide ((40 : Int) < (acts.length : Int)) = true := decide_eq_true (by omega)
   have HF := Lib.hid (repl_f2 (t := ⟨n, m, cs, pl, ds⟩) (ns := ns) hl)
   go_wp2_with fail
   go_ret
   exact ⟨by rw [HF.out] <;> rfl, hb1⟩
  ·have hd : decide ((40 : Int) < (acts.length : Int)) = false := decide_eq_false (by omega)
   have HF := Lib.hid (repl_t (ns := ns) HQ.out hl)
   obtain ⟨⟨⟨rn, rm, rcs, rpl, rds⟩, rns⟩, hres⟩ : ∃ r, actsF ⟨n, m, cs, pl, ds⟩ acts = r := ⟨_, rfl⟩
   have hX : Hid (∀ W, RdTheatre W (.slice A1 cs.length n1) (.slice A2 pl.length n2) (.slice A3 ds.length n3) cs pl ds → RdL cAct 3 W (.slice Ac acts.length cc) acts → Calls Tryz.prog 19 #[.agg #[.int .i64 n, .slice A1 cs.length n1, .slice A2 pl.length n2, .slice A3 ds.length n3, .int .i64 m], .slice Ac acts.length cc] W (RetTI W.heap.size rn rm rcs rpl rds rns W)) := fun W hr ha => by
    have := specRunActs_any n m _ _ _ _ cs pl ds acts W hr ha hsz
    rw [hres] at this
    exact this
   rw [hres] at HF
   have HRL : Hid (rns.length ≤ 40) := by have := (actsF_sz ⟨n, m, cs, pl, ds⟩ acts).2; rw [hres] at this; exact this
   clear hres
   have L1 := Lc.below q
   clear c0 c1 c2 c3 c4
   have c0 := (L1 0 _ rfl).1
   have c1 := (L1 1 _ rfl).1
   have c2 := (L1 2 _ rfl).1
   have c3 := (L1 3 _ rfl).1
   have c4 := (L1 4 _ rfl).1
   go_wp2_with fail
   refine (hX.out _ (h.below hb1) (ha.below hb1)).mono ?_
   rintro e w2 ⟨x1, x2, x3, S, v, SN, rfl, ow, fr, on, fnn, dj, q2⟩
   obtain ⟨⟨B1, k1, rfl⟩, ⟨B2, k2, rfl⟩, ⟨B3, k3, rfl⟩⟩ := ow.rd.forms
   obtain ⟨Bn, kn, rfl, _, _⟩ := on.rd.form
   have hb2 := bl_trans hb1 q2
   have hrn := on.rd
   clear ow fr on fnn dj q2 c0 c1 c2 c3 c4
   go_wp2_with fail
   refine (l39Ints_any _ _ _ _ _ (hrn.below ((Below.refl _ _).alloc (Nat.le_refl _) _)) (hn.below (by first | exact hb2.alloc hb2.size _ | exact hb2))).mono ?_
   rintro e w3 ⟨rfl, q3⟩
   have hb3 : Below w.heap.size w w3 := bl_trans (by first | exact hb2.alloc hb2.size _ | exact hb2) q3
   go_wp2_with fail
   go_ret
   exact ⟨by rw [HF.out] <;> rfl, hb3⟩
 ·have HF := Lib.hid (repl_f1 (t := ⟨n, m, cs, pl, ds⟩) (acts := acts) (ns := ns) hq.out)
  have hb1 := bl_trans hb0 q
  go_wp2_with fail
  go_ret
  exact ⟨by rw [HF.out] <;> rfl, hb1⟩
end Go.Proofs.YtlhdeojkpmpecaaGreat
