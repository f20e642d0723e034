/- Several texts in one: Contracts: RunActs of the reference. Written by a program (gen_k23.py). Contracts: IsReplay. Written by a program (gen_k25.py). The drawing of places: twelve numbers below 10000. Written by a program (gen_w13.py). -/
import Derived.BigQuiet
import Derived.Deep.QuietTactic
import Derived.Test.YtlhdeojkpmpecaaGreatBdZ5x9
import Derived.Test.YtlhdeojkpmpecaaGreatM15
import Derived.Test.YtlhdeojkpmpecaaGreatBdM5x6
import Derived.Test.YtlhdeojkpmpecaaGreatBdY7x8
namespace Go.Proofs.YtlhdeojkpmpecaaGreat
open Go.RowKit
open Go.RowKit
def replB (t : Th) (acts : List RAct) (ns : List Int) : Bool := (t.ok && decide (acts.length ≤ 40)) && decide ((actsF t acts).2 = ns)
theorem repl_f1 {t : Th} {acts : List RAct} {ns : List Int} (h : t.ok = false) : replB t acts ns = false := by rw [replB, h]; rfl
theorem repl_f2 {t : Th} {acts : List RAct} {ns : List Int} (h : 40 < acts.length) : replB t acts ns = false := by rw [replB, decide_eq_false (show ¬ acts.length ≤ 40 by omega), Bool.and_false]; rfl
theorem repl_t {t : Th} {acts : List RAct} {ns : List Int} (h1 : t.ok = true) (h2 : ¬ 40 < acts.length) : replB t acts ns = decide ((actsF t acts).2 = ns) := by rw [replB, h1, decide_eq_true (show acts.length ≤ 40 by omega)]; rfl
set_option maxHeartbeats 4000000 in
set_option maxRecDepth 100000 in
theorem implIsReplay_any (n m : Int) (v1 v2 v3 va vn : Value) (cs : List RCross) (pl : List RPl) (ds : List Int) (acts : List RAct) (ns : List Int) (w : World) (h : RdTheatre w v1 v2 v3 cs pl ds) (ha : RdL cAct 3 w va acts) (hn : RdL cInt 1 w vn ns) (hsz : szTheatre cs pl ds ≤ 1048576) :
  Calls Tryz.prog 29 #[.agg #[.int .i64 n, v1, v2, v3, .int .i64 m], va, vn] w fun e w' => e = .returned (.bool (replB ⟨n, m, cs, pl, ds⟩ acts ns)) ∧ Below w.heap.size w w' := by
 obtain ⟨⟨A1, n1, rfl⟩, ⟨A2, n2, rfl⟩, ⟨A3, n3, rfl⟩⟩ := h.forms
 obtain ⟨Ac, cc, rfl, hac, hacc⟩ := ha.form
 obtain ⟨An, cn, rfl, hnc, hncc⟩ := hn.form
 have hb0 : Below w.heap.size w (w.alloc (.cells #[.int .i64 n, .slice A1 cs.length n1, .slice A2 pl.length n2, .slice A3 ds.length n3, .int .i64 m] 37)) := (Below.refl _ _).alloc (Nat.le_refl _) _
 have Lc : Loc (w.alloc (.cells #[.int .i64 n, .slice A1 cs.length n1, .slice A2 pl.length n2, .slice A3 ds.length n3, .int .i64 m] 37)) w.heap.size [.int .i64 n, .slice A1 cs.length n1, .slice A2 pl.length n2, .slice A3 ds.length n3, .int .i64 m] := Loc.new w #[.int .i64 n, .slice A1 cs.length n1, .slice A2 pl.length n2, .slice A3 ds.length n3, .int .i64 m] 37
 go_enter Tryz.func29, Tryz.ntmps29
 go_upto_region 1 with (fail)
 obtain ⟨gc, hgc⟩ : ∃ g, w.heap.size = g := ⟨_, rfl⟩
 rw [hgc] at Lc
 generalize w.alloc (.cells #[.int .i64 n, .slice A1 cs.length n1, .slice A2 pl.length n2, .slice A3 ds.length n3, .int .i64 m] 37) = W0 at *
 (try rw [hgc])
 clear hgc
 have c0 := (Lc 0 _ rfl).1
 have c1 := (Lc 1 _ rfl).1
 have c2 := (Lc 2 _ rfl).1
 have c3 := (Lc 3 _ rfl).1
 have c4 := (Lc 4 _ rfl).1
 go_wp2_with fail
 refine twoB (implTheatreOk_any n m _ _ _ cs pl ds _ (h.below hb0)) (fun w1 hq q => ?_) (fun w1 hq q => ?_)
 ·have hb1 := bl_trans hb0 q
  have HQ : Hid ((⟨n, m, cs, pl, ds⟩ : Th).ok = true) := hq
  by_cases hl : 40 < acts.length
  ·have hd : decide ((40 : Int) < (acts.length : Int)) = true := decide_eq_true (by omega)
   have HF := Lib.hid (repl_f2 (t := ⟨n, m, cs, pl, ds⟩) (ns := ns) hl)
   go_wp2_with fail
   go_ret
   exact ⟨by rw [HF.out] <;> rfl, hb1⟩
  ·have hd : decide ((40 : Int) < (acts.length : Int)) = false := decide_eq_false (by omega)
   have HF := Lib.hid (repl_t (ns := ns) HQ.out hl)
   obtain ⟨⟨⟨rn, rm, rcs, rpl, rds⟩, rns⟩, hres⟩ : ∃ r, actsF ⟨n, m, cs, pl, ds⟩ acts = r := ⟨_, rfl⟩
   have hX : Hid (∀ W, RdTheatre W (.slice A1 cs.length n1) (.slice A2 pl.length n2) (.slice A3 ds.length n3) cs pl ds → RdL cAct 3 W (.slice Ac acts.length cc) acts → Calls Tryz.prog 21 #[.agg #[.int .i64 n, .slice A1 cs.length n1, .slice A2 pl.length n2, .slice A3 ds.length n3, .int .i64 m], .slice Ac acts.length cc] W (RetTI W.heap.size rn rm rcs rpl rds rns W)) := fun W hr ha => by
    have := implRunActs_any n m _ _ _ _ cs pl ds acts W hr ha hsz
    rw [hres] at this
    exact this
   rw [hres] at HF
   have HRL : Hid (rns.length ≤ 40) := by have := (actsF_sz ⟨n, m, cs, pl, ds⟩ acts).2; rw [hres] at this; exact this
   clear hres
   have L1 := Lc.below q
   clear c0 c1 c2 c3 c4
   have c0 := (L1 0 _ rfl).1
   have c1 := (L1 1 _ rfl).1
   have c2 := (L1 2 _ rfl).1
   have c3 := (L1 3 _ rfl).1
   have c4 := (L1 4 _ rfl).1
   go_wp2_with fail
   refine (hX.out _ (h.below hb1) (ha.below hb1)).mono ?_
   rintro e w2 ⟨x1, x2, x3, S, v, SN, rfl, ow, fr, on, fnn, dj, q2⟩
   obtain ⟨⟨B1, k1, rfl⟩, ⟨B2, k2, rfl⟩, ⟨B3, k3, rfl⟩⟩ := ow.rd.forms
   obtain ⟨Bn, kn, rfl, _, _⟩ := on.rd.form
   have hb2 := bl_trans hb1 q2
   have hrn := on.rd
   clear ow fr on fnn dj q2 c0 c1 c2 c3 c4
   go_wp2_with fail
   refine (implSameInts_any _ _ _ _ _ (hrn.below ((Below.refl _ _).alloc (Nat.le_refl _) _)) (hn.below (by first | exact hb2.alloc hb2.size _ | exact hb2))).mono ?_
   rintro e w3 ⟨rfl, q3⟩
   have hb3 : Below w.heap.size w w3 := bl_trans (by first | exact hb2.alloc hb2.size _ | exact hb2) q3
   go_wp2_with fail
   go_ret
   exact ⟨by rw [HF.out] <;> rfl, hb3⟩
 ·have HF := Lib.hid (repl_f1 (t := ⟨n, m, cs, pl, ds⟩) (acts := acts) (ns := ns) hq.out)
  have hb1 := bl_trans hb0 q
  go_wp2_with fail
  go_ret
  exact ⟨by rw [HF.out] <;> rfl, hb1⟩
open Go.RowKit
set_option maxHeartbeats 2000000 in
set_option maxRecDepth 100000 in
theorem l01Big_any (w0 w : World) (g : Nat) (A : Option Addr) (c : Nat) (bs : List Int) (hcur : Cur w0 w g A c bs) :
  Calls Tryz.prog 100 #[.pointer (some ⟨g, 0, none⟩), .int .i64 10000] w (DrawPost 10000 w0 w g A c bs) := by
 go_enter Tryz.func100, Tryz.ntmps100
 go_wp2_with fail
 refine (l01Byte_any w0 w g A c bs hcur).mono ?_
 rintro e w1 ⟨r1, rfl, ⟨h10, h11⟩, hc1, hch1⟩
 go_wp2_with fail
 refine (l01Byte_any w0 w1 g A c bs hc1).mono ?_
 rintro e w2 ⟨r2, rfl, ⟨h20, h21⟩, hc2, hch2⟩
 go_wp2_with fail
 refine (l01Byte_any w0 w2 g A c bs hc2).mono ?_
 rintro e w3 ⟨r3, rfl, ⟨h30, h31⟩, hc3, hch3⟩
 go_wp2_with fail
 refine (l01Byte_any w0 w3 g A c bs hc3).mono ?_
 rintro e w4 ⟨r4, rfl, ⟨h40, h41⟩, hc4, hch4⟩
 have hch := ((hch1.trans hch2).trans hch3).trans hch4
 clear hch1 hch2 hch3 hch4 hc1 hc2 hc3 hcur
 go_wp2_with fail
 go_ret
 exact ⟨_, rfl, ⟨by first | exact Int.emod_nonneg _ (by omega) | omega, by first | exact Int.emod_lt_of_pos _ (by omega) | omega⟩, hc4, hch⟩
set_option maxHeartbeats 4000000 in
set_option maxRecDepth 100000 in
theorem drawPlaces_any (A : Option Addr) (c : Nat) (bs : List Int) (w : World) (h : RdL cU8 1 w (.slice A bs.length c) bs) (hby : ∀ x ∈ bs, 0 ≤ x ∧ x ≤ 255) (hlen : bs.length ≤ 1048576) :
  Calls Tryz.prog 50 #[.slice A bs.length c] w fun e w' => ∃ v l, e = .returned v ∧ RdL cInt 1 w' v l ∧ l.length = 12 ∧ (∀ x ∈ l, 0 ≤ x ∧ x < 10000) ∧ Below w.heap.size w w' := by
 obtain ⟨i0, hi0, hz0, hz1, hz2⟩ := info_parts infoInt
 go_enter Tryz.func50, Tryz.ntmps50
 go_wp2_with fail
 refine (l01New_any A c bs w h hby hlen).mono ?_
 rintro e w1 ⟨g, rfl, hc1⟩
 have hgw := hc1.base
 have hglt := hc1.lt
 have hw0 := hc1.below.size
 have hown0 := World.ownsRow_made (size := 1) (e := 3) w1 #[] 0 (Nat.le_refl _) (by simp [maxLen]) rfl
 have hc0 := hc1.keep ((Below.refl _ _).alloc (Nat.le_refl _) (.cells #[] 3))
 have hch0 := (Chg.refl [g] w1).alloc (.cells #[] 3)
 have hb1 := hc1.below
 clear h hby hc1
 go_wp2_with fail
 go_loopw [4, 5] (fun q i wr => ∃ (k : Nat) (l : List Int), k ≤ 12 ∧ i = .int .i64 k ∧ Hid (l.length = k) ∧ Hid (∀ x ∈ l, 0 ≤ x ∧ x < 10000) ∧ wr.ownsRow w1.heap.size 3 1 q l.length (l.flatMap cInt) ∧ Cur w wr g A c bs ∧ Chg [g] w1 wr) (fun _ i _ => 12 - (intOf i).toNat)
 case atStart => exact ⟨0, [], Nat.zero_le _, rfl, rfl, by simp [Hid], hown0, hc0, hch0⟩
 case round =>
  obtain ⟨k, l, hk, rfl, hll, hval, hown, hc, hch⟩ := hrel
  clear hown0 hc0 hch0
  have hzw := hch.size
  obtain ⟨Aq, cq, rfl, _, _⟩ := (RdS.of_own hown).form
  by_cases hlt : k < 12
  ·have hl12 : l.length ≤ 12 := by have := hll.out; omega
   go_wp2_with fail
   refine (l01Big_any w wr g A c bs hc).mono ?_
   rintro e w3 ⟨r, rfl, hr, hc3, hch3⟩
   have hown3 := own_draw hown hch3 hglt
   have hchw3 := hch.trans hch3
   have hz3 := hchw3.size
   clear hown hc hch hch3
   go_wp2_with (at_builtin; go_must (refine wpList_appendR _ rfl (.tmp 13) (.tmp 16) _ rfl w1.heap.size 3 i0 _ 1 8 Tryz.underlying26 hi0 hz0 hz1 hz2 rfl (by omega) _ l.length (l.flatMap cInt) rfl (hown3.alloc _) _ 1 [.int .i64 r] rfl (rdS_new w3 #[.int .i64 r] _ 1 1 rfl (by simp [maxLen])) (by simp [Value.oneCell']) (by simp [maxLen]; omega) (by omega) (by simp; omega) ?_); intro v9 w9 hown9 hgr9)
   have hch9 := chg_of_own (hchw3.alloc (.cells #[.int .i64 r] 3)) (hown3.alloc _) hgr9
   have hc9 := cur_own (hc3.keep ((Below.refl _ _).alloc (Nat.le_refl _) (.cells #[.int .i64 r] 3))) (hown3.alloc _) hgr9 hglt hw0
   go_wp2_with fail
   go_roundw
   case rel => exact ⟨k + 1, l ++ [r], by omega, by go_num, by show _ = _; rw [List.length_append, hll.out]; rfl, fun x hx => by rcases List.mem_append.1 hx with hx | hx; exact hval.out x hx; rw [List.mem_singleton] at hx; subst hx; exact hr, by rw [List.length_append, List.flatMap_append]; exact hown9, hc9, hch9⟩
   case measure => simp [intOf]; omega
  ·obtain rfl : k = 12 := by omega
   go_wp2_with fail
   go_ret
   exact ⟨_, l, rfl, RdS.of_own hown, hll.out, hval.out, hc.below⟩
end Go.Proofs.YtlhdeojkpmpecaaGreat
