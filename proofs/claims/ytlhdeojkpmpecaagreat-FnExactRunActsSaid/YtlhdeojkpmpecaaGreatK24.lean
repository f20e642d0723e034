/- Contracts: RunActs of the reference. Written by a program (gen_k23.py). -/
import Derived.Test.YtlhdeojkpmpecaaGreatBdK17x6
import Derived.Test.YtlhdeojkpmpecaaGreatBdM5x7
namespace Go.Proofs.YtlhdeojkpmpecaaGreat
open Go.RowKit
set_option maxRecDepth 100000 in
theorem act46rsp {a : Act} (h : a.tmps.size = 46) (hd : a.defers = []) : a = ⟨List.toArray (a.tmps.getD 0 undef :: a.tmps.getD 1 undef :: a.tmps.getD 2 undef :: a.tmps.getD 3 undef :: a.tmps.getD 4 undef :: a.tmps.getD 5 undef :: a.tmps.getD 6 undef :: a.tmps.getD 7 undef :: a.tmps.getD 8 undef :: a.tmps.getD 9 undef :: a.tmps.getD 10 undef :: a.tmps.getD 11 undef :: a.tmps.getD 12 undef :: a.tmps.getD 13 undef :: a.tmps.getD 14 undef :: a.tmps.getD 15 undef :: a.tmps.getD 16 undef :: a.tmps.getD 17 undef :: a.tmps.getD 18 undef :: a.tmps.getD 19 undef :: a.tmps.getD 20 undef :: a.tmps.getD 21 undef :: a.tmps.getD 22 undef :: a.tmps.getD 23 undef :: a.tmps.getD 24 undef :: a.tmps.getD 25 undef :: a.tmps.getD 26 undef :: a.tmps.getD 27 undef :: a.tmps.getD 28 undef :: a.tmps.getD 29 undef :: a.tmps.getD 30 undef :: a.tmps.getD 31 undef :: a.tmps.getD 32 undef :: a.tmps.getD 33 undef :: a.tmps.getD 34 undef :: a.tmps.getD 35 undef :: a.tmps.getD 36 undef :: a.tmps.getD 37 undef :: a.tmps.getD 38 undef :: a.tmps.getD 39 undef :: a.tmps.getD 40 undef :: a.tmps.getD 41 undef :: a.tmps.getD 42 undef :: a.tmps.getD 43 undef :: a.tmps.getD 44 undef :: a.tmps.getD 45 undef :: []), []⟩ := act_eq 46 h hd
def prsp (B : Nat) (n1' m1' ka aa ba rn rm rk : Int) (Y1 Y2 Y3 : Option Addr) (y1 y2 y3 al cc k g off : Nat) (cs1 rcs : List RCross) (pl1 rpl : List RPl) (ds1 rds : List Int) (i : Nat) (v : Value) (gh : Nat → Nat) (w : World) : Prop :=
 match i with
 | 0 => v = .agg #[.int .i64 n1', .slice Y1 cs1.length y1, .slice Y2 pl1.length y2, .slice Y3 ds1.length y3, .int .i64 m1']
 | 1 => v = .slice (some ⟨g, off, none⟩) al cc
 | 2 => v = .int .i64 k
 | 3 => v = .pointer (some ⟨g, off + k * 3, none⟩)
 | 4 => v = .agg #[.int .i64 ka, .int .i64 aa, .int .i64 ba]
 | 5 => ∃ (Z1 Z2 Z3 : Option Addr) (e1 e2 e3 : Nat), v = .tuple #[.agg #[.int .i64 rn, .slice Z1 rcs.length e1, .slice Z2 rpl.length e2, .slice Z3 rds.length e3, .int .i64 rm], .int .i64 rk] ∧ OwG B (fun w S => OwTheatre w S (.slice Z1 rcs.length e1) (.slice Z2 rpl.length e2) (.slice Z3 rds.length e3) rcs rpl rds) 1 gh w
 | 6 => ∃ (Z1 Z2 Z3 : Option Addr) (e1 e2 e3 : Nat), v = .tuple #[.agg #[.int .i64 rn, .slice Z1 rcs.length e1, .slice Z2 rpl.length e2, .slice Z3 rds.length e3, .int .i64 rm], .int .i64 rk] ∧ OwG B (fun w S => OwTheatre w S (.slice Z1 rcs.length e1) (.slice Z2 rpl.length e2) (.slice Z3 rds.length e3) rcs rpl rds) 1 gh w
 | 7 => ∃ (Z1 Z2 Z3 : Option Addr) (e1 e2 e3 : Nat), v = .agg #[.int .i64 rn, .slice Z1 rcs.length e1, .slice Z2 rpl.length e2, .slice Z3 rds.length e3, .int .i64 rm] ∧ OwG B (fun w S => OwTheatre w S (.slice Z1 rcs.length e1) (.slice Z2 rpl.length e2) (.slice Z3 rds.length e3) rcs rpl rds) 1 gh w
 | 8 => v = .int .i64 rk
 | 9 => ∃ xb, v = .pointer (some ⟨xb, 0, none⟩) ∧ B ≤ xb ∧ Loc w xb [.int .i64 0, .slice none 0 0, .slice none 0 0, .slice none 0 0, .int .i64 0] ∧ gh xb = 2 ∧ xb < w.heap.size
 | _ => True
set_option maxHeartbeats 8000000 in
set_option maxRecDepth 100000 in
theorem specRunActs_any (n m : Int) (v1 v2 v3 va : Value) (cs : List RCross) (pl : List RPl) (ds : List Int) (acts : List RAct) (w : World) (h : RdTheatre w v1 v2 v3 cs pl ds) (ha : RdL cAct 3 w va acts) (hsz : szTheatre cs pl ds ≤ 1048576) :
  Calls Tryz.prog 19 #[.agg #[.int .i64 n, v1, v2, v3, .int .i64 m], va] w (RetRun w.heap.size (actsF ⟨n, m, cs, pl, ds⟩ acts) w) := by
 obtain ⟨⟨A1, n1, rfl⟩, ⟨A2, n2, rfl⟩, ⟨A3, n3, rfl⟩⟩ := h.forms
 obtain ⟨Ac, cc, rfl, hac, hacc⟩ := ha.form
 obtain ⟨i0, hi0, hz0', hz1', hz2'⟩ := info_parts infoInt
 go_enter Tryz.func19, Tryz.ntmps19
 go_wp2_with fail
 refine (l38Copy_any n m _ _ _ cs pl ds _ (h.below (by (repeat' (with_reducible first | exact Below.refl _ _ | assumption | refine qS ?_ _ | refine qA ?_ _ | refine qD ?_ | refine qN ?_ _)))) hsz).mono ?_
 rintro e W1 ⟨x1, x2, x3, S, rfl, ow, f1, q⟩
 obtain ⟨⟨B1, k1, rfl⟩, ⟨B2, k2, rfl⟩, ⟨B3, k3, rfl⟩⟩ := ow.rd.forms
 have Lc : Loc W1 (w.heap.size) [.int .i64 n, .slice A1 cs.length n1, .slice A2 pl.length n2, .slice A3 ds.length n3, .int .i64 m] := by have := ((Loc.new w #[.int .i64 n, .slice A1 cs.length n1, .slice A2 pl.length n2, .slice A3 ds.length n3, .int .i64 m] 37).alloc _).below q; simpa using this
 have Lr : Loc W1 (w.heap.size + 1) [.int .i64 0, .slice none 0 0, .slice none 0 0, .slice none 0 0, .int .i64 0] := by have := (Loc.new (w.alloc (.cells #[.int .i64 n, .slice A1 cs.length n1, .slice A2 pl.length n2, .slice A3 ds.length n3, .int .i64 m] 37)) #[.int .i64 0, .slice none 0 0, .slice none 0 0, .slice none 0 0, .int .i64 0] 37).below q; simpa using this
 have hb : Below w.heap.size w W1 := Below.trans (by (repeat' (with_reducible first | exact Below.refl _ _ | assumption | refine qS ?_ _ | refine qA ?_ _ | refine qD ?_ | refine qN ?_ _))) (q.mono (by simp <;> omega))
 have hz0 : w.heap.size + 1 + 1 ≤ W1.heap.size := by have := q.size; simp at this; omega
 have hlow : w.heap.size + 1 + 1 ≤ (((w.alloc (.cells #[.int .i64 n, .slice A1 cs.length n1, .slice A2 pl.length n2, .slice A3 ds.length n3, .int .i64 m] 37)).alloc (.cells #[.int .i64 0, .slice none 0 0, .slice none 0 0, .slice none 0 0, .int .i64 0] 37))).heap.size := by first | exact Nat.le_refl _ | (simp; done) | (simp; omega) | omega
 have FK := Lib.hid (fresh_mono f1 hlow (Nat.le_refl _))
 have DK : Hid (∀ x ∈ S, x ∉ [w.heap.size, w.heap.size + 1]) := (fun x hx => by have := (FK.out.2 x hx).1; simp; omega)
 have OK := Lib.hid ow
 clear ow f1 hlow
 clear q
 go_upto_region 2 with (fail)
 replace Lc : Loc (W1.alloc (.cells #[.int .i64 n, .slice B1 cs.length k1, .slice B2 pl.length k2, .slice B3 ds.length k3, .int .i64 m] 37)) (w.heap.size) [.int .i64 n, .slice A1 cs.length n1, .slice A2 pl.length n2, .slice A3 ds.length n3, .int .i64 m] := Lc.alloc _
 replace Lr : Loc (W1.alloc (.cells #[.int .i64 n, .slice B1 cs.length k1, .slice B2 pl.length k2, .slice B3 ds.length k3, .int .i64 m] 37)) (w.heap.size + 1) [.int .i64 0, .slice none 0 0, .slice none 0 0, .slice none 0 0, .int .i64 0] := Lr.alloc _
 obtain ⟨go, hgo⟩ : ∃ g, W1.heap.size = g := ⟨_, rfl⟩
 have Lo : Loc (W1.alloc (.cells #[.int .i64 n, .slice B1 cs.length k1, .slice B2 pl.length k2, .slice B3 ds.length k3, .int .i64 m] 37)) W1.heap.size [.int .i64 n, .slice B1 cs.length k1, .slice B2 pl.length k2, .slice B3 ds.length k3, .int .i64 m] := Loc.new W1 #[.int .i64 n, .slice B1 cs.length k1, .slice B2 pl.length k2, .slice B3 ds.length k3, .int .i64 m] 37
 rw [hgo] at Lo
 replace OK := Lib.hid (OK.out.below (w' := (W1.alloc (.cells #[.int .i64 n, .slice B1 cs.length k1, .slice B2 pl.length k2, .slice B3 ds.length k3, .int .i64 m] 37))) ((Below.refl _ _).alloc (Nat.le_refl _) _))
 replace DK : Hid (∀ x ∈ S, x ∉ [w.heap.size, w.heap.size + 1, go]) := (fun x hx => by have := DK.out x hx; have := (FK.out.2 x hx).2; simp at *; omega)
 replace FK := Lib.hid (fresh_mono (w' := (W1.alloc (.cells #[.int .i64 n, .slice B1 cs.length k1, .slice B2 pl.length k2, .slice B3 ds.length k3, .int .i64 m] 37))) FK.out (Nat.le_refl _) (by simp))
 replace hb : Below w.heap.size w (W1.alloc (.cells #[.int .i64 n, .slice B1 cs.length k1, .slice B2 pl.length k2, .slice B3 ds.length k3, .int .i64 m] 37)) := hb.alloc hb.size _
 have hlto : go < (W1.alloc (.cells #[.int .i64 n, .slice B1 cs.length k1, .slice B2 pl.length k2, .slice B3 ds.length k3, .int .i64 m] 37)).heap.size := by simp; omega
 have hne_c_o : w.heap.size < go := by omega
 have hne_r_o : w.heap.size + 1 < go := by omega
 generalize W1.alloc (.cells #[.int .i64 n, .slice B1 cs.length k1, .slice B2 pl.length k2, .slice B3 ds.length k3, .int .i64 m] 37) = W2 at *
 rw [hgo]
 clear hgo
 go_upto_region 3 with (fail)
 have halN : Below W2.heap.size W2 (W2.alloc (.cells #[] 3)) := (Below.refl _ _).alloc (Nat.le_refl _) _
 have hnm : (W2.alloc (.cells #[] 3)).ownsRow (w.heap.size + 1 + 1) 3 1 (.slice (some ⟨W2.heap.size, 0, none⟩) 0 0) 0 [] := World.ownsRow_made (size := 1) (e := 3) W2 #[] 0 (by omega) (by simp [maxLen]) rfl
 obtain ⟨gn, hgn⟩ : ∃ g, W2.heap.size = g := ⟨_, rfl⟩
 have hgnS : ∀ x ∈ S, x < gn := fun x hx => by have := (FK.out.2 x hx).2; omega
 have hgno : go < gn := by omega
 rw [hgn] at hnm
 have HSN := Lib.hid hgnS
 clear hgnS
 replace Lc := Lc.below halN
 replace Lr := Lr.below halN
 replace Lo := Lo.below halN
 have OK' := Lib.hid (OK.out.below halN)
 clear OK; have OK := OK'; clear OK'
 replace FK := Lib.hid (fresh_mono (w' := W2.alloc (.cells #[] 3)) FK.out (Nat.le_refl _) halN.size)
 replace hb : Below w.heap.size w (W2.alloc (.cells #[] 3)) := bl_trans hb halN
 have hltg : gn < (W2.alloc (.cells #[] 3)).heap.size := by simp; omega
 generalize W2.alloc (.cells #[] 3) = W3 at *
 (try rw [hgn])
 clear hgn halN
 have c0 := (Lc 0 _ rfl).1
 have c1 := (Lc 1 _ rfl).1
 have c2 := (Lc 2 _ rfl).1
 have c3 := (Lc 3 _ rfl).1
 have c4 := (Lc 4 _ rfl).1
 go_wp2_with fail
 refine twoB (specTheatreOk_any n m _ _ _ cs pl ds _ (h.below hb)) (fun W4 hq q => ?_) (fun W4 hq q => ?_)
 ·skip
  have qN := q
  clear c0 c1 c2 c3 c4
  have hzq : W3.heap.size ≤ W4.heap.size := by have := q.size; (try simp at this); omega
  replace Lc := Lc.below q
  replace Lr := Lr.below q
  replace Lo := Lo.below q
  replace OK := Lib.hid (OK.out.below q)
  replace FK := Lib.hid (fresh_mono (w' := W4) FK.out (Nat.le_refl _) hzq)
  replace hb : Below w.heap.size w W4 := hb.trans (q.mono hb.size)
  clear q
  replace hnm := own_below hnm qN
  clear qN
  by_cases hl40 : 40 < acts.length
  ·skip
   have hd40 : decide ((40 : Int) < (acts.length : Int)) = true := decide_eq_true (by omega)
   have o0 := (Lo 0 _ rfl).1
   have o1 := (Lo 1 _ rfl).1
   have o2 := (Lo 2 _ rfl).1
   have o3 := (Lo 3 _ rfl).1
   have o4 := (Lo 4 _ rfl).1
   have r0 := (Lr 0 _ rfl).1
   have rf0 := (Lr 0 _ rfl).2
   have r1 := (Lr 1 _ rfl).1
   have rf1 := (Lr 1 _ rfl).2
   have r2 := (Lr 2 _ rfl).1
   have rf2 := (Lr 2 _ rfl).2
   have r3 := (Lr 3 _ rfl).1
   have rf3 := (Lr 3 _ rfl).2
   have r4 := (Lr 4 _ rfl).1
   have rf4 := (Lr 4 _ rfl).2
   go_wp2_with fail
   have hchr : Chg [w.heap.size + 1] W4 ((((((W4).setCell ⟨w.heap.size + 1, 0, none⟩ (.int .i64 n)).setCell ⟨w.heap.size + 1, 1, none⟩ (.slice B1 cs.length k1)).setCell ⟨w.heap.size + 1, 2, none⟩ (.slice B2 pl.length k2)).setCell ⟨w.heap.size + 1, 3, none⟩ (.slice B3 ds.length k3)).setCell ⟨w.heap.size + 1, 4, none⟩ (.int .i64 m)) := by repeat' (with_reducible first | exact Chg.refl _ _ | refine qC ?_)
   refine bodyPost_ret (v := .tuple #[.agg #[.int .i64 n, .slice B1 cs.length k1, .slice B2 pl.length k2, .slice B3 ds.length k3, .int .i64 m], .slice (some ⟨gn, 0, none⟩) 0 0]) (by simp [results, Tryz.results19, go_sem, *]) rfl (run_eq (actsF_f (fun hh => by have := hh.2; omega)) ⟨_, _, _, S, _, [gn], rfl, OK.out.chg hchr (fun x hx hx' => DK.out x hx (by simp at hx'; subst hx'; simp)), fresh_mono FK.out (by omega) hchr.size, ⟨own_mono (own_chg hnm hchr (by simp [Value.ownBlock]; omega)) (Nat.zero_le _), rfl⟩, ⟨by simp, fun x hx => by simp at hx; subst hx; have := hchr.size; omega⟩, fun x hx => by have := HSN.out x hx; simp; omega, Below.chg hb hchr hb.size (fun x hx => by simp at hx; omega)⟩)
  ·skip
   have hd40 : decide ((40 : Int) < (acts.length : Int)) = false := decide_eq_false (by omega)
   have HQ := hq
   have hrb := ha.below hb
   have hst0 : RunSt w (w.heap.size + 1 + 1) go (w.heap.size + 1) ⟨n, m, cs, pl, ds⟩ [] (.slice B1 cs.length k1) (.slice B2 pl.length k2) (.slice B3 ds.length k3) (.slice (some ⟨gn, 0, none⟩) 0 0) W4 :=
    ⟨Lo, Lr, ⟨S, OK.out, FK.out, fun b hb' => ⟨fun e => DK.out b hb' (by subst e; simp), fun hm => by have := HSN.out b hb'; simp [Value.ownBlock] at hm; omega⟩⟩, hnm, by simp [Value.ownBlock]; omega, hb, ⟨by omega, by omega⟩, by omega, by omega⟩
   clear Lc Lr Lo OK FK DK hnm HSN
   go_wp2_with fail
   go_loopw [7, 8] (fun q i wr => ∃ (k : Nat) (t1 : Th) (ns : List Int) (Y1 : Option Addr) (y1 : Nat) (Y2 : Option Addr) (y2 : Nat) (Y3 : Option Addr) (y3 : Nat) (v : Value), k ≤ acts.length ∧ i = .int .i64 k ∧ Hid (runFrom ⟨n, m, cs, pl, ds⟩ (acts.take k) = (t1, ns)) ∧ RunSt w (w.heap.size + 1 + 1) go (w.heap.size + 1) t1 ns (.slice Y1 t1.cs.length y1) (.slice Y2 t1.pl.length y2) (.slice Y3 t1.ds.length y3) v wr ∧ q = v) (fun _ i _ => acts.length - (intOf i).toNat)
   case atStart => exact ⟨0, ⟨n, m, cs, pl, ds⟩, [], _, _, _, _, _, _, _, Nat.zero_le _, rfl, rfl, hst0, rfl⟩
   case round =>
    obtain ⟨k, t1, ns, Y1, y1, Y2, y2, Y3, y3, v, hk, rfl, hrf, hst, rfl⟩ := hrel
    clear hst0
    obtain ⟨Av, cv, rfl, _, _⟩ := (RdS.of_own hst.nums).form
    have HZ : Hid ((szTheatre t1.cs t1.pl t1.ds ≤ szTheatre cs pl ds ∨ szTheatre t1.cs t1.pl t1.ds ≤ 148) ∧ ns.length = k) := by have := run_sz ⟨n, m, cs, pl, ds⟩ acts k hk; rw [hrf.out] at this; exact this
    have hnk : ns.length = k := HZ.out.2
    have hns40 : ns.length ≤ 40 := by omega
    clear hnk
    by_cases hlt : k < acts.length
    ·skip
     obtain ⟨g, off, rfl, hg, hcell⟩ := (ha.below hst.below).cell cAct_len (by omega) hlt
     have a0 := hcell 0 _ rfl
     have a1 := hcell 1 _ rfl
     have a2 := hcell 2 _ rfl
     simp only [Nat.add_zero] at a0 a1 a2
     clear hcell
     have HSU := Lib.hid (runFrom_succ ⟨n, m, cs, pl, ds⟩ acts hlt)
     obtain ⟨⟨ka, aa, ba⟩, hact⟩ : ∃ a, acts[k] = a := ⟨_, rfl⟩
     rw [hact] at a0 a1 a2
     have HACT := Lib.hid hact
     clear hact
     obtain ⟨n1', m1', cs1, pl1, ds1⟩ := t1
     obtain ⟨⟨⟨rn, rm, rcs, rpl, rds⟩, rk⟩, hres⟩ : ∃ r, doF ⟨n1', m1', cs1, pl1, ds1⟩ (ka, aa, ba) = r := ⟨_, rfl⟩
     have hX : Hid (∀ W, RdTheatre W (.slice Y1 cs1.length y1) (.slice Y2 pl1.length y2) (.slice Y3 ds1.length y3) cs1 pl1 ds1 → Calls Tryz.prog 11 #[.agg #[.int .i64 n1', .slice Y1 cs1.length y1, .slice Y2 pl1.length y2, .slice Y3 ds1.length y3, .int .i64 m1'], .agg #[.int .i64 ka, .int .i64 aa, .int .i64 ba]] W (RetTN W.heap.size rn rm rk rcs rpl rds W)) := fun W hr => by
      have := specDoAct_any n1' m1' ka aa ba _ _ _ cs1 pl1 ds1 W hr (by have h1 := HZ.out.1; simp only at h1; omega)
      rw [hres] at this
      exact this
     have HN : Hid (runFrom ⟨n, m, cs, pl, ds⟩ (acts.take (k + 1)) = (⟨rn, rm, rcs, rpl, rds⟩, ns ++ [rk])) := by show _ = _; rw [HSU.out, hrf.out, HACT.out]; unfold runStep; rw [hres]
     clear hres
     go_upto_region 8 with (fail)
     refine region_pendL (n := 46) 10 8 (by kernel_rfl) rfl (by kernel_rfl) [] (by kernel_rfl) (fun _ => false) (fun w' => Below wr.heap.size wr w') (fun i => if i = 9 then 2 else 1) (prsp wr.heap.size n1' m1' ka aa ba rn rm rk Y1 Y2 Y3 y1 y2 y3 acts.length cc k g off cs1 rcs pl1 rpl ds1 rds) trivial (Below.refl _ _).drew ?_ ?_ ?_ ?_
     ·intro i v gh gh' w1 w2 hp hJ hb' hg
      match i, hp with
      | 0, hp => exact hp
      | 1, hp => exact hp
      | 2, hp => exact hp
      | 3, hp => exact hp
      | 4, hp => exact hp
      | 5, hp => exact (by obtain ⟨Z1, Z2, Z3, e1, e2, e3, h1, h2⟩ := hp; exact ⟨Z1, Z2, Z3, e1, e2, e3, h1, h2.keep (fun S h => h.below hb') hb' hg⟩)
      | 6, hp => exact (by obtain ⟨Z1, Z2, Z3, e1, e2, e3, h1, h2⟩ := hp; exact ⟨Z1, Z2, Z3, e1, e2, e3, h1, h2.keep (fun S h => h.below hb') hb' hg⟩)
      | 7, hp => exact (by obtain ⟨Z1, Z2, Z3, e1, e2, e3, h1, h2⟩ := hp; exact ⟨Z1, Z2, Z3, e1, e2, e3, h1, h2.keep (fun S h => h.below hb') hb' hg⟩)
      | 8, hp => exact hp
      | 9, hp => exact (by obtain ⟨xb, h1, h2, h3, h4, h5⟩ := hp; exact ⟨xb, h1, h2, h3.below hb', (hg _ h5).trans h4, Nat.lt_of_lt_of_le h5 hb'.size⟩)
      | _ + 10, _ => trivial
     ·refine ⟨?_, ?_, ?_, ?_, ?_, ?_, ?_, ?_, ?_, ?_, trivial⟩
      ·intro a gh w5 hag hJ hd
       dsimp only [bareO]
       have ag6 : a.tmps.getD 6 undef = .pointer (some ⟨go, 0, none⟩) := hag.kept 6 (by kernel_rfl)
       clear hag
       have o0 := ((hst.keep hJ).lo 0 _ rfl).1
       have o1 := ((hst.keep hJ).lo 1 _ rfl).1
       have o2 := ((hst.keep hJ).lo 2 _ rfl).1
       have o3 := ((hst.keep hJ).lo 3 _ rfl).1
       have o4 := ((hst.keep hJ).lo 4 _ rfl).1
       simp only at o0 o1 o2 o3 o4
       go_wp2_with fail
       exact ⟨rfl, _, rfl, rfl, hJ, Below.refl _ _⟩
      ·intro a gh w5 hag hJ hd
       dsimp only [bareO]
       have ag1 : a.tmps.getD 1 undef = .slice (some ⟨g, off, none⟩) acts.length cc := hag.kept 1 (by kernel_rfl)
       clear hag
       go_wp2_with fail
       exact ⟨rfl, _, rfl, rfl, hJ, Below.refl _ _⟩
      ·intro a gh w5 hag hJ hd
       dsimp only [bareO]
       have ag8 : a.tmps.getD 8 undef = .int .i64 k := hag.kept 8 (by kernel_rfl)
       clear hag
       go_wp2_with fail
       exact ⟨rfl, _, rfl, rfl, hJ, Below.refl _ _⟩
      ·intro a gh w5 hag hJ hd
       dsimp only [bareO]
       clear hag
       have e0 : a.tmps.getD 32 undef = .slice (some ⟨g, off, none⟩) acts.length cc := hd 1 (by kernel_rfl) _ rfl
       have e1 : a.tmps.getD 33 undef = .int .i64 k := hd 2 (by kernel_rfl) _ rfl
       go_wp2_with fail
       exact ⟨rfl, _, rfl, rfl, hJ, Below.refl _ _⟩
      ·intro a gh w5 hag hJ hd
       dsimp only [bareO]
       clear hag
       have e0 : a.tmps.getD 34 undef = .pointer (some ⟨g, off + k * 3, none⟩) := hd 3 (by kernel_rfl) _ rfl
       have k0 := carry hJ a0
       have k1 := carry hJ a1
       have k2 := carry hJ a2
       go_wp2_with fail
       exact ⟨rfl, _, rfl, rfl, hJ, Below.refl _ _⟩
      ·intro a gh w5 hag hJ hd
       dsimp only [bareO]
       clear hag
       have e0 : a.tmps.getD 31 undef = .agg #[.int .i64 n1', .slice Y1 cs1.length y1, .slice Y2 pl1.length y2, .slice Y3 ds1.length y3, .int .i64 m1'] := hd 0 (by kernel_rfl) _ rfl
       have e1 : a.tmps.getD 35 undef = .agg #[.int .i64 ka, .int .i64 aa, .int .i64 ba] := hd 4 (by kernel_rfl) _ rfl
       go_wp2_with fail
       refine (hX.out w5 (hst.keep hJ).rd).mono ?_
       rintro e w6 ⟨z1, z2, z3, T, rfl, owr, fr, hb6⟩
       obtain ⟨⟨Z1, e1, rfl⟩, ⟨Z2, e2, rfl⟩, ⟨Z3, e3, rfl⟩⟩ := owr.rd.forms
       go_wp2_with fail
       exact ⟨rfl, _, rfl, ⟨_, _, _, _, _, _, rfl, OwG.of_fresh owr fr hJ.size⟩, bl_trans hJ hb6, hb6⟩
      ·intro a gh w5 hag hJ hd
       dsimp only [bareO]
       clear hag
       obtain ⟨Z1, Z2, Z3, e1, e2, e3, e0, h2⟩ : ∃ (Z1 Z2 Z3 : Option Addr) (e1 e2 e3 : Nat), a.tmps.getD 36 undef = .tuple #[.agg #[.int .i64 rn, .slice Z1 rcs.length e1, .slice Z2 rpl.length e2, .slice Z3 rds.length e3, .int .i64 rm], .int .i64 rk] ∧ OwG wr.heap.size (fun w S => OwTheatre w S (.slice Z1 rcs.length e1) (.slice Z2 rpl.length e2) (.slice Z3 rds.length e3) rcs rpl rds) 1 gh w5 := hd 5 (by kernel_rfl) _ rfl
       go_wp2_with fail
       exact ⟨rfl, _, rfl, ⟨Z1, Z2, Z3, e1, e2, e3, rfl, h2.same _⟩, hJ, Below.refl _ _⟩
      ·intro a gh w5 hag hJ hd
       dsimp only [bareO]
       clear hag
       obtain ⟨Z1, Z2, Z3, e1, e2, e3, e0, h2⟩ : ∃ (Z1 Z2 Z3 : Option Addr) (e1 e2 e3 : Nat), a.tmps.getD 30 undef = .tuple #[.agg #[.int .i64 rn, .slice Z1 rcs.length e1, .slice Z2 rpl.length e2, .slice Z3 rds.length e3, .int .i64 rm], .int .i64 rk] ∧ OwG wr.heap.size (fun w S => OwTheatre w S (.slice Z1 rcs.length e1) (.slice Z2 rpl.length e2) (.slice Z3 rds.length e3) rcs rpl rds) 1 gh w5 := hd 6 (by kernel_rfl) _ rfl
       go_wp2_with fail
       exact ⟨rfl, _, rfl, ⟨Z1, Z2, Z3, e1, e2, e3, rfl, h2.same _⟩, hJ, Below.refl _ _⟩
      ·intro a gh w5 hag hJ hd
       dsimp only [bareO]
       clear hag
       obtain ⟨Z1, Z2, Z3, e1, e2, e3, e0, h2⟩ : ∃ (Z1 Z2 Z3 : Option Addr) (e1 e2 e3 : Nat), a.tmps.getD 30 undef = .tuple #[.agg #[.int .i64 rn, .slice Z1 rcs.length e1, .slice Z2 rpl.length e2, .slice Z3 rds.length e3, .int .i64 rm], .int .i64 rk] ∧ OwG wr.heap.size (fun w S => OwTheatre w S (.slice Z1 rcs.length e1) (.slice Z2 rpl.length e2) (.slice Z3 rds.length e3) rcs rpl rds) 1 gh w5 := hd 6 (by kernel_rfl) _ rfl
       go_wp2_with fail
       exact ⟨rfl, _, rfl, rfl, hJ, Below.refl _ _⟩
      ·intro a gh w5 hag hJ hd
       dsimp only [bareO]
       clear hag
       go_wp2_with fail
       exact ⟨rfl, _, rfl, ⟨w5.heap.size, rfl, hJ.size, Loc.new w5 #[.int .i64 0, .slice none 0 0, .slice none 0 0, .slice none 0 0, .int .i64 0] 37, if_neg (Nat.lt_irrefl _), by simp⟩, hJ.alloc hJ.size _, (Below.refl _ _).alloc (Nat.le_refl _) _⟩
     ·intro a gh w5 hag hJ hd
      have ag0 := hag.kept 0 (by kernel_rfl)
      have ag1 : a.tmps.getD 1 undef = .slice (some ⟨g, off, none⟩) acts.length cc := hag.kept 1 (by kernel_rfl)
      have ag2 := hag.kept 2 (by kernel_rfl)
      have ag3 := hag.kept 3 (by kernel_rfl)
      have ag4 := hag.kept 4 (by kernel_rfl)
      have ag5 := hag.kept 5 (by kernel_rfl)
      have ag6 : a.tmps.getD 6 undef = .pointer (some ⟨go, 0, none⟩) := hag.kept 6 (by kernel_rfl)
      have ag7 : a.tmps.getD 7 undef = .slice Av ns.length cv := hag.kept 7 (by kernel_rfl)
      have ag8 : a.tmps.getD 8 undef = .int .i64 k := hag.kept 8 (by kernel_rfl)
      have ag10 := hag.kept 10 (by kernel_rfl)
      have ag11 := hag.kept 11 (by kernel_rfl)
      have ag12 := hag.kept 12 (by kernel_rfl)
      have ag13 := hag.kept 13 (by kernel_rfl)
      have ag14 := hag.kept 14 (by kernel_rfl)
      have ag15 := hag.kept 15 (by kernel_rfl)
      have ag16 := hag.kept 16 (by kernel_rfl)
      have ag17 := hag.kept 17 (by kernel_rfl)
      have ag18 := hag.kept 18 (by kernel_rfl)
      have ag19 := hag.kept 19 (by kernel_rfl)
      have ag20 := hag.kept 20 (by kernel_rfl)
      have ag21 := hag.kept 21 (by kernel_rfl)
      have ag22 := hag.kept 22 (by kernel_rfl)
      have ag23 := hag.kept 23 (by kernel_rfl)
      have ag24 := hag.kept 24 (by kernel_rfl)
      have ag25 := hag.kept 25 (by kernel_rfl)
      have ag26 := hag.kept 26 (by kernel_rfl)
      have ag27 := hag.kept 27 (by kernel_rfl)
      have ag28 := hag.kept 28 (by kernel_rfl)
      have ag29 := hag.kept 29 (by kernel_rfl)
      have ag39 := hag.kept 39 (by kernel_rfl)
      have ag40 := hag.kept 40 (by kernel_rfl)
      have ag41 := hag.kept 41 (by kernel_rfl)
      have ag42 := hag.kept 42 (by kernel_rfl)
      have ag43 := hag.kept 43 (by kernel_rfl)
      have ag44 := hag.kept 44 (by kernel_rfl)
      have ag45 := hag.kept 45 (by kernel_rfl)
      rw [act46rsp hag.size hag.defers]
      clear hag
      obtain ⟨Z1, Z2, Z3, e1, e2, e3, e0, h2⟩ : ∃ (Z1 Z2 Z3 : Option Addr) (e1 e2 e3 : Nat), a.tmps.getD 37 undef = .agg #[.int .i64 rn, .slice Z1 rcs.length e1, .slice Z2 rpl.length e2, .slice Z3 rds.length e3, .int .i64 rm] ∧ OwG wr.heap.size (fun w S => OwTheatre w S (.slice Z1 rcs.length e1) (.slice Z2 rpl.length e2) (.slice Z3 rds.length e3) rcs rpl rds) 1 gh w5 := hd 7 (by kernel_rfl) _ rfl
      obtain ⟨xb, e8, hxb, Lx, hgx, hxlt⟩ : ∃ xb, a.tmps.getD 9 undef = .pointer (some ⟨xb, 0, none⟩) ∧ wr.heap.size ≤ xb ∧ Loc w5 xb [.int .i64 0, .slice none 0 0, .slice none 0 0, .slice none 0 0, .int .i64 0] ∧ gh xb = 2 ∧ xb < w5.heap.size := hd 9 (by kernel_rfl) _ rfl
      have e9 : a.tmps.getD 38 undef = .int .i64 rk := hd 8 (by kernel_rfl) _ rfl
      rw [ag0, ag1, ag2, ag3, ag4, ag5, ag6, ag7, ag8, ag10, ag11, ag12, ag13, ag14, ag15, ag16, ag17, ag18, ag19, ag20, ag21, ag22, ag23, ag24, ag25, ag26, ag27, ag28, ag29, ag39, ag40, ag41, ag42, ag43, ag44, ag45, e0, e8, e9]
      change wpList _ _ _ [_, _] _ _
      obtain ⟨T, owr, hnd9, hcl9⟩ := h2
      have HX : Hid (∀ b ∈ T, b ∉ [xb]) := fun b hb hb' => by have h1 := (hcl9 b hb).2; simp at hb'; subst hb'; omega
      have fr : Fresh wr.heap.size w5 T := ⟨hnd9, fun b hb => (hcl9 b hb).1⟩
      have OW := Lib.hid owr
      have FR := Lib.hid fr
      have x0 := (Lx 0 _ rfl).1
      have x1 := (Lx 1 _ rfl).1
      have x2 := (Lx 2 _ rfl).1
      have x3 := (Lx 3 _ rfl).1
      have x4 := (Lx 4 _ rfl).1
      have xf0 := (Lx 0 _ rfl).2
      have xf1 := (Lx 1 _ rfl).2
      have xf2 := (Lx 2 _ rfl).2
      have xf3 := (Lx 3 _ rfl).2
      have xf4 := (Lx 4 _ rfl).2
      clear hd hcl9 owr fr hgx hnd9 a0 a1 a2
      go_upto_region 9 with (fail)
      have hchb : Chg [xb] w5 (((((w5.setCell ⟨xb, 0, none⟩ (.int .i64 rn)).setCell ⟨xb, 1, none⟩ (.slice Z1 rcs.length e1)).setCell ⟨xb, 2, none⟩ (.slice Z2 rpl.length e2)).setCell ⟨xb, 3, none⟩ (.slice Z3 rds.length e3)).setCell ⟨xb, 4, none⟩ (.int .i64 rm)) := by repeat' (with_reducible first | exact Chg.refl _ _ | refine qC ?_)
      have Lb := (((((Lx.set (i := 0) (u := .int .i64 rn) (v := .int .i64 0) rfl).set (i := 1) (u := .slice Z1 rcs.length e1) (v := .slice none 0 0) rfl).set (i := 2) (u := .slice Z2 rpl.length e2) (v := .slice none 0 0) rfl).set (i := 3) (u := .slice Z3 rds.length e3) (v := .slice none 0 0) rfl).set (i := 4) (u := .int .i64 rm) (v := .int .i64 0) rfl)
      have q2 : Below wr.heap.size wr (((((w5.setCell ⟨xb, 0, none⟩ (.int .i64 rn)).setCell ⟨xb, 1, none⟩ (.slice Z1 rcs.length e1)).setCell ⟨xb, 2, none⟩ (.slice Z2 rpl.length e2)).setCell ⟨xb, 3, none⟩ (.slice Z3 rds.length e3)).setCell ⟨xb, 4, none⟩ (.int .i64 rm)) := Below.chg hJ hchb hJ.size (by simp; omega)
      have owr2 := OW.out.chg hchb HX.out
      have fr2 := fresh_mono FR.out (Nat.le_refl _) hchb.size
      clear x0 x1 x2 x3 x4 xf0 xf1 xf2 xf3 xf4 Lx OW FR HX hchb
      generalize ((((w5.setCell ⟨xb, 0, none⟩ (.int .i64 rn)).setCell ⟨xb, 1, none⟩ (.slice Z1 rcs.length e1)).setCell ⟨xb, 2, none⟩ (.slice Z2 rpl.length e2)).setCell ⟨xb, 3, none⟩ (.slice Z3 rds.length e3)).setCell ⟨xb, 4, none⟩ (.int .i64 rm) = wb at *
      have lo2 := hst.lo.below q2
      have o0 := (lo2 0 _ rfl).1
      have o1 := (lo2 1 _ rfl).1
      have o2 := (lo2 2 _ rfl).1
      have o3 := (lo2 3 _ rfl).1
      have o4 := (lo2 4 _ rfl).1
      have f0 := (lo2 0 _ rfl).2
      have f1 := (lo2 1 _ rfl).2
      have f2 := (lo2 2 _ rfl).2
      have f3 := (lo2 3 _ rfl).2
      have f4 := (lo2 4 _ rfl).2
      have b0 := (Lb 0 _ rfl).1
      have b1 := (Lb 1 _ rfl).1
      have b2 := (Lb 2 _ rfl).1
      have b3 := (Lb 3 _ rfl).1
      have b4 := (Lb 4 _ rfl).1
      simp only at o0 o1 o2 o3 o4
      have HST9 := Lib.hid (hst.next (t' := ⟨rn, rm, rcs, rpl, rds⟩) q2 owr2 fr2)
      clear owr2 fr2
      go_upto_region 10 with (fail)
      have hst9 := HST9.out
      simp only at hst9
      clear lo2 o0 o1 o2 o3 o4 f0 f1 f2 f3 f4 b0 b1 b2 b3 b4 HST9 hst Lb q2
      generalize ((((wb.setCell ⟨go, 0, none⟩ (.int .i64 rn)).setCell ⟨go, 1, none⟩ (.slice Z1 rcs.length e1)).setCell ⟨go, 2, none⟩ (.slice Z2 rpl.length e2)).setCell ⟨go, 3, none⟩ (.slice Z3 rds.length e3)).setCell ⟨go, 4, none⟩ (.int .i64 rm) = w9 at *
      have hn9 := hst9.nums
      have hz9 := hst9.below.size
      go_wp2_with (at_builtin; go_must (refine wpList_appendB _ rfl (.tmp 40) (.tmp 42) _ rfl (w.heap.size + 1 + 1) 3 i0 _ 1 8 Tryz.underlying26 hi0 hz0' hz1' hz2' rfl (by omega) _ ns.length (ns.flatMap cInt) rfl (hn9.alloc _) _ 1 [.int .i64 rk] rfl (rdS_new w9 #[.int .i64 rk] _ 1 1 rfl (by simp [maxLen])) (by simp [Value.oneCell']) (by simp [maxLen]; omega) (by omega) (by have := hst9.base; simp; omega) ?_); intro v3 w3 own3 gr3 at3; obtain ⟨A3, c3, rfl, _, _⟩ := (RdS.of_own own3).form)
      have hstN := (hst9.keep ((Below.refl _ _).alloc (Nat.le_refl _) (.cells #[.int .i64 rk] 3))).app (k := rk) own3 gr3 at3
      go_wp2_with fail
      go_roundw
      case rel => exact ⟨k + 1, ⟨rn, rm, rcs, rpl, rds⟩, ns ++ [rk], _, _, _, _, _, _, _, by omega, by go_num, HN.out, hstN, rfl⟩
      case measure => simp [intOf]; omega
     ·intro a gh w5 hag hJ hd
      have ag0 := hag.kept 0 (by kernel_rfl)
      have ag1 : a.tmps.getD 1 undef = .slice (some ⟨g, off, none⟩) acts.length cc := hag.kept 1 (by kernel_rfl)
      have ag2 := hag.kept 2 (by kernel_rfl)
      have ag3 := hag.kept 3 (by kernel_rfl)
      have ag4 := hag.kept 4 (by kernel_rfl)
      have ag5 := hag.kept 5 (by kernel_rfl)
      have ag6 : a.tmps.getD 6 undef = .pointer (some ⟨go, 0, none⟩) := hag.kept 6 (by kernel_rfl)
      have ag7 : a.tmps.getD 7 undef = .slice Av ns.length cv := hag.kept 7 (by kernel_rfl)
      have ag8 : a.tmps.getD 8 undef = .int .i64 k := hag.kept 8 (by kernel_rfl)
      have ag10 := hag.kept 10 (by kernel_rfl)
      have ag11 := hag.kept 11 (by kernel_rfl)
      have ag12 := hag.kept 12 (by kernel_rfl)
      have ag13 := hag.kept 13 (by kernel_rfl)
      have ag14 := hag.kept 14 (by kernel_rfl)
      have ag15 := hag.kept 15 (by kernel_rfl)
      have ag16 := hag.kept 16 (by kernel_rfl)
      have ag17 := hag.kept 17 (by kernel_rfl)
      have ag18 := hag.kept 18 (by kernel_rfl)
      have ag19 := hag.kept 19 (by kernel_rfl)
      have ag20 := hag.kept 20 (by kernel_rfl)
      have ag21 := hag.kept 21 (by kernel_rfl)
      have ag22 := hag.kept 22 (by kernel_rfl)
      have ag23 := hag.kept 23 (by kernel_rfl)
      have ag24 := hag.kept 24 (by kernel_rfl)
      have ag25 := hag.kept 25 (by kernel_rfl)
      have ag26 := hag.kept 26 (by kernel_rfl)
      have ag27 := hag.kept 27 (by kernel_rfl)
      have ag28 := hag.kept 28 (by kernel_rfl)
      have ag29 := hag.kept 29 (by kernel_rfl)
      have ag39 := hag.kept 39 (by kernel_rfl)
      have ag40 := hag.kept 40 (by kernel_rfl)
      have ag41 := hag.kept 41 (by kernel_rfl)
      have ag42 := hag.kept 42 (by kernel_rfl)
      have ag43 := hag.kept 43 (by kernel_rfl)
      have ag44 := hag.kept 44 (by kernel_rfl)
      have ag45 := hag.kept 45 (by kernel_rfl)
      rw [act46rsp hag.size hag.defers]
      clear hag
      obtain ⟨Z1, Z2, Z3, e1, e2, e3, e0, h2⟩ : ∃ (Z1 Z2 Z3 : Option Addr) (e1 e2 e3 : Nat), a.tmps.getD 37 undef = .agg #[.int .i64 rn, .slice Z1 rcs.length e1, .slice Z2 rpl.length e2, .slice Z3 rds.length e3, .int .i64 rm] ∧ OwG wr.heap.size (fun w S => OwTheatre w S (.slice Z1 rcs.length e1) (.slice Z2 rpl.length e2) (.slice Z3 rds.length e3) rcs rpl rds) 1 gh w5 := hd 7 (by kernel_rfl) (by decide) _ rfl
      obtain ⟨xb, e8, hxb, Lx, hgx, hxlt⟩ : ∃ xb, a.tmps.getD 9 undef = .pointer (some ⟨xb, 0, none⟩) ∧ wr.heap.size ≤ xb ∧ Loc w5 xb [.int .i64 0, .slice none 0 0, .slice none 0 0, .slice none 0 0, .int .i64 0] ∧ gh xb = 2 ∧ xb < w5.heap.size := hd 9 (by kernel_rfl) (by decide) _ rfl
      obtain ⟨Z1', Z2', Z3', e1', e2', e3', e9, _⟩ : ∃ (Z1' Z2' Z3' : Option Addr) (e1' e2' e3' : Nat), a.tmps.getD 30 undef = .tuple #[.agg #[.int .i64 rn, .slice Z1' rcs.length e1', .slice Z2' rpl.length e2', .slice Z3' rds.length e3', .int .i64 rm], .int .i64 rk] ∧ OwG wr.heap.size (fun w S => OwTheatre w S (.slice Z1' rcs.length e1') (.slice Z2' rpl.length e2') (.slice Z3' rds.length e3') rcs rpl rds) 1 gh w5 := hd 6 (by kernel_rfl) (by decide) _ rfl
      rw [ag0, ag1, ag2, ag3, ag4, ag5, ag6, ag7, ag8, ag10, ag11, ag12, ag13, ag14, ag15, ag16, ag17, ag18, ag19, ag20, ag21, ag22, ag23, ag24, ag25, ag26, ag27, ag28, ag29, ag39, ag40, ag41, ag42, ag43, ag44, ag45, e0, e8, e9]
      change wpList _ _ _ [_, _, _] _ _
      obtain ⟨T, owr, hnd9, hcl9⟩ := h2
      have HX : Hid (∀ b ∈ T, b ∉ [xb]) := fun b hb hb' => by have h1 := (hcl9 b hb).2; simp at hb'; subst hb'; omega
      have fr : Fresh wr.heap.size w5 T := ⟨hnd9, fun b hb => (hcl9 b hb).1⟩
      have OW := Lib.hid owr
      have FR := Lib.hid fr
      have x0 := (Lx 0 _ rfl).1
      have x1 := (Lx 1 _ rfl).1
      have x2 := (Lx 2 _ rfl).1
      have x3 := (Lx 3 _ rfl).1
      have x4 := (Lx 4 _ rfl).1
      have xf0 := (Lx 0 _ rfl).2
      have xf1 := (Lx 1 _ rfl).2
      have xf2 := (Lx 2 _ rfl).2
      have xf3 := (Lx 3 _ rfl).2
      have xf4 := (Lx 4 _ rfl).2
      clear hd hcl9 owr fr hgx hnd9 a0 a1 a2
      go_upto_region 9 with (fail)
      have hchb : Chg [xb] w5 (((((w5.setCell ⟨xb, 0, none⟩ (.int .i64 rn)).setCell ⟨xb, 1, none⟩ (.slice Z1 rcs.length e1)).setCell ⟨xb, 2, none⟩ (.slice Z2 rpl.length e2)).setCell ⟨xb, 3, none⟩ (.slice Z3 rds.length e3)).setCell ⟨xb, 4, none⟩ (.int .i64 rm)) := by repeat' (with_reducible first | exact Chg.refl _ _ | refine qC ?_)
      have Lb := (((((Lx.set (i := 0) (u := .int .i64 rn) (v := .int .i64 0) rfl).set (i := 1) (u := .slice Z1 rcs.length e1) (v := .slice none 0 0) rfl).set (i := 2) (u := .slice Z2 rpl.length e2) (v := .slice none 0 0) rfl).set (i := 3) (u := .slice Z3 rds.length e3) (v := .slice none 0 0) rfl).set (i := 4) (u := .int .i64 rm) (v := .int .i64 0) rfl)
      have q2 : Below wr.heap.size wr (((((w5.setCell ⟨xb, 0, none⟩ (.int .i64 rn)).setCell ⟨xb, 1, none⟩ (.slice Z1 rcs.length e1)).setCell ⟨xb, 2, none⟩ (.slice Z2 rpl.length e2)).setCell ⟨xb, 3, none⟩ (.slice Z3 rds.length e3)).setCell ⟨xb, 4, none⟩ (.int .i64 rm)) := Below.chg hJ hchb hJ.size (by simp; omega)
      have owr2 := OW.out.chg hchb HX.out
      have fr2 := fresh_mono FR.out (Nat.le_refl _) hchb.size
      clear x0 x1 x2 x3 x4 xf0 xf1 xf2 xf3 xf4 Lx OW FR HX hchb
      generalize ((((w5.setCell ⟨xb, 0, none⟩ (.int .i64 rn)).setCell ⟨xb, 1, none⟩ (.slice Z1 rcs.length e1)).setCell ⟨xb, 2, none⟩ (.slice Z2 rpl.length e2)).setCell ⟨xb, 3, none⟩ (.slice Z3 rds.length e3)).setCell ⟨xb, 4, none⟩ (.int .i64 rm) = wb at *
      have lo2 := hst.lo.below q2
      have o0 := (lo2 0 _ rfl).1
      have o1 := (lo2 1 _ rfl).1
      have o2 := (lo2 2 _ rfl).1
      have o3 := (lo2 3 _ rfl).1
      have o4 := (lo2 4 _ rfl).1
      have f0 := (lo2 0 _ rfl).2
      have f1 := (lo2 1 _ rfl).2
      have f2 := (lo2 2 _ rfl).2
      have f3 := (lo2 3 _ rfl).2
      have f4 := (lo2 4 _ rfl).2
      have b0 := (Lb 0 _ rfl).1
      have b1 := (Lb 1 _ rfl).1
      have b2 := (Lb 2 _ rfl).1
      have b3 := (Lb 3 _ rfl).1
      have b4 := (Lb 4 _ rfl).1
      simp only at o0 o1 o2 o3 o4
      have HST9 := Lib.hid (hst.next (t' := ⟨rn, rm, rcs, rpl, rds⟩) q2 owr2 fr2)
      clear owr2 fr2
      go_upto_region 10 with (fail)
      have hst9 := HST9.out
      simp only at hst9
      clear lo2 o0 o1 o2 o3 o4 f0 f1 f2 f3 f4 b0 b1 b2 b3 b4 HST9 hst Lb q2
      generalize ((((wb.setCell ⟨go, 0, none⟩ (.int .i64 rn)).setCell ⟨go, 1, none⟩ (.slice Z1 rcs.length e1)).setCell ⟨go, 2, none⟩ (.slice Z2 rpl.length e2)).setCell ⟨go, 3, none⟩ (.slice Z3 rds.length e3)).setCell ⟨go, 4, none⟩ (.int .i64 rm) = w9 at *
      have hn9 := hst9.nums
      have hz9 := hst9.below.size
      go_wp2_with (at_builtin; go_must (refine wpList_appendB _ rfl (.tmp 40) (.tmp 42) _ rfl (w.heap.size + 1 + 1) 3 i0 _ 1 8 Tryz.underlying26 hi0 hz0' hz1' hz2' rfl (by omega) _ ns.length (ns.flatMap cInt) rfl (hn9.alloc _) _ 1 [.int .i64 rk] rfl (rdS_new w9 #[.int .i64 rk] _ 1 1 rfl (by simp [maxLen])) (by simp [Value.oneCell']) (by simp [maxLen]; omega) (by omega) (by have := hst9.base; simp; omega) ?_); intro v3 w3 own3 gr3 at3; obtain ⟨A3, c3, rfl, _, _⟩ := (RdS.of_own own3).form)
      have hstN := (hst9.keep ((Below.refl _ _).alloc (Nat.le_refl _) (.cells #[.int .i64 rk] 3))).app (k := rk) own3 gr3 at3
      go_wp2_with fail
      go_roundw
      case rel => exact ⟨k + 1, ⟨rn, rm, rcs, rpl, rds⟩, ns ++ [rk], _, _, _, _, _, _, _, by omega, by go_num, HN.out, hstN, rfl⟩
      case measure => simp [intOf]; omega
    ·skip
     obtain rfl : k = acts.length := by omega
     have HF : Hid (actsF ⟨n, m, cs, pl, ds⟩ acts = (t1, ns)) := by show _ = _; rw [actsF_t (t := ⟨n, m, cs, pl, ds⟩) HQ.out (by omega), ← hrf.out, List.take_length]
     obtain ⟨n1', m1', cs1, pl1, ds1⟩ := t1
     have o0 := (hst.lo 0 _ rfl).1
     have o1 := (hst.lo 1 _ rfl).1
     have o2 := (hst.lo 2 _ rfl).1
     have o3 := (hst.lo 3 _ rfl).1
     have o4 := (hst.lo 4 _ rfl).1
     have r0 := (hst.lr 0 _ rfl).1
     have r1 := (hst.lr 1 _ rfl).1
     have r2 := (hst.lr 2 _ rfl).1
     have r3 := (hst.lr 3 _ rfl).1
     have r4 := (hst.lr 4 _ rfl).1
     have rf0 := (hst.lr 0 _ rfl).2
     have rf1 := (hst.lr 1 _ rfl).2
     have rf2 := (hst.lr 2 _ rfl).2
     have rf3 := (hst.lr 3 _ rfl).2
     have rf4 := (hst.lr 4 _ rfl).2
     have hbs := hst.base
     obtain ⟨S9, ow9, fr9, dj9⟩ := hst.own
     have hnums := hst.nums
     have hbel := hst.below
     have OW := Lib.hid ow9
     have FR := Lib.hid fr9
     have DJ := Lib.hid dj9
     have HNU := Lib.hid hnums
     have hnv : ∀ b ∈ (Value.slice Av ns.length cv).ownBlock.toList, w.heap.size + 1 + 1 ≤ b ∧ b < wr.heap.size := fun b hb => hnums.lt b (by simpa using hb)
     have HNV := Lib.hid hnv
     clear ow9 fr9 dj9 hnums hnv hst HZ hrf
     simp only at o0 o1 o2 o3 o4
     go_wp2_with fail
     have hch : Chg [w.heap.size + 1] wr (((((wr.setCell ⟨w.heap.size + 1, 0, none⟩ (.int .i64 n1')).setCell ⟨w.heap.size + 1, 1, none⟩ (.slice Y1 cs1.length y1)).setCell ⟨w.heap.size + 1, 2, none⟩ (.slice Y2 pl1.length y2)).setCell ⟨w.heap.size + 1, 3, none⟩ (.slice Y3 ds1.length y3)).setCell ⟨w.heap.size + 1, 4, none⟩ (.int .i64 m1')) := by repeat' (with_reducible first | exact Chg.refl _ _ | refine qC ?_)
     refine bodyPost_ret (v := .tuple #[.agg #[.int .i64 n1', .slice Y1 cs1.length y1, .slice Y2 pl1.length y2, .slice Y3 ds1.length y3, .int .i64 m1'], .slice Av ns.length cv]) (by simp [results, Tryz.results19, go_sem, *]) rfl (run_eq HF.out ⟨_, _, _, S9, _, _, rfl, OW.out.chg hch (fun b hb hb' => by have := (FR.out.2 b hb).1; simp at hb'; omega), fresh_mono FR.out (by omega) hch.size, ⟨own_mono (own_chg HNU.out hch (fun b hb hb' => by have := HNV.out b hb; simp at hb'; omega)) (Nat.zero_le _), rfl⟩, ⟨by cases Av <;> simp [Value.ownBlock], fun b hb => by have := HNV.out b hb; have := hch.size; omega⟩, fun b hb => (DJ.out b hb).2, Below.chg hbel hch hbel.size (by simp)⟩)
 ·skip
  have qN := q
  clear c0 c1 c2 c3 c4
  have hzq : W3.heap.size ≤ W4.heap.size := by have := q.size; (try simp at this); omega
  replace Lc := Lc.below q
  replace Lr := Lr.below q
  replace Lo := Lo.below q
  replace OK := Lib.hid (OK.out.below q)
  replace FK := Lib.hid (fresh_mono (w' := W4) FK.out (Nat.le_refl _) hzq)
  replace hb : Below w.heap.size w W4 := hb.trans (q.mono hb.size)
  clear q
  replace hnm := own_below hnm qN
  clear qN
  have o0 := (Lo 0 _ rfl).1
  have o1 := (Lo 1 _ rfl).1
  have o2 := (Lo 2 _ rfl).1
  have o3 := (Lo 3 _ rfl).1
  have o4 := (Lo 4 _ rfl).1
  have r0 := (Lr 0 _ rfl).1
  have rf0 := (Lr 0 _ rfl).2
  have r1 := (Lr 1 _ rfl).1
  have rf1 := (Lr 1 _ rfl).2
  have r2 := (Lr 2 _ rfl).1
  have rf2 := (Lr 2 _ rfl).2
  have r3 := (Lr 3 _ rfl).1
  have rf3 := (Lr 3 _ rfl).2
  have r4 := (Lr 4 _ rfl).1
  have rf4 := (Lr 4 _ rfl).2
  go_wp2_with fail
  have hchr : Chg [w.heap.size + 1] W4 ((((((W4).setCell ⟨w.heap.size + 1, 0, none⟩ (.int .i64 n)).setCell ⟨w.heap.size + 1, 1, none⟩ (.slice B1 cs.length k1)).setCell ⟨w.heap.size + 1, 2, none⟩ (.slice B2 pl.length k2)).setCell ⟨w.heap.size + 1, 3, none⟩ (.slice B3 ds.length k3)).setCell ⟨w.heap.size + 1, 4, none⟩ (.int .i64 m)) := by repeat' (with_reducible first | exact Chg.refl _ _ | refine qC ?_)
  refine bodyPost_ret (v := .tuple #[.agg #[.int .i64 n, .slice B1 cs.length k1, .slice B2 pl.length k2, .slice B3 ds.length k3, .int .i64 m], .slice (some ⟨gn, 0, none⟩) 0 0]) (by simp [results, Tryz.results19, go_sem, *]) rfl (run_eq (actsF_f (fun hh => absurd (show theatreB n m cs pl ds = true from hh.1) (by rw [hq.out]; simp))) ⟨_, _, _, S, _, [gn], rfl, OK.out.chg hchr (fun x hx hx' => DK.out x hx (by simp at hx'; subst hx'; simp)), fresh_mono FK.out (by omega) hchr.size, ⟨own_mono (own_chg hnm hchr (by simp [Value.ownBlock]; omega)) (Nat.zero_le _), rfl⟩, ⟨by simp, fun x hx => by simp at hx; subst hx; have := hchr.size; omega⟩, fun x hx => by have := HSN.out x hx; simp; omega, Below.chg hb hchr hb.size (fun x hx => by simp at hx; omega)⟩)
theorem run2 (n m : Int) (acts : List RAct) (cs : List RCross) (pl : List RPl) (ds : List Int) : ∃ n' m' cs' pl' ds' ns', (szTheatre cs' pl' ds' ≤ szTheatre cs pl ds ∨ szTheatre cs' pl' ds' ≤ 148) ∧ ns'.length ≤ 40 ∧
  (∀ W v1 v2 v3 va, RdTheatre W v1 v2 v3 cs pl ds → RdL cAct 3 W va acts → szTheatre cs pl ds ≤ 1048576 → Calls Tryz.prog 19 #[.agg #[.int .i64 n, v1, v2, v3, .int .i64 m], va] W (RetTI W.heap.size n' m' cs' pl' ds' ns' W)) ∧
  (∀ W v1 v2 v3 va, RdTheatre W v1 v2 v3 cs pl ds → RdL cAct 3 W va acts → szTheatre cs pl ds ≤ 1048576 → Calls Tryz.prog 21 #[.agg #[.int .i64 n, v1, v2, v3, .int .i64 m], va] W (RetTI W.heap.size n' m' cs' pl' ds' ns' W)) :=
 ⟨_, _, _, _, _, _, (actsF_sz ⟨n, m, cs, pl, ds⟩ acts).1, (actsF_sz ⟨n, m, cs, pl, ds⟩ acts).2, fun W v1 v2 v3 va hr ha hs => specRunActs_any n m v1 v2 v3 va cs pl ds acts W hr ha hs, fun W v1 v2 v3 va hr ha hs => implRunActs_any n m v1 v2 v3 va cs pl ds acts W hr ha hs⟩
end Go.Proofs.YtlhdeojkpmpecaaGreat
