/- Contracts: RunActs of the program. Written by a program (gen_k23.py). -/
import Derived.Test.YtlhdeojkpmpecaaGreatBdK17x5
import Derived.Test.YtlhdeojkpmpecaaGreatBdY7x8
namespace Go.Proofs.YtlhdeojkpmpecaaGreat
open Go.RowKit
def runStep (st : Th × List Int) (a : RAct) : Th × List Int := ((doF st.1 a).1, st.2 ++ [(doF st.1 a).2])
def runFrom (t : Th) (acts : List RAct) : Th × List Int := acts.foldl runStep (t, [])
def actsF (t : Th) (acts : List RAct) : Th × List Int := if t.ok = true ∧ acts.length ≤ 40 then runFrom t acts else (t, [])
theorem actsF_t {t : Th} {acts : List RAct} (h1 : t.ok = true) (h2 : acts.length ≤ 40) : actsF t acts = runFrom t acts := if_pos ⟨h1, h2⟩
theorem actsF_f {t : Th} {acts : List RAct} (h : ¬ (t.ok = true ∧ acts.length ≤ 40)) : actsF t acts = (t, []) := if_neg h
theorem runFrom_succ (t : Th) (acts : List RAct) {k : Nat} (h : k < acts.length) : runFrom t (acts.take (k + 1)) = runStep (runFrom t (acts.take k)) acts[k] := foldl_take_succ _ _ acts h
theorem run_sz (t : Th) (acts : List RAct) : ∀ k, k ≤ acts.length → ((runFrom t (acts.take k)).1.sz ≤ t.sz ∨ (runFrom t (acts.take k)).1.sz ≤ 148) ∧ (runFrom t (acts.take k)).2.length = k := by
 intro k
 induction k with
 | zero => intro _; exact ⟨.inl (Nat.le_refl _), rfl⟩
 | succ k ih =>
  intro hk
  obtain ⟨h1, h2⟩ := ih (by omega)
  rw [runFrom_succ t acts (by omega)]
  refine ⟨?_, by unfold runStep; rw [List.length_append, h2]; rfl⟩
  have := do_sz (runFrom t (acts.take k)).1 (acts[k]'(by omega))
  show (doF (runFrom t (acts.take k)).1 (acts[k]'(by omega))).1.sz ≤ t.sz ∨ (doF (runFrom t (acts.take k)).1 (acts[k]'(by omega))).1.sz ≤ 148
  rcases this with h | h
  ·rcases h1 with h1 | h1
   ·exact .inl (by omega)
   ·exact .inr (by omega)
  ·exact .inr h
theorem actsF_sz (t : Th) (acts : List RAct) : ((actsF t acts).1.sz ≤ t.sz ∨ (actsF t acts).1.sz ≤ 148) ∧ (actsF t acts).2.length ≤ 40 := by
 by_cases h : t.ok = true ∧ acts.length ≤ 40
 ·rw [actsF_t h.1 h.2]
  have := run_sz t acts acts.length (Nat.le_refl _)
  rw [List.take_length] at this
  exact ⟨this.1, by have := h.2; omega⟩
 ·rw [actsF_f h]; exact ⟨.inl (Nat.le_refl _), by simp⟩
def RetTI (B : Nat) (n m : Int) (cs : List RCross) (pl : List RPl) (ds ns : List Int) (w : World) (e : Ending) (w' : World) : Prop :=
 ∃ x1 x2 x3 S v SN, e = .returned (.tuple #[.agg #[.int .i64 n, x1, x2, x3, .int .i64 m], v]) ∧ OwTheatre w' S x1 x2 x3 cs pl ds ∧ Fresh B w' S ∧ OwL 3 cInt 1 w' SN v ns ∧ Fresh B w' SN ∧ (∀ b ∈ S, b ∉ SN) ∧ Below w.heap.size w w'
def RetRun (B : Nat) (r : Th × List Int) : World → Ending → World → Prop := RetTI B r.1.n r.1.m r.1.cs r.1.pl r.1.ds r.2
theorem run_eq {B : Nat} {r : Th × List Int} {n m : Int} {cs : List RCross} {pl : List RPl} {ds ns : List Int} {w w' : World} {e : Ending} (h : r = (⟨n, m, cs, pl, ds⟩, ns)) (hr : RetTI B n m cs pl ds ns w e w') : RetRun B r w e w' := by rw [h]; exact hr
structure RunSt (w : World) (B go gr : Nat) (t : Th) (ns : List Int) (x1 x2 x3 v : Value) (W : World) : Prop where
 lo : Loc W go [.int .i64 t.n, x1, x2, x3, .int .i64 t.m]
 lr : Loc W gr [.int .i64 0, .slice none 0 0, .slice none 0 0, .slice none 0 0, .int .i64 0]
 own : ∃ S, OwTheatre W S x1 x2 x3 t.cs t.pl t.ds ∧ Fresh B W S ∧ ∀ b ∈ S, b ≠ go ∧ b ∉ v.ownBlock.toList
 nums : W.ownsRow B 3 1 v ns.length (ns.flatMap cInt)
 ne : go ∉ v.ownBlock.toList
 below : Below w.heap.size w W
 base : (w.heap.size ≤ gr ∧ gr < B) ∧ B ≤ go ∧ go < W.heap.size
section
variable {w W W1 W' : World} {B go gr : Nat} {t t' : Th} {ns : List Int} {x1 x2 x3 z1 z2 z3 v v' : Value}
theorem RunSt.rd (h : RunSt w B go gr t ns x1 x2 x3 v W) : RdTheatre W x1 x2 x3 t.cs t.pl t.ds := by obtain ⟨S, h1, _⟩ := h.own; exact h1.rd
theorem RunSt.keep (h : RunSt w B go gr t ns x1 x2 x3 v W) (hb : Below W.heap.size W W') : RunSt w B go gr t ns x1 x2 x3 v W' := by
 obtain ⟨S, h1, h2, h3⟩ := h.own
 exact ⟨h.lo.below hb, h.lr.below hb, ⟨S, h1.below hb, fresh_mono h2 (Nat.le_refl _) hb.size, h3⟩, own_below h.nums hb, h.ne, bl_trans h.below hb, h.base.1, h.base.2.1, Nat.lt_of_lt_of_le h.base.2.2 hb.size⟩
theorem RunSt.next {T : List Nat} (h : RunSt w B go gr t ns x1 x2 x3 v W) (hb : Below W.heap.size W W') (ho : OwTheatre W' T z1 z2 z3 t'.cs t'.pl t'.ds) (hf : Fresh W.heap.size W' T) :
  RunSt w B go gr t' ns z1 z2 z3 v (((((W'.setCell ⟨go, 0, none⟩ (.int .i64 t'.n)).setCell ⟨go, 1, none⟩ z1).setCell ⟨go, 2, none⟩ z2).setCell ⟨go, 3, none⟩ z3).setCell ⟨go, 4, none⟩ (.int .i64 t'.m)) := by
 have hbs := h.base
 have hch : Chg [go] W' (((((W'.setCell ⟨go, 0, none⟩ (.int .i64 t'.n)).setCell ⟨go, 1, none⟩ z1).setCell ⟨go, 2, none⟩ z2).setCell ⟨go, 3, none⟩ z3).setCell ⟨go, 4, none⟩ (.int .i64 t'.m)) := by repeat' (first | (with_reducible exact Chg.refl _ _) | (with_reducible refine chg_set ?_ (by simp)))
 have h1 := h.keep hb
 have hbw := h.below.size
 refine ⟨((((h1.lo.set (i := 0) (u := .int .i64 t'.n) rfl).set (i := 1) (u := z1) rfl).set (i := 2) (u := z2) rfl).set (i := 3) (u := z3) rfl).set (i := 4) (u := .int .i64 t'.m) rfl, h1.lr.chg hch (by simp; omega),
  ⟨T, ho.chg hch (fun b hm hm' => by have := (hf.2 b hm).1; simp at hm'; omega), fresh_mono hf (by omega) hch.size, fun b hm => ⟨by have := (hf.2 b hm).1; omega, fun hm' => by have := (hf.2 b hm).1; have := (h.nums.lt b (by simpa using hm')).2; omega⟩⟩,
  own_chg h1.nums hch (fun b hm hm' => by simp at hm'; subst hm'; exact h.ne hm), h.ne, Below.chg h1.below hch h1.below.size (by simp; omega), hbs.1, hbs.2.1, Nat.lt_of_lt_of_le h1.base.2.2 hch.size⟩
theorem RunSt.app {k : Int} (h : RunSt w B go gr t ns x1 x2 x3 v W) (hown : W'.ownsRow B 3 1 v' (ns.length + 1) (ns.flatMap cInt ++ [.int .i64 k])) (hgr : W.grownBy W' v.ownBlock) (hat : v'.ownBlock = v.ownBlock ∨ v'.ownBlock = some W.heap.size) :
  RunSt w B go gr t (ns ++ [k]) x1 x2 x3 v' W' := by
 obtain ⟨S, h1, h2, h3⟩ := h.own
 have hbs := h.base
 have hch := Chg.of_grown hgr
 have hv : ∀ b ∈ v'.ownBlock.toList, b ∈ v.ownBlock.toList ∨ b = W.heap.size := fun b hb => by
  rcases hat with e | e
  ·rw [e] at hb; exact .inl hb
  ·rw [e] at hb; simp at hb; exact .inr hb
 have hvB : ∀ b ∈ v.ownBlock.toList, B ≤ b := fun b hb => (h.nums.lt b (by simpa using hb)).1
 refine ⟨h.lo.chg hch h.ne, h.lr.chg hch (fun hm => by have := hvB _ hm; omega), ⟨S, h1.chg hch (fun b hb hb' => (h3 b hb).2 hb'), fresh_mono h2 (Nat.le_refl _) hgr.size, fun b hb => ⟨(h3 b hb).1, fun hm => ?_⟩⟩,
  by rw [List.length_append, List.flatMap_append]; exact hown, fun hm => ?_, Below.chg h.below hch h.below.size (fun b hb => by have := hvB b hb; omega), hbs.1, hbs.2.1, Nat.lt_of_lt_of_le hbs.2.2 hgr.size⟩
 ·rcases hv b hm with e | e
  ·exact (h3 b hb).2 e
  ·have := (h2.2 b hb).2; omega
 ·rcases hv go hm with e | e
  ·exact h.ne e
  ·omega
end
set_option maxHeartbeats 8000000 in
set_option maxRecDepth 100000 in
theorem implRunActs_any (n m : Int) (v1 v2 v3 va : Value) (cs : List RCross) (pl : List RPl) (ds : List Int) (acts : List RAct) (w : World) (h : RdTheatre w v1 v2 v3 cs pl ds) (ha : RdL cAct 3 w va acts) (hsz : szTheatre cs pl ds ≤ 1048576) :
  Calls Tryz.prog 21 #[.agg #[.int .i64 n, v1, v2, v3, .int .i64 m], va] w (RetRun w.heap.size (actsF ⟨n, m, cs, pl, ds⟩ acts) w) := by
 obtain ⟨⟨A1, n1, rfl⟩, ⟨A2, n2, rfl⟩, ⟨A3, n3, rfl⟩⟩ := h.forms
 obtain ⟨Ac, cc, rfl, hac, hacc⟩ := ha.form
 obtain ⟨i0, hi0, hz0', hz1', hz2'⟩ := info_parts infoInt
 go_enter Tryz.func21, Tryz.ntmps21
 go_wp2_with fail
 refine (theatreCopied_any n m _ _ _ cs pl ds _ (h.below (by (repeat' (first | (with_reducible exact Below.refl _ _) | (with_reducible assumption) | (with_reducible refine Below.setCell ?_ (by first | omega | (simp <;> omega)) _) | (with_reducible refine Below.alloc ?_ (by first | omega | (simp <;> omega)) _) | (with_reducible refine Below.drew ?_) | (with_reducible refine below_drewN ?_ _))))) hsz).mono ?_
 rintro e W1 ⟨x1, x2, x3, S, rfl, ow, f1, q⟩
 obtain ⟨⟨B1, k1, rfl⟩, ⟨B2, k2, rfl⟩, ⟨B3, k3, rfl⟩⟩ := ow.rd.forms
 have Lc : Loc W1 (w.heap.size) [.int .i64 n, .slice A1 cs.length n1, .slice A2 pl.length n2, .slice A3 ds.length n3, .int .i64 m] := by have := ((Loc.new w #[.int .i64 n, .slice A1 cs.length n1, .slice A2 pl.length n2, .slice A3 ds.length n3, .int .i64 m] 37).alloc _).below q; simpa using this
 have Lr : Loc W1 (w.heap.size + 1) [.int .i64 0, .slice none 0 0, .slice none 0 0, .slice none 0 0, .int .i64 0] := by have := (Loc.new (w.alloc (.cells #[.int .i64 n, .slice A1 cs.length n1, .slice A2 pl.length n2, .slice A3 ds.length n3, .int .i64 m] 37)) #[.int .i64 0, .slice none 0 0, .slice none 0 0, .slice none 0 0, .int .i64 0] 37).below q; simpa using this
 have hb : Below w.heap.size w W1 := Below.trans (by (repeat' (first | (with_reducible exact Below.refl _ _) | (with_reducible assumption) | (with_reducible refine Below.setCell ?_ (by first | omega | (simp <;> omega)) _) | (with_reducible refine Below.alloc ?_ (by first | omega | (simp <;> omega)) _) | (with_reducible refine Below.drew ?_) | (with_reducible refine below_drewN ?_ _)))) (q.mono (by simp <;> omega))
 have hz0 : w.heap.size + 1 + 1 ≤ W1.heap.size := by have := q.size; simp at this; omega
 have hlow : w.heap.size + 1 + 1 ≤ (((w.alloc (.cells #[.int .i64 n, .slice A1 cs.length n1, .slice A2 pl.length n2, .slice A3 ds.length n3, .int .i64 m] 37)).alloc (.cells #[.int .i64 0, .slice none 0 0, .slice none 0 0, .slice none 0 0, .int .i64 0] 37))).heap.size := by first | exact Nat.le_refl _ | (simp; done) | (simp; omega) | omega
 have FK := Lib.hid (fresh_mono f1 hlow (Nat.le_refl _))
 have DK : Hid (∀ x ∈ S, x ∉ [w.heap.size, w.heap.size + 1]) := (fun x hx => by have := (FK.out.2 x hx).1; simp; omega)
 have OK := Lib.hid ow
 clear ow f1 hlow
 clear q
 go_upto_region 2 with (fail)
 replace Lc : Loc (W1.alloc (.cells #[.int .i64 n, .slice B1 cs.length k1, .slice B2 pl.length k2, .slice B3 ds.length k3, .int .i64 m] 37)) (w.heap.size) [.int .i64 n, .slice A1 cs.length n1, .slice A2 pl.length n2, .slice A3 ds.length n3, .int .i64 m] := Lc.alloc _
 replace Lr : Loc (W1.alloc (.cells #[.int .i64 n, .slice B1 cs.length k1, .slice B2 pl.length k2, .slice B3 ds.length k3, .int .i64 m] 37)) (w.heap.size + 1) [.int .i64 0, .slice none 0 0, .slice none 0 0, .slice none 0 0, .int .i64 0] := Lr.alloc _
 obtain ⟨go, hgo⟩ : ∃ g, W1.heap.size = g := ⟨_, rfl⟩
 have Lo : Loc (W1.alloc (.cells #[.int .i64 n, .slice B1 cs.length k1, .slice B2 pl.length k2, .slice B3 ds.length k3, .int .i64 m] 37)) W1.heap.size [.int .i64 n, .slice B1 cs.length k1, .slice B2 pl.length k2, .slice B3 ds.length k3, .int .i64 m] := Loc.new W1 #[.int .i64 n, .slice B1 cs.length k1, .slice B2 pl.length k2, .slice B3 ds.length k3, .int .i64 m] 37
 rw [hgo] at Lo
 replace OK := Lib.hid (OK.out.below (w' := (W1.alloc (.cells #[.int .i64 n, .slice B1 cs.length k1, .slice B2 pl.length k2, .slice B3 ds.length k3, .int .i64 m] 37))) ((Below.refl _ _).alloc (Nat.le_refl _) _))
 replace DK : Hid (∀ x ∈ S, x ∉ [w.heap.size, w.heap.size + 1, go]) := (fun x hx => by have := DK.out x hx; have := (FK.out.2 x hx).2; simp at *; omega)
 replace FK := Lib.hid (fresh_mono (w' := (W1.alloc (.cells #[.int .i64 n, .slice B1 cs.length k1, .slice B2 pl.length k2, .slice B3 ds.length k3, .int .i64 m] 37))) FK.out (Nat.le_refl _) (by simp))
 replace hb : Below w.heap.size w (W1.alloc (.cells #[.int .i64 n, .slice B1 cs.length k1, .slice B2 pl.length k2, .slice B3 ds.length k3, .int .i64 m] 37)) := hb.alloc hb.size _
 have hlto : go < (W1.alloc (.cells #[.int .i64 n, .slice B1 cs.length k1, .slice B2 pl.length k2, .slice B3 ds.length k3, .int .i64 m] 37)).heap.size := by simp; omega
 have hne_c_o : w.heap.size < go := by omega
 have hne_r_o : w.heap.size + 1 < go := by omega
 generalize W1.alloc (.cells #[.int .i64 n, .slice B1 cs.length k1, .slice B2 pl.length k2, .slice B3 ds.length k3, .int .i64 m] 37) = W2 at *
 rw [hgo]
 clear hgo
 have c0 := (Lc 0 _ rfl).1
 have c1 := (Lc 1 _ rfl).1
 have c2 := (Lc 2 _ rfl).1
 have c3 := (Lc 3 _ rfl).1
 have c4 := (Lc 4 _ rfl).1
 go_wp2_with fail
 refine twoB (implTheatreOk_any n m _ _ _ cs pl ds _ (h.below hb)) (fun W3 hq q => ?_) (fun W3 hq q => ?_)
 ·skip
  clear c0 c1 c2 c3 c4
  have hzq : W2.heap.size ≤ W3.heap.size := by have := q.size; (try simp at this); omega
  replace Lc := Lc.below q
  replace Lr := Lr.below q
  replace Lo := Lo.below q
  replace OK := Lib.hid (OK.out.below q)
  replace FK := Lib.hid (fresh_mono (w' := W3) FK.out (Nat.le_refl _) hzq)
  replace hb : Below w.heap.size w W3 := hb.trans (q.mono hb.size)
  clear q
  by_cases hl40 : 40 < acts.length
  ·skip
   have hd40 : decide ((40 : Int) < (acts.length : Int)) = true := decide_eq_true (by omega)
   have o0 := (Lo 0 _ rfl).1
   have o1 := (Lo 1 _ rfl).1
   have o2 := (Lo 2 _ rfl).1
   have o3 := (Lo 3 _ rfl).1
   have o4 := (Lo 4 _ rfl).1
   have r0 := (Lr 0 _ rfl).1
   have rf0 := (Lr 0 _ rfl).2
   have r1 := (Lr 1 _ rfl).1
   have rf1 := (Lr 1 _ rfl).2
   have r2 := (Lr 2 _ rfl).1
   have rf2 := (Lr 2 _ rfl).2
   have r3 := (Lr 3 _ rfl).1
   have rf3 := (Lr 3 _ rfl).2
   have r4 := (Lr 4 _ rfl).1
   have rf4 := (Lr 4 _ rfl).2
   go_wp2_with fail
   refine bodyPost_ret (v := .tuple #[.agg #[.int .i64 n, .slice B1 cs.length k1, .slice B2 pl.length k2, .slice B3 ds.length k3, .int .i64 m], .slice none 0 0]) (by simp [results, Tryz.results21, go_sem, *]) rfl (run_eq (actsF_f (fun hh => by have := hh.2; omega)) ⟨_, _, _, S, _, [], rfl, ?_, ?_, ⟨World.ownsRow_nil _ _ _ _, rfl⟩, ⟨by simp, by simp⟩, by simp, ?_⟩)
   ·exact OK.out.chg (T := [w.heap.size + 1]) (by repeat' (first | (with_reducible exact Chg.refl _ _) | (with_reducible refine chg_set ?_ (by simp)))) (fun x hx hx' => DK.out x hx (by simp at hx'; subst hx'; simp))
   ·exact fresh_mono FK.out (by omega) (by simp)
   ·exact Below.chg hb (S := [w.heap.size + 1]) (by repeat' (first | (with_reducible exact Chg.refl _ _) | (with_reducible refine chg_set ?_ (by simp)))) hb.size (fun x hx => by simp at hx; omega)
  ·skip
   have hd40 : decide ((40 : Int) < (acts.length : Int)) = false := decide_eq_false (by omega)
   have HQ := hq
   have hrb := ha.below hb
   have hst0 : RunSt w (w.heap.size + 1 + 1) go (w.heap.size + 1) ⟨n, m, cs, pl, ds⟩ [] (.slice B1 cs.length k1) (.slice B2 pl.length k2) (.slice B3 ds.length k3) (.slice (some ⟨W3.heap.size, 0, none⟩) 0 0) (W3.alloc (.cells #[] 3)) := by
    have hal : Below W3.heap.size W3 (W3.alloc (.cells #[] 3)) := (Below.refl _ _).alloc (Nat.le_refl _) _
    exact ⟨Lo.below hal, Lr.below hal, ⟨S, OK.out.below hal, fresh_mono FK.out (Nat.le_refl _) hal.size, fun b hb' => ⟨fun e => DK.out b hb' (by subst e; simp), fun hm => by have := (FK.out.2 b hb').2; simp [Value.ownBlock] at hm; omega⟩⟩, World.ownsRow_made (size := 1) (e := 3) W3 #[] 0 (by omega) (by simp [maxLen]) rfl, by simp [Value.ownBlock]; omega, bl_trans hb hal, ⟨by omega, by omega⟩, by omega, by have := hal.size; omega⟩
   clear Lc Lr Lo OK FK DK
   go_wp2_with fail
   go_loopw [7, 26] (fun q i wr => ∃ (k : Nat) (t1 : Th) (ns : List Int) (Y1 : Option Addr) (y1 : Nat) (Y2 : Option Addr) (y2 : Nat) (Y3 : Option Addr) (y3 : Nat) (v : Value), k ≤ acts.length ∧ i = .int .i64 k ∧ Hid (runFrom ⟨n, m, cs, pl, ds⟩ (acts.take k) = (t1, ns)) ∧ RunSt w (w.heap.size + 1 + 1) go (w.heap.size + 1) t1 ns (.slice Y1 t1.cs.length y1) (.slice Y2 t1.pl.length y2) (.slice Y3 t1.ds.length y3) v wr ∧ q = v) (fun _ i _ => acts.length - (intOf i).toNat)
   case atStart => exact ⟨0, ⟨n, m, cs, pl, ds⟩, [], _, _, _, _, _, _, _, Nat.zero_le _, rfl, rfl, hst0, rfl⟩
   case round =>
    obtain ⟨k, t1, ns, Y1, y1, Y2, y2, Y3, y3, v, hk, rfl, hrf, hst, rfl⟩ := hrel
    clear hst0
    obtain ⟨Av, cv, rfl, _, _⟩ := (RdS.of_own hst.nums).form
    have HZ : Hid ((szTheatre t1.cs t1.pl t1.ds ≤ szTheatre cs pl ds ∨ szTheatre t1.cs t1.pl t1.ds ≤ 148) ∧ ns.length = k) := by have := run_sz ⟨n, m, cs, pl, ds⟩ acts k hk; rw [hrf.out] at this; exact this
    have hnk : ns.length = k := HZ.out.2
    have hns40 : ns.length ≤ 40 := by omega
    clear hnk
    by_cases hlt : k < acts.length
    ·skip
     obtain ⟨g, off, rfl, hg, hcell⟩ := (ha.below hst.below).cell cAct_len (by omega) hlt
     have a0 := hcell 0 _ rfl
     have a1 := hcell 1 _ rfl
     have a2 := hcell 2 _ rfl
     simp only [Nat.add_zero] at a0 a1 a2
     clear hcell
     have HSU := Lib.hid (runFrom_succ ⟨n, m, cs, pl, ds⟩ acts hlt)
     obtain ⟨⟨ka, aa, ba⟩, hact⟩ : ∃ a, acts[k] = a := ⟨_, rfl⟩
     rw [hact] at a0 a1 a2
     have HACT := Lib.hid hact
     clear hact
     obtain ⟨n1', m1', cs1, pl1, ds1⟩ := t1
     obtain ⟨⟨⟨rn, rm, rcs, rpl, rds⟩, rk⟩, hres⟩ : ∃ r, doF ⟨n1', m1', cs1, pl1, ds1⟩ (ka, aa, ba) = r := ⟨_, rfl⟩
     have hX : Hid (∀ W, RdTheatre W (.slice Y1 cs1.length y1) (.slice Y2 pl1.length y2) (.slice Y3 ds1.length y3) cs1 pl1 ds1 → Calls Tryz.prog 14 #[.agg #[.int .i64 n1', .slice Y1 cs1.length y1, .slice Y2 pl1.length y2, .slice Y3 ds1.length y3, .int .i64 m1'], .agg #[.int .i64 ka, .int .i64 aa, .int .i64 ba]] W (RetTN W.heap.size rn rm rk rcs rpl rds W)) := fun W hr => by
      have := implDoAct_any n1' m1' ka aa ba _ _ _ cs1 pl1 ds1 W hr (by have h1 := HZ.out.1; simp only at h1; omega)
      rw [hres] at this
      exact this
     have HN : Hid (runFrom ⟨n, m, cs, pl, ds⟩ (acts.take (k + 1)) = (⟨rn, rm, rcs, rpl, rds⟩, ns ++ [rk])) := by show _ = _; rw [HSU.out, hrf.out, HACT.out]; unfold runStep; rw [hres]
     clear hres
     go_upto_region 8 with (fail)
     have halA : Below wr.heap.size wr (wr.alloc (.cells #[.int .i64 ka, .int .i64 aa, .int .i64 ba] 41)) := (Below.refl _ _).alloc (Nat.le_refl _) _
     have hstA := hst.keep halA
     have La : Loc (wr.alloc (.cells #[.int .i64 ka, .int .i64 aa, .int .i64 ba] 41)) wr.heap.size [.int .i64 ka, .int .i64 aa, .int .i64 ba] := Loc.new wr #[.int .i64 ka, .int .i64 aa, .int .i64 ba] 41
     obtain ⟨ga, hga⟩ : ∃ g, wr.heap.size = g := ⟨_, rfl⟩
     rw [hga] at La
     clear a0 a1 a2 hst
     generalize wr.alloc (.cells #[.int .i64 ka, .int .i64 aa, .int .i64 ba] 41) = wa at *
     (try rw [hga])
     clear halA hga
     have o0 := (hstA.lo 0 _ rfl).1
     have o1 := (hstA.lo 1 _ rfl).1
     have o2 := (hstA.lo 2 _ rfl).1
     have o3 := (hstA.lo 3 _ rfl).1
     have o4 := (hstA.lo 4 _ rfl).1
     have a0 := (La 0 _ rfl).1
     have a1 := (La 1 _ rfl).1
     have a2 := (La 2 _ rfl).1
     simp only at o0 o1 o2 o3 o4
     go_wp2_with fail
     refine (hX.out _ hstA.rd).mono ?_
     rintro e w5 ⟨z1, z2, z3, T, rfl, owr, fr, q⟩
     obtain ⟨⟨Z1, e1, rfl⟩, ⟨Z2, e2, rfl⟩, ⟨Z3, e3, rfl⟩⟩ := owr.rd.forms
     clear o0 o1 o2 o3 o4 a0 a1 a2
     go_upto_region 9 with (fail)
     have halB : Below w5.heap.size w5 (w5.alloc (.cells #[.int .i64 rn, .slice Z1 rcs.length e1, .slice Z2 rpl.length e2, .slice Z3 rds.length e3, .int .i64 rm] 37)) := (Below.refl _ _).alloc (Nat.le_refl _) _
     have Lb : Loc (w5.alloc (.cells #[.int .i64 rn, .slice Z1 rcs.length e1, .slice Z2 rpl.length e2, .slice Z3 rds.length e3, .int .i64 rm] 37)) w5.heap.size [.int .i64 rn, .slice Z1 rcs.length e1, .slice Z2 rpl.length e2, .slice Z3 rds.length e3, .int .i64 rm] := Loc.new w5 #[.int .i64 rn, .slice Z1 rcs.length e1, .slice Z2 rpl.length e2, .slice Z3 rds.length e3, .int .i64 rm] 37
     have q2 := bl_trans q halB
     have owr2 := owr.below halB
     have fr2 := fresh_mono fr (Nat.le_refl _) halB.size
     obtain ⟨gb, hgb⟩ : ∃ g, w5.heap.size = g := ⟨_, rfl⟩
     rw [hgb] at Lb
     generalize w5.alloc (.cells #[.int .i64 rn, .slice Z1 rcs.length e1, .slice Z2 rpl.length e2, .slice Z3 rds.length e3, .int .i64 rm] 37) = wb at *
     (try rw [hgb])
     clear q owr fr halB hgb
     have lo2 := hstA.lo.below q2
     have o0 := (lo2 0 _ rfl).1
     have o1 := (lo2 1 _ rfl).1
     have o2 := (lo2 2 _ rfl).1
     have o3 := (lo2 3 _ rfl).1
     have o4 := (lo2 4 _ rfl).1
     have f0 := (lo2 0 _ rfl).2
     have f1 := (lo2 1 _ rfl).2
     have f2 := (lo2 2 _ rfl).2
     have f3 := (lo2 3 _ rfl).2
     have f4 := (lo2 4 _ rfl).2
     have b0 := (Lb 0 _ rfl).1
     have b1 := (Lb 1 _ rfl).1
     have b2 := (Lb 2 _ rfl).1
     have b3 := (Lb 3 _ rfl).1
     have b4 := (Lb 4 _ rfl).1
     simp only at o0 o1 o2 o3 o4
     have HST9 := Lib.hid (hstA.next (t' := ⟨rn, rm, rcs, rpl, rds⟩) q2 owr2 fr2)
     clear owr2 fr2
     go_upto_region 10 with (fail)
     have hst9 := HST9.out
     simp only at hst9
     clear lo2 o0 o1 o2 o3 o4 f0 f1 f2 f3 f4 b0 b1 b2 b3 b4 HST9 hstA Lb La q2
     generalize ((((wb.setCell ⟨go, 0, none⟩ (.int .i64 rn)).setCell ⟨go, 1, none⟩ (.slice Z1 rcs.length e1)).setCell ⟨go, 2, none⟩ (.slice Z2 rpl.length e2)).setCell ⟨go, 3, none⟩ (.slice Z3 rds.length e3)).setCell ⟨go, 4, none⟩ (.int .i64 rm) = w9 at *
     have hn9 := hst9.nums
     have hz9 := hst9.below.size
     go_wp2_with (at_builtin; go_must (refine wpList_appendB _ rfl (.tmp 37) (.tmp 39) _ rfl (w.heap.size + 1 + 1) 3 i0 _ 1 8 Tryz.underlying26 hi0 hz0' hz1' hz2' rfl (by omega) _ ns.length (ns.flatMap cInt) rfl (hn9.alloc _) _ 1 [.int .i64 rk] rfl (rdS_new w9 #[.int .i64 rk] _ 1 1 rfl (by simp [maxLen])) (by simp [Value.oneCell']) (by simp [maxLen]; omega) (by omega) (by have := hst9.base; simp; omega) ?_); intro v3 w3 own3 gr3 at3; obtain ⟨A3, c3, rfl, _, _⟩ := (RdS.of_own own3).form)
     have hstN := (hst9.keep ((Below.refl _ _).alloc (Nat.le_refl _) (.cells #[.int .i64 rk] 3))).app (k := rk) own3 gr3 at3
     go_wp2_with fail
     go_roundw
     case rel => exact ⟨k + 1, ⟨rn, rm, rcs, rpl, rds⟩, ns ++ [rk], _, _, _, _, _, _, _, by omega, by go_num, HN.out, hstN, rfl⟩
     case measure => simp [intOf]; omega
    ·skip
     obtain rfl : k = acts.length := by omega
     have HF : Hid (actsF ⟨n, m, cs, pl, ds⟩ acts = (t1, ns)) := by show _ = _; rw [actsF_t (t := ⟨n, m, cs, pl, ds⟩) HQ.out (by omega), ← hrf.out, List.take_length]
     obtain ⟨n1', m1', cs1, pl1, ds1⟩ := t1
     have o0 := (hst.lo 0 _ rfl).1
     have o1 := (hst.lo 1 _ rfl).1
     have o2 := (hst.lo 2 _ rfl).1
     have o3 := (hst.lo 3 _ rfl).1
     have o4 := (hst.lo 4 _ rfl).1
     have r0 := (hst.lr 0 _ rfl).1
     have r1 := (hst.lr 1 _ rfl).1
     have r2 := (hst.lr 2 _ rfl).1
     have r3 := (hst.lr 3 _ rfl).1
     have r4 := (hst.lr 4 _ rfl).1
     have rf0 := (hst.lr 0 _ rfl).2
     have rf1 := (hst.lr 1 _ rfl).2
     have rf2 := (hst.lr 2 _ rfl).2
     have rf3 := (hst.lr 3 _ rfl).2
     have rf4 := (hst.lr 4 _ rfl).2
     have hbs := hst.base
     obtain ⟨S9, ow9, fr9, dj9⟩ := hst.own
     have hnums := hst.nums
     have hbel := hst.below
     have OW := Lib.hid ow9
     have FR := Lib.hid fr9
     have DJ := Lib.hid dj9
     have HNU := Lib.hid hnums
     have hnv : ∀ b ∈ (Value.slice Av ns.length cv).ownBlock.toList, w.heap.size + 1 + 1 ≤ b ∧ b < wr.heap.size := fun b hb => hnums.lt b (by simpa using hb)
     have HNV := Lib.hid hnv
     clear ow9 fr9 dj9 hnums hnv hst HZ hrf
     simp only at o0 o1 o2 o3 o4
     go_wp2_with fail
     have hch : Chg [w.heap.size + 1] wr (((((wr.setCell ⟨w.heap.size + 1, 0, none⟩ (.int .i64 n1')).setCell ⟨w.heap.size + 1, 1, none⟩ (.slice Y1 cs1.length y1)).setCell ⟨w.heap.size + 1, 2, none⟩ (.slice Y2 pl1.length y2)).setCell ⟨w.heap.size + 1, 3, none⟩ (.slice Y3 ds1.length y3)).setCell ⟨w.heap.size + 1, 4, none⟩ (.int .i64 m1')) := by repeat' (first | (with_reducible exact Chg.refl _ _) | (with_reducible refine chg_set ?_ (by simp)))
     refine bodyPost_ret (v := .tuple #[.agg #[.int .i64 n1', .slice Y1 cs1.length y1, .slice Y2 pl1.length y2, .slice Y3 ds1.length y3, .int .i64 m1'], .slice Av ns.length cv]) (by simp [results, Tryz.results21, go_sem, *]) rfl (run_eq HF.out ⟨_, _, _, S9, _, _, rfl, OW.out.chg hch (fun b hb hb' => by have := (FR.out.2 b hb).1; simp at hb'; omega), fresh_mono FR.out (by omega) hch.size, ⟨own_mono (own_chg HNU.out hch (fun b hb hb' => by have := HNV.out b hb; simp at hb'; omega)) (Nat.zero_le _), rfl⟩, ⟨by cases Av <;> simp [Value.ownBlock], fun b hb => by have := HNV.out b hb; have := hch.size; omega⟩, fun b hb => (DJ.out b hb).2, Below.chg hbel hch hbel.size (by simp)⟩)
 ·skip
  clear c0 c1 c2 c3 c4
  have hzq : W2.heap.size ≤ W3.heap.size := by have := q.size; (try simp at this); omega
  replace Lc := Lc.below q
  replace Lr := Lr.below q
  replace Lo := Lo.below q
  replace OK := Lib.hid (OK.out.below q)
  replace FK := Lib.hid (fresh_mono (w' := W3) FK.out (Nat.le_refl _) hzq)
  replace hb : Below w.heap.size w W3 := hb.trans (q.mono hb.size)
  clear q
  have o0 := (Lo 0 _ rfl).1
  have o1 := (Lo 1 _ rfl).1
  have o2 := (Lo 2 _ rfl).1
  have o3 := (Lo 3 _ rfl).1
  have o4 := (Lo 4 _ rfl).1
  have r0 := (Lr 0 _ rfl).1
  have rf0 := (Lr 0 _ rfl).2
  have r1 := (Lr 1 _ rfl).1
  have rf1 := (Lr 1 _ rfl).2
  have r2 := (Lr 2 _ rfl).1
  have rf2 := (Lr 2 _ rfl).2
  have r3 := (Lr 3 _ rfl).1
  have rf3 := (Lr 3 _ rfl).2
  have r4 := (Lr 4 _ rfl).1
  have rf4 := (Lr 4 _ rfl).2
  go_wp2_with fail
  refine bodyPost_ret (v := .tuple #[.agg #[.int .i64 n, .slice B1 cs.length k1, .slice B2 pl.length k2, .slice B3 ds.length k3, .int .i64 m], .slice none 0 0]) (by simp [results, Tryz.results21, go_sem, *]) rfl (run_eq (actsF_f (fun hh => absurd (show theatreB n m cs pl ds = true from hh.1) (by rw [hq.out]; simp))) ⟨_, _, _, S, _, [], rfl, ?_, ?_, ⟨World.ownsRow_nil _ _ _ _, rfl⟩, ⟨by simp, by simp⟩, by simp, ?_⟩)
  ·exact OK.out.chg (T := [w.heap.size + 1]) (by repeat' (first | (with_reducible exact Chg.refl _ _) | (with_reducible refine chg_set ?_ (by simp)))) (fun x hx hx' => DK.out x hx (by simp at hx'; subst hx'; simp))
  ·exact fresh_mono FK.out (by omega) (by simp)
  ·exact Below.chg hb (S := [w.heap.size + 1]) (by repeat' (first | (with_reducible exact Chg.refl _ _) | (with_reducible refine chg_set ?_ (by simp)))) hb.size (fun x hx => by simp at hx; omega)
end Go.Proofs.YtlhdeojkpmpecaaGreat
