/- Lemmas and contracts that this claim's theorem rests on. Conditions: those that each states. -/
import Derived.Test.YtkbacoadejglkaaGreatDoorBdK1x6
import Derived.Test.YtkbacoadejglkaaGreatDoorBdK3x9
namespace Go.Proofs.YtkbacoadejglkaaGreatDoor
set_option maxHeartbeats 16000000
set_option maxRecDepth 100000
open Go.RowKit
def zbb (n : Int) (ok : Bool) (d1 : List zad) (d2 : List RPl) (w : World) (e : Ending) (w' : World) : Prop :=
 ∃ x1 x2 S, e = .returned (.tuple #[.agg #[.int .i64 n, x1, x2], .bool ok]) /\ za4 w' S x1 x2 d1 d2 /\ zbc w.heap.size w' S /\ Below w.heap.size w w'
def zcq (n : Int) (cs : List zad) (pl : List RPl) (l : List zad) : Bool := za7 n cs pl && za7 n (cs ++ l) pl
def zdi (n : Int) (cs : List zad) (pl : List RPl) (l : List zad) : List zad := if zcq n cs pl l = true then cs ++ l else cs
theorem ztq (n : Int) (cs : List zad) (pl : List RPl) (l : List zad) : zam (zdi n cs pl l) pl <= zam cs pl ∨ zam (zdi n cs pl l) pl <= 1000 := by
 unfold zdi
 split
 ·rename_i h
  rw [zcq, Bool.and_eq_true] at h; have := zld h.2
  omega
 ·exact .inl (Nat.le_refl _)
theorem zrk {n : Int} {cs l : List zad} {pl : List RPl} {w w' : World} {e : Ending} (h : zcq n cs pl l = false) (hr : zbb n false cs pl w e w') : zbb n (zcq n cs pl l) (zdi n cs pl l) pl w e w' := by rw [zdi, h]; exact hr
theorem zxo {n : Int} {cs l : List zad} {pl : List RPl} {w w' : World} {e : Ending} (h : zcq n cs pl l = true) (hr : zbb n true (cs ++ l) pl w e w') : zbb n (zcq n cs pl l) (zdi n cs pl l) pl w e w' := by rw [zdi, h]; exact hr
theorem zgm (n : Int) (v1 v2 vl : Value) (cs : List zad) (pl : List RPl) (l : List zad) (w : World) (h : zaq w v1 v2 cs pl) (hv : RdL zah 2 w vl l) (hll : l.length <= 100000) (hsz : zam cs pl <= 1048576) :
  Calls Tryz.prog 150 #[.agg #[.int .i64 n, v1, v2], vl] w (zbb n (zcq n cs pl l) (zdi n cs pl l) pl w) := by
 obtain ⟨⟨A1, n1, rfl⟩, ⟨A2, n2, rfl⟩⟩ := h.forms
 go_enter Tryz.func150, Tryz.ntmps150
 go_wp2_with fail; refine (zb5 n _ _ cs pl _ (h.below (bM)) hsz).mono ?_
 rintro e w1 ⟨x1, x2, S, rfl, ow, f1, q1⟩; obtain ⟨⟨B1, k1, rfl⟩, ⟨B2, k2, rfl⟩⟩ := ow.rd.forms; have z1 := q1.size
 simp at z1
 have hb : Below w.heap.size w w1 := Below.trans (bM) (q1.mono (by simp <;> omega))
 replace f1 := zaa (B' := w.heap.size + 1 + 1) f1 (by simp) (Nat.le_refl _)
 have Lc : Loc w1 (w.heap.size) [.int .i64 n, .slice A1 cs.length n1, .slice A2 pl.length n2] := ((Loc.new w #[.int .i64 n, .slice A1 cs.length n1, .slice A2 pl.length n2] 36).alloc _).below q1
 have Lr : Loc w1 (w.heap.size + 1) [.int .i64 0, .slice none 0 0, .slice none 0 0] := by
  have := (Loc.new (w.alloc (.cells #[.int .i64 n, .slice A1 cs.length n1, .slice A2 pl.length n2] 36)) #[.int .i64 0, .slice none 0 0, .slice none 0 0] 36).below q1
  simpa using this
 go_upto_region 2 with (fail)
 obtain ⟨g, hgz⟩ : ∃ g, w1.heap.size = g := ⟨_, rfl⟩; replace Lc : Loc (w1.alloc (.cells #[.int .i64 n, .slice B1 cs.length k1, .slice B2 pl.length k2] 36)) (w.heap.size) [.int .i64 n, .slice A1 cs.length n1, .slice A2 pl.length n2] := Lc.alloc _; replace Lr : Loc (w1.alloc (.cells #[.int .i64 n, .slice B1 cs.length k1, .slice B2 pl.length k2] 36)) (w.heap.size + 1) [.int .i64 0, .slice none 0 0, .slice none 0 0] := Lr.alloc _; have Lo : Loc (w1.alloc (.cells #[.int .i64 n, .slice B1 cs.length k1, .slice B2 pl.length k2] 36)) (w1.heap.size) [.int .i64 n, .slice B1 cs.length k1, .slice B2 pl.length k2] := Loc.new w1 #[.int .i64 n, .slice B1 cs.length k1, .slice B2 pl.length k2] 36; replace hb : Below w.heap.size w (w1.alloc (.cells #[.int .i64 n, .slice B1 cs.length k1, .slice B2 pl.length k2] 36)) := bM
 replace ow := ow.below (w' := (w1.alloc (.cells #[.int .i64 n, .slice B1 cs.length k1, .slice B2 pl.length k2] 36))) (bM)
 have hS : ∀ b ∈ S, b < g := fun b hb => by have := (f1.2 b hb).2; omega
 replace f1 := zaa (w' := (w1.alloc (.cells #[.int .i64 n, .slice B1 cs.length k1, .slice B2 pl.length k2] 36))) f1 (Nat.le_refl _) (by simp)
 have hgW : g < (w1.alloc (.cells #[.int .i64 n, .slice B1 cs.length k1, .slice B2 pl.length k2] 36)).heap.size := by simp; omega
 have hg2 : w.heap.size + 1 + 1 <= g := by omega
 clear q1; generalize w1.alloc (.cells #[.int .i64 n, .slice B1 cs.length k1, .slice B2 pl.length k2] 36) = W at *
 rw [hgz] at Lo ⊢; clear hgz z1 w1; have hcl : cs.length <= 1048576 := by unfold zam at hsz; omega
 obtain ⟨S1, S2, rfl, o1, o2⟩ := ow; have hv' := hv.below hb; obtain ⟨Av, cv, rfl, _, _⟩ := hv.form; obtain ⟨i0, hi0, hz0, hz1, hz2⟩ := info_parts zco; have e1 := o1.2; subst e1; have hown : W.ownsRow (w.heap.size + 1 + 1) 82 2 (.slice B1 cs.length k1) cs.length (cs.flatMap zah) := zmh o1.1 (fun b hb => f1.2 b (List.mem_append_left _ hb))
 have Hf := Lib.hid f1; have HS := Lib.hid hS; have O2 := Lib.hid o2; have Hown := Lib.hid hown; clear f1 hS o2 hown o1; obtain ⟨o0, o1, o2⟩ := Lo.a3; have of1 := (Lo 1 _ rfl).2
 go_upto_region 3 with (at_builtin; refine zae _ rfl (.tmp 10) (.tmp 11) _ rfl (w.heap.size + 1 + 1) 82 i0 _ 2 16 Tryz.underlying33 hi0 hz0 hz1 hz2 rfl (by omega) _ cs.length (cs.flatMap zah) rfl Hown.out _ l.length (l.flatMap zah) rfl hv' (zar zea l) (by simp [maxLen]; omega) (by omega) (by omega) ?_; intro v3 w3 own3 gr3 at3; obtain ⟨B3, k3, rfl, _, _⟩ := (RdS.of_own own3).form; have hch := Chg.of_grown gr3; have ho1 := zdu hch o1 (fun hm => Nat.lt_irrefl _ (HS.out _ (List.mem_append_left _ hm))); have hof1 := zf5 hch o1 of1 (fun hm => Nat.lt_irrefl _ (HS.out _ (List.mem_append_left _ hm))); clear o0 o1 o2 of1 hv')
 have hc0 : w.heap.size ∉ (Value.slice B1 cs.length k1).ownBlock.toList := fun hm => by have := (Hf.out.2 _ (List.mem_append_left _ hm)).1; omega
 have hc1 : w.heap.size + 1 ∉ (Value.slice B1 cs.length k1).ownBlock.toList := fun hm => by have := (Hf.out.2 _ (List.mem_append_left _ hm)).1; omega
 have hcg : g ∉ (Value.slice B1 cs.length k1).ownBlock.toList := fun hm => Nat.lt_irrefl _ (HS.out _ (List.mem_append_left _ hm))
 replace Lc := (Lc.chg hch hc0).far (g := g) (i := 1) (u := .slice B3 (cs.length + l.length) k3) (by omega)
 replace Lr := (Lr.chg hch hc1).far (g := g) (i := 1) (u := .slice B3 (cs.length + l.length) k3) (by omega)
 replace Lo : Loc (w3.setCell ⟨g, 1, none⟩ (.slice B3 (cs.length + l.length) k3)) (g) [.int .i64 n, .slice B3 (cs.length + l.length) k3, .slice B2 pl.length k2] := (Lo.chg hch hcg).set (i := 1) (v := .slice B1 cs.length k1) rfl; obtain ⟨_, _, hdj, hdj'⟩ := zcm Hf.out.1; obtain ⟨f3, hd3⟩ := zof own3 at3 (T := S2) (fun b hb => ⟨(Hf.out.2 b (List.mem_append_right _ hb)).2, hdj' b hb⟩)
 have hs3 := gr3.size; have f2 := zaa (w' := w3) (za9 Hf.out) (Nat.le_refl _) hs3; have fj := zbf f3 f2 hd3
 have hgn : ∀ b ∈ (Value.slice B3 (cs.length + l.length) k3).ownBlock.toList ++ S2, b ≠ g := by
  intro b hb e; subst e
  rcases List.mem_append.1 hb with hb | hb
  ·rcases at3 with h3 | h3
   ·rw [h3] at hb; exact hcg hb
   ·rw [h3] at hb; simp at hb; omega
  ·exact Nat.lt_irrefl _ (HS.out _ (List.mem_append_right _ hb))
 have o3 : OwL 82 zah 2 w3 (Value.slice B3 (cs.length + l.length) k3).ownBlock.toList (.slice B3 (cs.length + l.length) k3) (cs ++ l) := ⟨by rw [List.length_append, List.flatMap_append]; exact zaj own3 (Nat.zero_le _), rfl⟩
 have ow3 : za4 w3 ((Value.slice B3 (cs.length + l.length) k3).ownBlock.toList ++ S2) (.slice B3 (cs.length + l.length) k3) (.slice B2 pl.length k2) (cs ++ l) pl := ⟨_, _, rfl, o3, O2.out.chg hch hdj'⟩; have hset : Chg [g] w3 (w3.setCell ⟨g, 1, none⟩ (.slice B3 (cs.length + l.length) k3)) := cS
 have ow4 := ow3.chg hset (fun b hb => by have := hgn b hb; simpa using this)
 have f4 := zaa (w' := (w3.setCell ⟨g, 1, none⟩ (.slice B3 (cs.length + l.length) k3))) fj (Nat.le_refl _) hset.size; have hb3 : Below w.heap.size w (w3.setCell ⟨g, 1, none⟩ (.slice B3 (cs.length + l.length) k3)) := Below.chg (Below.chg hb hch hb.size (fun b hm => by have := (Hf.out.2 b (List.mem_append_left _ hm)).1; omega)) hset (by have := hb.size; omega) (by simp; omega)
 have hgW3 : g < (w3.setCell ⟨g, 1, none⟩ (.slice B3 (cs.length + l.length) k3)).heap.size := by rw [World.size_setCell]; omega
 clear hc0 hc1 hcg hdj hdj' f3 hd3 hs3 f2 fj o3 ow3 hset Hf HS O2 Hown own3 gr3 at3 hch ho1 hof1 hb hgW; generalize w3.setCell ⟨g, 1, none⟩ (.slice B3 (cs.length + l.length) k3) = W3 at *
 obtain ⟨S3, hS3⟩ : ∃ S3, (Value.slice B3 (cs.length + l.length) k3).ownBlock.toList ++ S2 = S3 := ⟨_, rfl⟩; rw [hS3] at ow4 f4 hgn; clear hS3; have OW := Lib.hid ow4; have FW := Lib.hid f4; have HG := Lib.hid hgn; clear ow4 f4 hgn; obtain ⟨c0, c1, c2⟩ := Lc.a3; obtain ⟨o0, o1, o2⟩ := Lo.a3; go_wp2_with fail; refine twoB (zch n _ _ cs pl _ (h.below hb3)) (fun w4 hq q4 => ?_) (fun w4 hq q4 => ?_)
 ·have z4 := q4.size
  replace Lc := Lc.below q4; replace Lr := Lr.below q4; replace Lo := Lo.below q4; have hb4 : Below w.heap.size w w4 := hb3.trans (q4.mono (by have := hb3.size; omega))
  have OW4 := Lib.hid (OW.out.below q4); clear c0 c1 c2 o0 o1 o2; obtain ⟨o0, o1, o2⟩ := Lo.a3; go_wp2_with fail; refine twoB (zch n _ _ (cs ++ l) pl _ (OW4.out.rd)) (fun w5 hq' q5 => ?_) (fun w5 hq' q5 => ?_)
  ·have z5 := q5.size
   replace Lr := Lr.below q5; replace Lo := Lo.below q5; have hb5 : Below w.heap.size w w5 := hb4.trans (q5.mono (by have := hb4.size; omega))
   have OW5 := Lib.hid (OW4.out.below q5); clear o0 o1 o2; obtain ⟨o0, o1, o2⟩ := Lo.a3; obtain ⟨r0, r1, r2⟩ := Lr.a3; obtain ⟨rf0, rf1, rf2⟩ := Lr.b3; go_wp2_with fail; refine bodyPost_ret (v := .tuple #[.agg #[.int .i64 n, .slice B3 (cs.length + l.length) k3, .slice B2 pl.length k2], .bool true]) (by simp [results, Tryz.results150, go_sem, *]) rfl (zxo (by rw [zcq, hq.out, hq'.out]; rfl) ⟨_, _, S3, rfl, ?_, ?_, ?_⟩)
   ·exact OW5.out.chg (T := [w.heap.size + 1]) (cS) (fun b hb => by have := FW.out.2 b hb; simp; omega)
   ·exact zaa FW.out (by omega) (by simp; omega)
   ·exact Below.chg hb5 (S := [w.heap.size + 1]) (cS) hb5.size (by simp)
  ·have z5 := q5.size
   replace Lc := Lc.below q5; replace Lr := Lr.below q5; have hb5 : Below w.heap.size w w5 := hb4.trans (q5.mono (by have := hb4.size; omega))
   clear o0 o1 o2; obtain ⟨c0, c1, c2⟩ := Lc.a3; go_wp2_with fail; refine (zb5 n _ _ cs pl _ (h.below hb5) hsz).mono ?_; rintro e w6 ⟨y1, y2, T, rfl, ow6, f6, q6⟩; obtain ⟨⟨D1, m1, rfl⟩, ⟨D2, m2, rfl⟩⟩ := ow6.rd.forms; have Lr6 := Lr.below q6; have z6 := q6.size; have zb := hb5.size; have hb6 : Below w.heap.size w w6 := hb5.trans (q6.mono (by omega))
   replace f6 := zaa (B' := w.heap.size + 1 + 1) f6 (by omega) (Nat.le_refl _)
   clear c0 c1 c2; obtain ⟨r0, r1, r2⟩ := Lr6.a3; obtain ⟨rf0, rf1, rf2⟩ := Lr6.b3; have OW6 := Lib.hid ow6; have F6 := Lib.hid f6; clear ow6 f6; go_wp2_with fail; refine bodyPost_ret (v := .tuple #[.agg #[.int .i64 n, .slice D1 cs.length m1, .slice D2 pl.length m2], .bool false]) (by simp [results, Tryz.results150, go_sem, *]) rfl (zrk (by rw [zcq, hq'.out, Bool.and_false]) ⟨_, _, T, rfl, ?_, ?_, ?_⟩)
   ·exact OW6.out.chg (T := [w.heap.size + 1]) (cS) (fun b hb => by have := F6.out.2 b hb; simp; omega)
   ·exact zaa F6.out (by omega) (by simp)
   ·exact Below.chg hb6 (S := [w.heap.size + 1]) (cS) hb6.size (by simp)
 ·have z4 := q4.size
  replace Lc := Lc.below q4; replace Lr := Lr.below q4; have hb4 : Below w.heap.size w w4 := hb3.trans (q4.mono (by have := hb3.size; omega))
  clear c0 c1 c2 o0 o1 o2; obtain ⟨c0, c1, c2⟩ := Lc.a3; go_wp2_with fail; refine (zb5 n _ _ cs pl _ (h.below hb4) hsz).mono ?_; rintro e w6 ⟨y1, y2, T, rfl, ow6, f6, q6⟩; obtain ⟨⟨D1, m1, rfl⟩, ⟨D2, m2, rfl⟩⟩ := ow6.rd.forms; have Lr6 := Lr.below q6; have z6 := q6.size; have zb := hb4.size; have hb6 : Below w.heap.size w w6 := hb4.trans (q6.mono (by omega))
  replace f6 := zaa (B' := w.heap.size + 1 + 1) f6 (by omega) (Nat.le_refl _)
  clear c0 c1 c2; obtain ⟨r0, r1, r2⟩ := Lr6.a3; obtain ⟨rf0, rf1, rf2⟩ := Lr6.b3; have OW6 := Lib.hid ow6; have F6 := Lib.hid f6; clear ow6 f6; go_wp2_with fail; refine bodyPost_ret (v := .tuple #[.agg #[.int .i64 n, .slice D1 cs.length m1, .slice D2 pl.length m2], .bool false]) (by simp [results, Tryz.results150, go_sem, *]) rfl (zrk (by rw [zcq, hq.out]; rfl) ⟨_, _, T, rfl, ?_, ?_, ?_⟩)
  ·exact OW6.out.chg (T := [w.heap.size + 1]) (cS) (fun b hb => by have := F6.out.2 b hb; simp; omega)
  ·exact zaa F6.out (by omega) (by simp)
  ·exact Below.chg hb6 (S := [w.heap.size + 1]) (cS) hb6.size (by simp)
theorem zis (n : Int) (v1 v2 vl : Value) (cs : List zad) (pl : List RPl) (l : List zad) (w : World) (h : zaq w v1 v2 cs pl) (hv : RdL zah 2 w vl l) (hll : l.length <= 100000) (hsz : zam cs pl <= 1048576) :
  Calls Tryz.prog 129 #[.agg #[.int .i64 n, v1, v2], vl] w (zbb n (zcq n cs pl l) (zdi n cs pl l) pl w) := by
 obtain ⟨⟨A1, n1, rfl⟩, ⟨A2, n2, rfl⟩⟩ := h.forms
 go_enter Tryz.func129, Tryz.ntmps129
 go_wp2_with fail; refine (zdt n _ _ cs pl _ (h.below (bM)) hsz).mono ?_
 rintro e w1 ⟨x1, x2, S, rfl, ow, f1, q1⟩; obtain ⟨⟨B1, k1, rfl⟩, ⟨B2, k2, rfl⟩⟩ := ow.rd.forms; have z1 := q1.size
 simp at z1
 have hb : Below w.heap.size w w1 := Below.trans (bM) (q1.mono (by simp <;> omega))
 replace f1 := zaa (B' := w.heap.size + 1 + 1) f1 (by simp) (Nat.le_refl _)
 have Lc : Loc w1 (w.heap.size) [.int .i64 n, .slice A1 cs.length n1, .slice A2 pl.length n2] := ((Loc.new w #[.int .i64 n, .slice A1 cs.length n1, .slice A2 pl.length n2] 36).alloc _).below q1
 have Lr : Loc w1 (w.heap.size + 1) [.int .i64 0, .slice none 0 0, .slice none 0 0] := by
  have := (Loc.new (w.alloc (.cells #[.int .i64 n, .slice A1 cs.length n1, .slice A2 pl.length n2] 36)) #[.int .i64 0, .slice none 0 0, .slice none 0 0] 36).below q1
  simpa using this
 go_upto_region 2 with (fail)
 obtain ⟨g, hgz⟩ : ∃ g, w1.heap.size = g := ⟨_, rfl⟩; replace Lc : Loc (w1.alloc (.cells #[.int .i64 n, .slice B1 cs.length k1, .slice B2 pl.length k2] 36)) (w.heap.size) [.int .i64 n, .slice A1 cs.length n1, .slice A2 pl.length n2] := Lc.alloc _; replace Lr : Loc (w1.alloc (.cells #[.int .i64 n, .slice B1 cs.length k1, .slice B2 pl.length k2] 36)) (w.heap.size + 1) [.int .i64 0, .slice none 0 0, .slice none 0 0] := Lr.alloc _; have Lo : Loc (w1.alloc (.cells #[.int .i64 n, .slice B1 cs.length k1, .slice B2 pl.length k2] 36)) (w1.heap.size) [.int .i64 n, .slice B1 cs.length k1, .slice B2 pl.length k2] := Loc.new w1 #[.int .i64 n, .slice B1 cs.length k1, .slice B2 pl.length k2] 36; replace hb : Below w.heap.size w (w1.alloc (.cells #[.int .i64 n, .slice B1 cs.length k1, .slice B2 pl.length k2] 36)) := bM
 replace ow := ow.below (w' := (w1.alloc (.cells #[.int .i64 n, .slice B1 cs.length k1, .slice B2 pl.length k2] 36))) (bM)
 have hS : ∀ b ∈ S, b < g := fun b hb => by have := (f1.2 b hb).2; omega
 replace f1 := zaa (w' := (w1.alloc (.cells #[.int .i64 n, .slice B1 cs.length k1, .slice B2 pl.length k2] 36))) f1 (Nat.le_refl _) (by simp)
 have hgW : g < (w1.alloc (.cells #[.int .i64 n, .slice B1 cs.length k1, .slice B2 pl.length k2] 36)).heap.size := by simp; omega
 have hg2 : w.heap.size + 1 + 1 <= g := by omega
 clear q1; generalize w1.alloc (.cells #[.int .i64 n, .slice B1 cs.length k1, .slice B2 pl.length k2] 36) = W at *
 rw [hgz] at Lo ⊢; clear hgz z1 w1; have hcl : cs.length <= 1048576 := by unfold zam at hsz; omega
 obtain ⟨S1, S2, rfl, o1, o2⟩ := ow; have hv' := hv.below hb; obtain ⟨Av, cv, rfl, _, _⟩ := hv.form; obtain ⟨i0, hi0, hz0, hz1, hz2⟩ := info_parts zco; have e1 := o1.2; subst e1; have hown : W.ownsRow (w.heap.size + 1 + 1) 82 2 (.slice B1 cs.length k1) cs.length (cs.flatMap zah) := zmh o1.1 (fun b hb => f1.2 b (List.mem_append_left _ hb))
 have Hf := Lib.hid f1; have HS := Lib.hid hS; have O2 := Lib.hid o2; have Hown := Lib.hid hown; clear f1 hS o2 hown o1; obtain ⟨o0, o1, o2⟩ := Lo.a3; have of1 := (Lo 1 _ rfl).2
 go_upto_region 3 with (at_builtin; refine zae _ rfl (.tmp 10) (.tmp 11) _ rfl (w.heap.size + 1 + 1) 82 i0 _ 2 16 Tryz.underlying33 hi0 hz0 hz1 hz2 rfl (by omega) _ cs.length (cs.flatMap zah) rfl Hown.out _ l.length (l.flatMap zah) rfl hv' (zar zea l) (by simp [maxLen]; omega) (by omega) (by omega) ?_; intro v3 w3 own3 gr3 at3; obtain ⟨B3, k3, rfl, _, _⟩ := (RdS.of_own own3).form; have hch := Chg.of_grown gr3; have ho1 := zdu hch o1 (fun hm => Nat.lt_irrefl _ (HS.out _ (List.mem_append_left _ hm))); have hof1 := zf5 hch o1 of1 (fun hm => Nat.lt_irrefl _ (HS.out _ (List.mem_append_left _ hm))); clear o0 o1 o2 of1 hv')
 have hc0 : w.heap.size ∉ (Value.slice B1 cs.length k1).ownBlock.toList := fun hm => by have := (Hf.out.2 _ (List.mem_append_left _ hm)).1; omega
 have hc1 : w.heap.size + 1 ∉ (Value.slice B1 cs.length k1).ownBlock.toList := fun hm => by have := (Hf.out.2 _ (List.mem_append_left _ hm)).1; omega
 have hcg : g ∉ (Value.slice B1 cs.length k1).ownBlock.toList := fun hm => Nat.lt_irrefl _ (HS.out _ (List.mem_append_left _ hm))
 replace Lc := (Lc.chg hch hc0).far (g := g) (i := 1) (u := .slice B3 (cs.length + l.length) k3) (by omega)
 replace Lr := (Lr.chg hch hc1).far (g := g) (i := 1) (u := .slice B3 (cs.length + l.length) k3) (by omega)
 replace Lo : Loc (w3.setCell ⟨g, 1, none⟩ (.slice B3 (cs.length + l.length) k3)) (g) [.int .i64 n, .slice B3 (cs.length + l.length) k3, .slice B2 pl.length k2] := (Lo.chg hch hcg).set (i := 1) (v := .slice B1 cs.length k1) rfl; obtain ⟨_, _, hdj, hdj'⟩ := zcm Hf.out.1; obtain ⟨f3, hd3⟩ := zof own3 at3 (T := S2) (fun b hb => ⟨(Hf.out.2 b (List.mem_append_right _ hb)).2, hdj' b hb⟩)
 have hs3 := gr3.size; have f2 := zaa (w' := w3) (za9 Hf.out) (Nat.le_refl _) hs3; have fj := zbf f3 f2 hd3
 have hgn : ∀ b ∈ (Value.slice B3 (cs.length + l.length) k3).ownBlock.toList ++ S2, b ≠ g := by
  intro b hb e; subst e
  rcases List.mem_append.1 hb with hb | hb
  ·rcases at3 with h3 | h3
   ·rw [h3] at hb; exact hcg hb
   ·rw [h3] at hb; simp at hb; omega
  ·exact Nat.lt_irrefl _ (HS.out _ (List.mem_append_right _ hb))
 have o3 : OwL 82 zah 2 w3 (Value.slice B3 (cs.length + l.length) k3).ownBlock.toList (.slice B3 (cs.length + l.length) k3) (cs ++ l) := ⟨by rw [List.length_append, List.flatMap_append]; exact zaj own3 (Nat.zero_le _), rfl⟩
 have ow3 : za4 w3 ((Value.slice B3 (cs.length + l.length) k3).ownBlock.toList ++ S2) (.slice B3 (cs.length + l.length) k3) (.slice B2 pl.length k2) (cs ++ l) pl := ⟨_, _, rfl, o3, O2.out.chg hch hdj'⟩; have hset : Chg [g] w3 (w3.setCell ⟨g, 1, none⟩ (.slice B3 (cs.length + l.length) k3)) := cS
 have ow4 := ow3.chg hset (fun b hb => by have := hgn b hb; simpa using this)
 have f4 := zaa (w' := (w3.setCell ⟨g, 1, none⟩ (.slice B3 (cs.length + l.length) k3))) fj (Nat.le_refl _) hset.size; have hb3 : Below w.heap.size w (w3.setCell ⟨g, 1, none⟩ (.slice B3 (cs.length + l.length) k3)) := Below.chg (Below.chg hb hch hb.size (fun b hm => by have := (Hf.out.2 b (List.mem_append_left _ hm)).1; omega)) hset (by have := hb.size; omega) (by simp; omega)
 have hgW3 : g < (w3.setCell ⟨g, 1, none⟩ (.slice B3 (cs.length + l.length) k3)).heap.size := by rw [World.size_setCell]; omega
 clear hc0 hc1 hcg hdj hdj' f3 hd3 hs3 f2 fj o3 ow3 hset Hf HS O2 Hown own3 gr3 at3 hch ho1 hof1 hb hgW; generalize w3.setCell ⟨g, 1, none⟩ (.slice B3 (cs.length + l.length) k3) = W3 at *
 obtain ⟨S3, hS3⟩ : ∃ S3, (Value.slice B3 (cs.length + l.length) k3).ownBlock.toList ++ S2 = S3 := ⟨_, rfl⟩; rw [hS3] at ow4 f4 hgn; clear hS3; have OW := Lib.hid ow4; have FW := Lib.hid f4; have HG := Lib.hid hgn; clear ow4 f4 hgn; obtain ⟨c0, c1, c2⟩ := Lc.a3; obtain ⟨o0, o1, o2⟩ := Lo.a3; go_wp2_with fail; refine twoB (zb4 n _ _ cs pl _ (h.below hb3)) (fun w4 hq q4 => ?_) (fun w4 hq q4 => ?_)
 ·have z4 := q4.size
  replace Lc := Lc.below q4; replace Lr := Lr.below q4; replace Lo := Lo.below q4; have hb4 : Below w.heap.size w w4 := hb3.trans (q4.mono (by have := hb3.size; omega))
  have OW4 := Lib.hid (OW.out.below q4); clear c0 c1 c2 o0 o1 o2; obtain ⟨o0, o1, o2⟩ := Lo.a3; go_wp2_with fail; refine twoB (zb4 n _ _ (cs ++ l) pl _ (OW4.out.rd)) (fun w5 hq' q5 => ?_) (fun w5 hq' q5 => ?_)
  ·have z5 := q5.size
   replace Lr := Lr.below q5; replace Lo := Lo.below q5; have hb5 : Below w.heap.size w w5 := hb4.trans (q5.mono (by have := hb4.size; omega))
   have OW5 := Lib.hid (OW4.out.below q5); clear o0 o1 o2; obtain ⟨o0, o1, o2⟩ := Lo.a3; obtain ⟨r0, r1, r2⟩ := Lr.a3; obtain ⟨rf0, rf1, rf2⟩ := Lr.b3; go_wp2_with fail; refine bodyPost_ret (v := .tuple #[.agg #[.int .i64 n, .slice B3 (cs.length + l.length) k3, .slice B2 pl.length k2], .bool true]) (by simp [results, Tryz.results129, go_sem, *]) rfl (zxo (by rw [zcq, hq.out, hq'.out]; rfl) ⟨_, _, S3, rfl, ?_, ?_, ?_⟩)
   ·exact OW5.out.chg (T := [w.heap.size + 1]) (cS) (fun b hb => by have := FW.out.2 b hb; simp; omega)
   ·exact zaa FW.out (by omega) (by simp; omega)
   ·exact Below.chg hb5 (S := [w.heap.size + 1]) (cS) hb5.size (by simp)
  ·have z5 := q5.size
   replace Lc := Lc.below q5; replace Lr := Lr.below q5; have hb5 : Below w.heap.size w w5 := hb4.trans (q5.mono (by have := hb4.size; omega))
   clear o0 o1 o2; obtain ⟨c0, c1, c2⟩ := Lc.a3; go_wp2_with fail; refine (zdt n _ _ cs pl _ (h.below hb5) hsz).mono ?_; rintro e w6 ⟨y1, y2, T, rfl, ow6, f6, q6⟩; obtain ⟨⟨D1, m1, rfl⟩, ⟨D2, m2, rfl⟩⟩ := ow6.rd.forms; have Lr6 := Lr.below q6; have z6 := q6.size; have zb := hb5.size; have hb6 : Below w.heap.size w w6 := hb5.trans (q6.mono (by omega))
   replace f6 := zaa (B' := w.heap.size + 1 + 1) f6 (by omega) (Nat.le_refl _)
   clear c0 c1 c2; obtain ⟨r0, r1, r2⟩ := Lr6.a3; obtain ⟨rf0, rf1, rf2⟩ := Lr6.b3; have OW6 := Lib.hid ow6; have F6 := Lib.hid f6; clear ow6 f6; go_wp2_with fail; refine bodyPost_ret (v := .tuple #[.agg #[.int .i64 n, .slice D1 cs.length m1, .slice D2 pl.length m2], .bool false]) (by simp [results, Tryz.results129, go_sem, *]) rfl (zrk (by rw [zcq, hq'.out, Bool.and_false]) ⟨_, _, T, rfl, ?_, ?_, ?_⟩)
   ·exact OW6.out.chg (T := [w.heap.size + 1]) (cS) (fun b hb => by have := F6.out.2 b hb; simp; omega)
   ·exact zaa F6.out (by omega) (by simp)
   ·exact Below.chg hb6 (S := [w.heap.size + 1]) (cS) hb6.size (by simp)
 ·have z4 := q4.size
  replace Lc := Lc.below q4; replace Lr := Lr.below q4; have hb4 : Below w.heap.size w w4 := hb3.trans (q4.mono (by have := hb3.size; omega))
  clear c0 c1 c2 o0 o1 o2; obtain ⟨c0, c1, c2⟩ := Lc.a3; go_wp2_with fail; refine (zdt n _ _ cs pl _ (h.below hb4) hsz).mono ?_; rintro e w6 ⟨y1, y2, T, rfl, ow6, f6, q6⟩; obtain ⟨⟨D1, m1, rfl⟩, ⟨D2, m2, rfl⟩⟩ := ow6.rd.forms; have Lr6 := Lr.below q6; have z6 := q6.size; have zb := hb4.size; have hb6 : Below w.heap.size w w6 := hb4.trans (q6.mono (by omega))
  replace f6 := zaa (B' := w.heap.size + 1 + 1) f6 (by omega) (Nat.le_refl _)
  clear c0 c1 c2; obtain ⟨r0, r1, r2⟩ := Lr6.a3; obtain ⟨rf0, rf1, rf2⟩ := Lr6.b3; have OW6 := Lib.hid ow6; have F6 := Lib.hid f6; clear ow6 f6; go_wp2_with fail; refine bodyPost_ret (v := .tuple #[.agg #[.int .i64 n, .slice D1 cs.length m1, .slice D2 pl.length m2], .bool false]) (by simp [results, Tryz.results129, go_sem, *]) rfl (zrk (by rw [zcq, hq.out]; rfl) ⟨_, _, T, rfl, ?_, ?_, ?_⟩)
  ·exact OW6.out.chg (T := [w.heap.size + 1]) (cS) (fun b hb => by have := F6.out.2 b hb; simp; omega)
  ·exact zaa F6.out (by omega) (by simp)
  ·exact Below.chg hb6 (S := [w.heap.size + 1]) (cS) hb6.size (by simp)
theorem ziq (n a : Int) (f : Bool) (v1 v2 : Value) (cs : List zad) (pl : List RPl) (w : World) (h : zaq w v1 v2 cs pl) (hsz : zam cs pl <= 1048576) :
  Calls Tryz.prog 118 #[.agg #[.int .i64 n, v1, v2], .int .i64 a, .bool f] w (zbb n (zcq n cs pl [(a, f)]) (zdi n cs pl [(a, f)]) pl w) := by
 obtain ⟨⟨A1, n1, rfl⟩, ⟨A2, n2, rfl⟩⟩ := h.forms
 go_enter Tryz.func118, Tryz.ntmps118
 go_wp2_with fail; refine (zgm n _ _ (.slice (some ⟨w.heap.size + 1 + 1, 0, none⟩) 1 1) cs pl [(a, f)] _ (h.below (bM)) (zbz _ (w.heap.size + 1 + 1) (by simp) #[.int .i64 a, .bool f] _ 2 1 rfl (by simp [maxLen])) (by simp) hsz).mono ?_
 rintro e W1 ⟨x1, x2, S, rfl, ow, f1, q⟩; obtain ⟨⟨B1, k1, rfl⟩, ⟨B2, k2, rfl⟩⟩ := ow.rd.forms; generalize zcq n cs pl [(a, f)] = ok at *
 generalize zdi n cs pl [(a, f)] = cs' at *
 have Lc : Loc W1 (w.heap.size) [.int .i64 n, .slice A1 cs.length n1, .slice A2 pl.length n2] := by have := (((Loc.new w #[.int .i64 n, .slice A1 cs.length n1, .slice A2 pl.length n2] 36).alloc _).alloc _).below q; simpa using this
 have Lr : Loc W1 (w.heap.size + 1) [.int .i64 0, .slice none 0 0, .slice none 0 0] := by have := ((Loc.new (w.alloc (.cells #[.int .i64 n, .slice A1 cs.length n1, .slice A2 pl.length n2] 36)) #[.int .i64 0, .slice none 0 0, .slice none 0 0] 36).alloc _).below q; simpa using this
 have Lm : Loc W1 (w.heap.size + 1 + 1) [.int .i64 a, .bool f] := by have := (Loc.new ((w.alloc (.cells #[.int .i64 n, .slice A1 cs.length n1, .slice A2 pl.length n2] 36)).alloc (.cells #[.int .i64 0, .slice none 0 0, .slice none 0 0] 36)) #[.int .i64 a, .bool f] 82).below q; simpa using this
 have hb : Below w.heap.size w W1 := Below.trans (bM) (q.mono (by simp <;> omega))
 have hz0 : w.heap.size + 1 + 1 + 1 <= W1.heap.size := by have := q.size; simp at this; omega
 have hlow : w.heap.size + 1 + 1 + 1 <= ((((w.alloc (.cells #[.int .i64 n, .slice A1 cs.length n1, .slice A2 pl.length n2] 36)).alloc (.cells #[.int .i64 0, .slice none 0 0, .slice none 0 0] 36)).alloc (.cells #[.int .i64 a, .bool f] 82))).heap.size := by first | exact Nat.le_refl _ | (simp; done) | (simp; omega) | omega
 have FK := Lib.hid (zaa f1 hlow (Nat.le_refl _)); have DK : Hid (∀ x ∈ S, x ∉ [w.heap.size, w.heap.size + 1, w.heap.size + 1 + 1]) := (fun x hx => by have := (FK.out.2 x hx).1; simp; omega)
 have OK := Lib.hid ow; clear ow f1 hlow; clear q; obtain ⟨r0, r1, r2⟩ := Lr.a3; obtain ⟨rf0, rf1, rf2⟩ := Lr.b3; go_wp2_with fail; refine bodyPost_ret (v := .tuple #[.agg #[.int .i64 n, .slice B1 cs'.length k1, .slice B2 pl.length k2], .bool ok]) (by simp [results, Tryz.results118, go_sem, *]) rfl (⟨_, _, S, rfl, ?_, ?_, ?_⟩)
 ·exact OK.out.chg (T := [w.heap.size + 1]) (cS) (fun x hx hx' => DK.out x hx (by simp at hx'; subst hx'; simp))
 ·exact zaa FK.out (by omega) (by simp)
 ·exact Below.chg hb (S := [w.heap.size + 1]) (cS) hb.size (fun x hx => by simp at hx; omega)
theorem zi2 (n a : Int) (f : Bool) (v1 v2 : Value) (cs : List zad) (pl : List RPl) (w : World) (h : zaq w v1 v2 cs pl) (hsz : zam cs pl <= 1048576) :
  Calls Tryz.prog 96 #[.agg #[.int .i64 n, v1, v2], .int .i64 a, .bool f] w (zbb n (zcq n cs pl [(a, f)]) (zdi n cs pl [(a, f)]) pl w) := by
 obtain ⟨⟨A1, n1, rfl⟩, ⟨A2, n2, rfl⟩⟩ := h.forms
 go_enter Tryz.func96, Tryz.ntmps96
 go_wp2_with fail; refine (zis n _ _ (.slice (some ⟨w.heap.size + 1 + 1, 0, none⟩) 1 1) cs pl [(a, f)] _ (h.below (bM)) (zbz _ (w.heap.size + 1 + 1) (by simp) #[.int .i64 a, .bool f] _ 2 1 rfl (by simp [maxLen])) (by simp) hsz).mono ?_
 rintro e W1 ⟨x1, x2, S, rfl, ow, f1, q⟩; obtain ⟨⟨B1, k1, rfl⟩, ⟨B2, k2, rfl⟩⟩ := ow.rd.forms; generalize zcq n cs pl [(a, f)] = ok at *
 generalize zdi n cs pl [(a, f)] = cs' at *
 have Lc : Loc W1 (w.heap.size) [.int .i64 n, .slice A1 cs.length n1, .slice A2 pl.length n2] := by have := (((Loc.new w #[.int .i64 n, .slice A1 cs.length n1, .slice A2 pl.length n2] 36).alloc _).alloc _).below q; simpa using this
 have Lr : Loc W1 (w.heap.size + 1) [.int .i64 0, .slice none 0 0, .slice none 0 0] := by have := ((Loc.new (w.alloc (.cells #[.int .i64 n, .slice A1 cs.length n1, .slice A2 pl.length n2] 36)) #[.int .i64 0, .slice none 0 0, .slice none 0 0] 36).alloc _).below q; simpa using this
 have Lm : Loc W1 (w.heap.size + 1 + 1) [.int .i64 a, .bool f] := by have := (Loc.new ((w.alloc (.cells #[.int .i64 n, .slice A1 cs.length n1, .slice A2 pl.length n2] 36)).alloc (.cells #[.int .i64 0, .slice none 0 0, .slice none 0 0] 36)) #[.int .i64 a, .bool f] 82).below q; simpa using this
 have hb : Below w.heap.size w W1 := Below.trans (bM) (q.mono (by simp <;> omega))
 have hz0 : w.heap.size + 1 + 1 + 1 <= W1.heap.size := by have := q.size; simp at this; omega
 have hlow : w.heap.size + 1 + 1 + 1 <= ((((w.alloc (.cells #[.int .i64 n, .slice A1 cs.length n1, .slice A2 pl.length n2] 36)).alloc (.cells #[.int .i64 0, .slice none 0 0, .slice none 0 0] 36)).alloc (.cells #[.int .i64 a, .bool f] 82))).heap.size := by first | exact Nat.le_refl _ | (simp; done) | (simp; omega) | omega
 have FK := Lib.hid (zaa f1 hlow (Nat.le_refl _)); have DK : Hid (∀ x ∈ S, x ∉ [w.heap.size, w.heap.size + 1, w.heap.size + 1 + 1]) := (fun x hx => by have := (FK.out.2 x hx).1; simp; omega)
 have OK := Lib.hid ow; clear ow f1 hlow; clear q
 go_upto_region 2 with (fail)
 replace Lc : Loc (W1.alloc (.cells #[.int .i64 n, .slice B1 cs'.length k1, .slice B2 pl.length k2] 36)) (w.heap.size) [.int .i64 n, .slice A1 cs.length n1, .slice A2 pl.length n2] := Lc.alloc _; replace Lr : Loc (W1.alloc (.cells #[.int .i64 n, .slice B1 cs'.length k1, .slice B2 pl.length k2] 36)) (w.heap.size + 1) [.int .i64 0, .slice none 0 0, .slice none 0 0] := Lr.alloc _; replace Lm : Loc (W1.alloc (.cells #[.int .i64 n, .slice B1 cs'.length k1, .slice B2 pl.length k2] 36)) (w.heap.size + 1 + 1) [.int .i64 a, .bool f] := Lm.alloc _; obtain ⟨go, hgo⟩ : ∃ g, W1.heap.size = g := ⟨_, rfl⟩; have Lo : Loc (W1.alloc (.cells #[.int .i64 n, .slice B1 cs'.length k1, .slice B2 pl.length k2] 36)) W1.heap.size [.int .i64 n, .slice B1 cs'.length k1, .slice B2 pl.length k2] := Loc.new W1 #[.int .i64 n, .slice B1 cs'.length k1, .slice B2 pl.length k2] 36; rw [hgo] at Lo; replace OK := Lib.hid (OK.out.below (w' := (W1.alloc (.cells #[.int .i64 n, .slice B1 cs'.length k1, .slice B2 pl.length k2] 36))) ((Below.refl _ _).alloc (Nat.le_refl _) _))
 replace DK : Hid (∀ x ∈ S, x ∉ [w.heap.size, w.heap.size + 1, w.heap.size + 1 + 1, go]) := (fun x hx => by have := DK.out x hx; have := (FK.out.2 x hx).2; simp at *; omega)
 replace FK := Lib.hid (zaa (w' := (W1.alloc (.cells #[.int .i64 n, .slice B1 cs'.length k1, .slice B2 pl.length k2] 36))) FK.out (Nat.le_refl _) (by simp))
 replace hb : Below w.heap.size w (W1.alloc (.cells #[.int .i64 n, .slice B1 cs'.length k1, .slice B2 pl.length k2] 36)) := hb.alloc hb.size _; have hlto : go < (W1.alloc (.cells #[.int .i64 n, .slice B1 cs'.length k1, .slice B2 pl.length k2] 36)).heap.size := by simp; omega
 have hne_c_o : w.heap.size < go := by omega
 have hne_r_o : w.heap.size + 1 < go := by omega
 have hne_m_o : w.heap.size + 1 + 1 < go := by omega
 generalize W1.alloc (.cells #[.int .i64 n, .slice B1 cs'.length k1, .slice B2 pl.length k2] 36) = W2 at *
 rw [hgo]; clear hgo; obtain ⟨o0, o1, o2⟩ := Lo.a3; obtain ⟨r0, r1, r2⟩ := Lr.a3; obtain ⟨rf0, rf1, rf2⟩ := Lr.b3; go_wp2_with fail; refine bodyPost_ret (v := .tuple #[.agg #[.int .i64 n, .slice B1 cs'.length k1, .slice B2 pl.length k2], .bool ok]) (by simp [results, Tryz.results96, go_sem, *]) rfl (⟨_, _, S, rfl, ?_, ?_, ?_⟩)
 ·exact OK.out.chg (T := [w.heap.size + 1]) (cS) (fun x hx hx' => DK.out x hx (by simp at hx'; subst hx'; simp))
 ·exact zaa FK.out (by omega) (by simp)
 ·exact Below.chg hb (S := [w.heap.size + 1]) (cS) hb.size (fun x hx => by simp at hx; omega)
theorem zmc {w : World} {B : Nat} {e : TypeId} {size n c m : Nat} {A : Option Addr} {xs : List Value} (h : w.ownsRow B e size (.slice A n c) n xs) (hm : m <= n) (hn : 0 < n) : w.ownsRow B e size (.slice A m c) m (xs.take (m * size)) := by
 refine ⟨by rw [List.length_take, h.1]; exact Nat.min_eq_left (Nat.mul_le_mul_right _ hm), ?_⟩
 rcases h.2 with ⟨_, h0⟩ | ⟨g, cap, cur, hv, h1, h2, h3, h4, h5, h6⟩
 ·omega
 ·injection hv with e1 e2 e3
  subst e1 e3; exact .inr ⟨g, c, cur, rfl, h1, h2, by omega, h4, h5, by rw [<- h6, List.take_take, Nat.min_eq_left (Nat.mul_le_mul_right _ hm)]⟩
theorem ztr {α : Type} {f : α -> List Value} {size : Nat} (hf : ∀ a, (f a).length = size) (l : List α) (m : Nat) : (l.take m).flatMap f = (l.flatMap f).take (m * size) := by
 induction l generalizing m with
 | nil => simp
 | cons a l ih =>
  cases m with
  | zero => simp
  | succ m =>
   rw [List.take_succ_cons, List.flatMap_cons, List.flatMap_cons, ih, List.take_append, hf, List.take_of_length_le (l := f a) (by rw [hf, Nat.add_mul]; omega), show (m + 1) * size - size = m * size by rw [Nat.add_mul]; omega]
structure Th where
 n : Int
 m : Int
 cs : List zad
 pl : List RPl
 ds : List Int
def Th.ok (t : Th) : Bool := zau t.n t.m t.cs t.pl t.ds
def Th.sz (t : Th) : Nat := zas t.cs t.pl t.ds
def RetT (B : Nat) (n m : Int) (ok : Bool) (cs : List zad) (pl : List RPl) (ds : List Int) (w : World) (e : Ending) (w' : World) : Prop :=
 ∃ x1 x2 x3 S, e = .returned (.tuple #[.agg #[.int .i64 n, x1, x2, x3, .int .i64 m], .bool ok]) /\ zai w' S x1 x2 x3 cs pl ds /\ zbc B w' S /\ Below w.heap.size w w'
def zhf (B : Nat) (r : Th × Bool) : World -> Ending -> World -> Prop := RetT B r.1.n r.1.m r.2 r.1.cs r.1.pl r.1.ds
def becF (t u : Th) (ok : Bool) : Th × Bool := if t.ok = true /\ ok = true /\ u.ok = true then (u, true) else (t, false)
theorem zpn {n m : Int} {cs : List zad} {pl : List RPl} {ds : List Int} (h : zau n m cs pl ds = true) : zas cs pl ds <= 148 := by
 rw [zau, Bool.and_eq_true, Bool.and_eq_true] at h; have h1 := zld h.1.1; have h2 := h.1.2; rw [zgo, Bool.and_eq_true, Bool.and_eq_true] at h2; have h3 := (zgh h2.1.1).1; unfold zas
 omega
theorem zzz (t u : Th) (ok : Bool) : (becF t u ok).1.sz <= t.sz ∨ (becF t u ok).1.sz <= 148 := by
 unfold becF
 split
 ·rename_i h; exact .inr (zpn h.2.2)
 ·exact .inl (Nat.le_refl _)
theorem zsj {B : Nat} {t u : Th} {ok : Bool} {w w' : World} {e : Ending} (h : t.ok = true /\ ok = true /\ u.ok = true) (hr : zhf B (u, true) w e w') : zhf B (becF t u ok) w e w' := by rw [becF, if_pos h]; exact hr
theorem zf0 {B : Nat} {t u : Th} {ok : Bool} {w w' : World} {e : Ending} (h : ¬ (t.ok = true /\ ok = true /\ u.ok = true)) (hr : zhf B (t, false) w e w') : zhf B (becF t u ok) w e w' := by rw [becF, if_neg h]; exact hr
theorem zqg (n m n' m' : Int) (v1 v2 v3 y1 y2 y3 : Value) (cs cs' : List zad) (pl pl' : List RPl) (ds ds' : List Int) (ok : Bool) (B : Nat) (S : List Nat) (w : World) (h : zak w v1 v2 v3 cs pl ds) (hsz : zas cs pl ds <= 1048576) (how : zai w S y1 y2 y3 cs' pl' ds') (hf : zbc B w S) (hB : B <= w.heap.size) :
  Calls Tryz.prog 116 #[.agg #[.int .i64 n, v1, v2, v3, .int .i64 m], .agg #[.int .i64 n', y1, y2, y3, .int .i64 m'], .bool ok] w (zhf B (becF ⟨n, m, cs, pl, ds⟩ ⟨n', m', cs', pl', ds'⟩ ok) w) := by
 obtain ⟨⟨A1, n1, rfl⟩, ⟨A2, n2, rfl⟩, ⟨A3, n3, rfl⟩⟩ := h.forms; obtain ⟨⟨B1, k1, rfl⟩, ⟨B2, k2, rfl⟩, ⟨B3, k3, rfl⟩⟩ := how.rd.forms; have Hok := Lib.hid how; clear how
 go_enter Tryz.func116, Tryz.ntmps116
 go_wp2_with fail; refine twoB (zb7 n m _ _ _ cs pl ds _ (h.below (bM))) (fun W1 hq q => ?_) (fun W1 hq q => ?_)
 ·skip
  have Lc : Loc W1 (w.heap.size) [.int .i64 n, .slice A1 cs.length n1, .slice A2 pl.length n2, .slice A3 ds.length n3, .int .i64 m] := by have := (((Loc.new w #[.int .i64 n, .slice A1 cs.length n1, .slice A2 pl.length n2, .slice A3 ds.length n3, .int .i64 m] 39).alloc _).alloc _).below q; simpa using this
  have Ld : Loc W1 (w.heap.size + 1) [.int .i64 n', .slice B1 cs'.length k1, .slice B2 pl'.length k2, .slice B3 ds'.length k3, .int .i64 m'] := by have := ((Loc.new (w.alloc (.cells #[.int .i64 n, .slice A1 cs.length n1, .slice A2 pl.length n2, .slice A3 ds.length n3, .int .i64 m] 39)) #[.int .i64 n', .slice B1 cs'.length k1, .slice B2 pl'.length k2, .slice B3 ds'.length k3, .int .i64 m'] 39).alloc _).below q; simpa using this
  have Lr : Loc W1 (w.heap.size + 1 + 1) [.int .i64 0, .slice none 0 0, .slice none 0 0, .slice none 0 0, .int .i64 0] := by have := (Loc.new ((w.alloc (.cells #[.int .i64 n, .slice A1 cs.length n1, .slice A2 pl.length n2, .slice A3 ds.length n3, .int .i64 m] 39)).alloc (.cells #[.int .i64 n', .slice B1 cs'.length k1, .slice B2 pl'.length k2, .slice B3 ds'.length k3, .int .i64 m'] 39)) #[.int .i64 0, .slice none 0 0, .slice none 0 0, .slice none 0 0, .int .i64 0] 39).below q; simpa using this
  have hb : Below w.heap.size w W1 := Below.trans (bM) (q.mono (by simp <;> omega))
  have hz0 : w.heap.size + 1 + 1 + 1 <= W1.heap.size := by have := q.size; simp at this; omega
  clear q; have OK : Hid (zai W1 S _ _ _ cs' pl' ds') := Lib.hid (Hok.out.below hb); have FK : Hid (zbc B W1 S) := Lib.hid (zaa hf (Nat.le_refl _) hb.size); have DK : Hid (∀ x ∈ S, x ∉ [w.heap.size, w.heap.size + 1, w.heap.size + 1 + 1]) := (fun x hx => by have := (hf.2 x hx).2; simp; omega)
  cases ok
  ·skip
   obtain ⟨c0, c1, c2, c3, c4⟩ := Lc.a5; go_wp2_with fail; refine (zay n m _ _ _ cs pl ds _ (h.below hb) hsz).mono ?_; rintro e W2 ⟨y1, y2, y3, T, rfl, ow6, f6, q⟩; clear c0 c1 c2 c3 c4; obtain ⟨⟨D1, e1, rfl⟩, ⟨D2, e2, rfl⟩, ⟨D3, e3, rfl⟩⟩ := ow6.rd.forms; have hzq : W1.heap.size <= W2.heap.size := by have := q.size; (try simp at this); omega
   replace Lc := Lc.below q; replace Ld := Ld.below q; replace Lr := Lr.below q; replace OK := Lib.hid (OK.out.below q); replace FK := Lib.hid (zaa (w' := W2) FK.out (Nat.le_refl _) hzq); replace hb : Below w.heap.size w W2 := hb.trans (q.mono hb.size); have hlow : W1.heap.size <= W1.heap.size := by first | exact Nat.le_refl _ | (simp; done) | (simp; omega) | omega
   have FZ := Lib.hid (zaa f6 hlow (Nat.le_refl _)); have DZ : Hid (∀ x ∈ T, x ∉ [w.heap.size, w.heap.size + 1, w.heap.size + 1 + 1]) := (fun x hx => by have := (FZ.out.2 x hx).1; simp; omega)
   have OZ := Lib.hid ow6; clear ow6 f6 hlow; clear q; obtain ⟨r0, r1, r2, r3, r4⟩ := Lr.a5; obtain ⟨rf0, rf1, rf2, rf3, rf4⟩ := Lr.b5; go_wp2_with fail; refine bodyPost_ret (v := .tuple #[.agg #[.int .i64 n, .slice D1 cs.length e1, .slice D2 pl.length e2, .slice D3 ds.length e3, .int .i64 m], .bool false]) (by simp [results, Tryz.results116, go_sem, *]) rfl (zf0 (by simp) ⟨_, _, _, T, rfl, ?_, ?_, ?_⟩)
   ·exact OZ.out.chg (T := [w.heap.size + 1 + 1]) (cS) (fun x hx hx' => DZ.out x hx (by simp at hx'; subst hx'; simp))
   ·exact zaa FZ.out (by omega) (by simp)
   ·exact Below.chg hb (S := [w.heap.size + 1 + 1]) (cS) hb.size (fun x hx => by simp at hx; omega)
  ·skip
   obtain ⟨d0, d1, d2, d3, d4⟩ := Ld.a5; go_wp2_with fail; refine twoB (zb7 n' m' _ _ _ cs' pl' ds' _ OK.out.rd) (fun W2 hq' q => ?_) (fun W2 hq' q => ?_)
   ·skip
    clear d0 d1 d2 d3 d4; have hzq : W1.heap.size <= W2.heap.size := by have := q.size; (try simp at this); omega
    replace Lc := Lc.below q; replace Ld := Ld.below q; replace Lr := Lr.below q; replace OK := Lib.hid (OK.out.below q); replace FK := Lib.hid (zaa (w' := W2) FK.out (Nat.le_refl _) hzq); replace hb : Below w.heap.size w W2 := hb.trans (q.mono hb.size); clear q; obtain ⟨d0, d1, d2, d3, d4⟩ := Ld.a5; obtain ⟨r0, r1, r2, r3, r4⟩ := Lr.a5; obtain ⟨rf0, rf1, rf2, rf3, rf4⟩ := Lr.b5; go_wp2_with fail; refine bodyPost_ret (v := .tuple #[.agg #[.int .i64 n', .slice B1 cs'.length k1, .slice B2 pl'.length k2, .slice B3 ds'.length k3, .int .i64 m'], .bool true]) (by simp [results, Tryz.results116, go_sem, *]) rfl (zsj ⟨hq.out, rfl, hq'.out⟩ ⟨_, _, _, S, rfl, ?_, ?_, ?_⟩)
    ·exact OK.out.chg (T := [w.heap.size + 1 + 1]) (cS) (fun x hx hx' => DK.out x hx (by simp at hx'; subst hx'; simp))
    ·exact zaa FK.out (by omega) (by simp)
    ·exact Below.chg hb (S := [w.heap.size + 1 + 1]) (cS) hb.size (fun x hx => by simp at hx; omega)
   ·skip
    clear d0 d1 d2 d3 d4; have hzq : W1.heap.size <= W2.heap.size := by have := q.size; (try simp at this); omega
    replace Lc := Lc.below q; replace Ld := Ld.below q; replace Lr := Lr.below q; replace OK := Lib.hid (OK.out.below q); replace FK := Lib.hid (zaa (w' := W2) FK.out (Nat.le_refl _) hzq); replace hb : Below w.heap.size w W2 := hb.trans (q.mono hb.size); clear q; obtain ⟨c0, c1, c2, c3, c4⟩ := Lc.a5; go_wp2_with fail; refine (zay n m _ _ _ cs pl ds _ (h.below hb) hsz).mono ?_; rintro e W3 ⟨y1, y2, y3, T, rfl, ow6, f6, q⟩; clear c0 c1 c2 c3 c4; obtain ⟨⟨D1, e1, rfl⟩, ⟨D2, e2, rfl⟩, ⟨D3, e3, rfl⟩⟩ := ow6.rd.forms; have hzq : W2.heap.size <= W3.heap.size := by have := q.size; (try simp at this); omega
    replace Lc := Lc.below q; replace Ld := Ld.below q; replace Lr := Lr.below q; replace OK := Lib.hid (OK.out.below q); replace FK := Lib.hid (zaa (w' := W3) FK.out (Nat.le_refl _) hzq); replace hb : Below w.heap.size w W3 := hb.trans (q.mono hb.size); have hlow : W2.heap.size <= W2.heap.size := by first | exact Nat.le_refl _ | (simp; done) | (simp; omega) | omega
    have FZ := Lib.hid (zaa f6 hlow (Nat.le_refl _)); have DZ : Hid (∀ x ∈ T, x ∉ [w.heap.size, w.heap.size + 1, w.heap.size + 1 + 1]) := (fun x hx => by have := (FZ.out.2 x hx).1; simp; omega)
    have OZ := Lib.hid ow6; clear ow6 f6 hlow; clear q; obtain ⟨r0, r1, r2, r3, r4⟩ := Lr.a5; obtain ⟨rf0, rf1, rf2, rf3, rf4⟩ := Lr.b5; go_wp2_with fail; refine bodyPost_ret (v := .tuple #[.agg #[.int .i64 n, .slice D1 cs.length e1, .slice D2 pl.length e2, .slice D3 ds.length e3, .int .i64 m], .bool false]) (by simp [results, Tryz.results116, go_sem, *]) rfl (zf0 (fun hh => absurd (show zau n' m' cs' pl' ds' = true from hh.2.2) (by rw [hq'.out]; simp)) ⟨_, _, _, T, rfl, ?_, ?_, ?_⟩)
    ·exact OZ.out.chg (T := [w.heap.size + 1 + 1]) (cS) (fun x hx hx' => DZ.out x hx (by simp at hx'; subst hx'; simp))
    ·exact zaa FZ.out (by omega) (by simp)
    ·exact Below.chg hb (S := [w.heap.size + 1 + 1]) (cS) hb.size (fun x hx => by simp at hx; omega)
 ·skip
  have Lc : Loc W1 (w.heap.size) [.int .i64 n, .slice A1 cs.length n1, .slice A2 pl.length n2, .slice A3 ds.length n3, .int .i64 m] := by have := (((Loc.new w #[.int .i64 n, .slice A1 cs.length n1, .slice A2 pl.length n2, .slice A3 ds.length n3, .int .i64 m] 39).alloc _).alloc _).below q; simpa using this
  have Ld : Loc W1 (w.heap.size + 1) [.int .i64 n', .slice B1 cs'.length k1, .slice B2 pl'.length k2, .slice B3 ds'.length k3, .int .i64 m'] := by have := ((Loc.new (w.alloc (.cells #[.int .i64 n, .slice A1 cs.length n1, .slice A2 pl.length n2, .slice A3 ds.length n3, .int .i64 m] 39)) #[.int .i64 n', .slice B1 cs'.length k1, .slice B2 pl'.length k2, .slice B3 ds'.length k3, .int .i64 m'] 39).alloc _).below q; simpa using this
  have Lr : Loc W1 (w.heap.size + 1 + 1) [.int .i64 0, .slice none 0 0, .slice none 0 0, .slice none 0 0, .int .i64 0] := by have := (Loc.new ((w.alloc (.cells #[.int .i64 n, .slice A1 cs.length n1, .slice A2 pl.length n2, .slice A3 ds.length n3, .int .i64 m] 39)).alloc (.cells #[.int .i64 n', .slice B1 cs'.length k1, .slice B2 pl'.length k2, .slice B3 ds'.length k3, .int .i64 m'] 39)) #[.int .i64 0, .slice none 0 0, .slice none 0 0, .slice none 0 0, .int .i64 0] 39).below q; simpa using this
  have hb : Below w.heap.size w W1 := Below.trans (bM) (q.mono (by simp <;> omega))
  have hz0 : w.heap.size + 1 + 1 + 1 <= W1.heap.size := by have := q.size; simp at this; omega
  clear q; have OK : Hid (zai W1 S _ _ _ cs' pl' ds') := Lib.hid (Hok.out.below hb); have FK : Hid (zbc B W1 S) := Lib.hid (zaa hf (Nat.le_refl _) hb.size); have DK : Hid (∀ x ∈ S, x ∉ [w.heap.size, w.heap.size + 1, w.heap.size + 1 + 1]) := (fun x hx => by have := (hf.2 x hx).2; simp; omega)
  cases ok
  ·skip
   obtain ⟨c0, c1, c2, c3, c4⟩ := Lc.a5; go_wp2_with fail; refine (zay n m _ _ _ cs pl ds _ (h.below hb) hsz).mono ?_; rintro e W2 ⟨y1, y2, y3, T, rfl, ow6, f6, q⟩; clear c0 c1 c2 c3 c4; obtain ⟨⟨D1, e1, rfl⟩, ⟨D2, e2, rfl⟩, ⟨D3, e3, rfl⟩⟩ := ow6.rd.forms; have hzq : W1.heap.size <= W2.heap.size := by have := q.size; (try simp at this); omega
   replace Lc := Lc.below q; replace Ld := Ld.below q; replace Lr := Lr.below q; replace OK := Lib.hid (OK.out.below q); replace FK := Lib.hid (zaa (w' := W2) FK.out (Nat.le_refl _) hzq); replace hb : Below w.heap.size w W2 := hb.trans (q.mono hb.size); have hlow : W1.heap.size <= W1.heap.size := by first | exact Nat.le_refl _ | (simp; done) | (simp; omega) | omega
   have FZ := Lib.hid (zaa f6 hlow (Nat.le_refl _)); have DZ : Hid (∀ x ∈ T, x ∉ [w.heap.size, w.heap.size + 1, w.heap.size + 1 + 1]) := (fun x hx => by have := (FZ.out.2 x hx).1; simp; omega)
   have OZ := Lib.hid ow6; clear ow6 f6 hlow; clear q; obtain ⟨r0, r1, r2, r3, r4⟩ := Lr.a5; obtain ⟨rf0, rf1, rf2, rf3, rf4⟩ := Lr.b5; go_wp2_with fail; refine bodyPost_ret (v := .tuple #[.agg #[.int .i64 n, .slice D1 cs.length e1, .slice D2 pl.length e2, .slice D3 ds.length e3, .int .i64 m], .bool false]) (by simp [results, Tryz.results116, go_sem, *]) rfl (zf0 (fun hh => absurd (show zau n m cs pl ds = true from hh.1) (by rw [hq.out]; simp)) ⟨_, _, _, T, rfl, ?_, ?_, ?_⟩)
   ·exact OZ.out.chg (T := [w.heap.size + 1 + 1]) (cS) (fun x hx hx' => DZ.out x hx (by simp at hx'; subst hx'; simp))
   ·exact zaa FZ.out (by omega) (by simp)
   ·exact Below.chg hb (S := [w.heap.size + 1 + 1]) (cS) hb.size (fun x hx => by simp at hx; omega)
  ·skip
   obtain ⟨c0, c1, c2, c3, c4⟩ := Lc.a5; go_wp2_with fail; refine (zay n m _ _ _ cs pl ds _ (h.below hb) hsz).mono ?_; rintro e W2 ⟨y1, y2, y3, T, rfl, ow6, f6, q⟩; clear c0 c1 c2 c3 c4; obtain ⟨⟨D1, e1, rfl⟩, ⟨D2, e2, rfl⟩, ⟨D3, e3, rfl⟩⟩ := ow6.rd.forms; have hzq : W1.heap.size <= W2.heap.size := by have := q.size; (try simp at this); omega
   replace Lc := Lc.below q; replace Ld := Ld.below q; replace Lr := Lr.below q; replace OK := Lib.hid (OK.out.below q); replace FK := Lib.hid (zaa (w' := W2) FK.out (Nat.le_refl _) hzq); replace hb : Below w.heap.size w W2 := hb.trans (q.mono hb.size); have hlow : W1.heap.size <= W1.heap.size := by first | exact Nat.le_refl _ | (simp; done) | (simp; omega) | omega
   have FZ := Lib.hid (zaa f6 hlow (Nat.le_refl _)); have DZ : Hid (∀ x ∈ T, x ∉ [w.heap.size, w.heap.size + 1, w.heap.size + 1 + 1]) := (fun x hx => by have := (FZ.out.2 x hx).1; simp; omega)
   have OZ := Lib.hid ow6; clear ow6 f6 hlow; clear q; obtain ⟨r0, r1, r2, r3, r4⟩ := Lr.a5; obtain ⟨rf0, rf1, rf2, rf3, rf4⟩ := Lr.b5; go_wp2_with fail; refine bodyPost_ret (v := .tuple #[.agg #[.int .i64 n, .slice D1 cs.length e1, .slice D2 pl.length e2, .slice D3 ds.length e3, .int .i64 m], .bool false]) (by simp [results, Tryz.results116, go_sem, *]) rfl (zf0 (fun hh => absurd (show zau n m cs pl ds = true from hh.1) (by rw [hq.out]; simp)) ⟨_, _, _, T, rfl, ?_, ?_, ?_⟩)
   ·exact OZ.out.chg (T := [w.heap.size + 1 + 1]) (cS) (fun x hx hx' => DZ.out x hx (by simp at hx'; subst hx'; simp))
   ·exact zaa FZ.out (by omega) (by simp)
   ·exact Below.chg hb (S := [w.heap.size + 1 + 1]) (cS) hb.size (fun x hx => by simp at hx; omega)
def zfz (t : Th) (a : Int) (f : Bool) : Th × Bool := becF t ⟨t.n, t.m, zdi t.n t.cs t.pl [(a, f)], t.pl, t.ds⟩ (zcq t.n t.cs t.pl [(a, f)])
theorem zx1 {n m : Int} {cs l : List zad} {pl : List RPl} {ds : List Int} (h : zau n m cs pl ds = true) (hw : zcq n cs pl l = true) : zau n m (zdi n cs pl l) pl ds = true := by
 rw [zdi, hw]; rw [zcq, Bool.and_eq_true] at hw; unfold zau at h ⊢; rw [Bool.and_eq_true, Bool.and_eq_true] at h ⊢; exact ⟨⟨hw.2, h.1.2⟩, h.2⟩
theorem zds {n m n' m' : Int} {v1 v2 v3 y1 y2 y3 : Value} {cs cs' : List zad} {pl pl' : List RPl} {ds ds' : List Int} {ok : Bool} {B : Nat} {S : List Nat} {rn rm : Int} {rcs : List zad} {rpl : List RPl} {rds : List Int} {rb : Bool} {w : World}
  (hr : becF ⟨n, m, cs, pl, ds⟩ ⟨n', m', cs', pl', ds'⟩ ok = (⟨rn, rm, rcs, rpl, rds⟩, rb)) (h : zak w v1 v2 v3 cs pl ds) (hsz : zas cs pl ds <= 1048576) (how : zai w S y1 y2 y3 cs' pl' ds') (hf : zbc B w S) (hB : B <= w.heap.size) :
  Calls Tryz.prog 116 #[.agg #[.int .i64 n, v1, v2, v3, .int .i64 m], .agg #[.int .i64 n', y1, y2, y3, .int .i64 m'], .bool ok] w (RetT B rn rm rb rcs rpl rds w) := by
 have := zqg n m n' m' v1 v2 v3 y1 y2 y3 cs cs' pl pl' ds ds' ok B S w h hsz how hf hB; rw [hr] at this; exact this
theorem zeq (n m a : Int) (f : Bool) (v1 v2 v3 : Value) (cs : List zad) (pl : List RPl) (ds : List Int) (w : World) (h : zak w v1 v2 v3 cs pl ds) (hsz : zas cs pl ds <= 1048576) :
  Calls Tryz.prog 80 #[.agg #[.int .i64 n, v1, v2, v3, .int .i64 m], .int .i64 a, .bool f] w (zhf w.heap.size (zfz ⟨n, m, cs, pl, ds⟩ a f) w) := by
 obtain ⟨⟨A1, n1, rfl⟩, ⟨A2, n2, rfl⟩, ⟨A3, n3, rfl⟩⟩ := h.forms; have hszc : zam cs pl <= 1048576 := by unfold zas at hsz; omega
 unfold zfz; obtain ⟨⟨⟨rn, rm, rcs, rpl, rds⟩, rb⟩, hres⟩ : ∃ res, becF ⟨n, m, cs, pl, ds⟩ ⟨n, m, zdi n cs pl [(a, f)], pl, ds⟩ (zcq n cs pl [(a, f)]) = res := ⟨_, rfl⟩; rw [hres]; change Calls _ _ _ _ (RetT w.heap.size rn rm rb rcs rpl rds w); have Hres := Lib.hid hres; clear hres
 go_enter Tryz.func80, Tryz.ntmps80
 go_wp2_with fail; refine (zay n m _ _ _ cs pl ds _ (h.below (bM)) hsz).mono ?_
 rintro e W1 ⟨x1, x2, x3, S, rfl, ow, f1, q⟩; obtain ⟨⟨B1, k1, rfl⟩, ⟨B2, k2, rfl⟩, ⟨B3, k3, rfl⟩⟩ := ow.rd.forms; have Lc : Loc W1 (w.heap.size) [.int .i64 n, .slice A1 cs.length n1, .slice A2 pl.length n2, .slice A3 ds.length n3, .int .i64 m] := by have := ((Loc.new w #[.int .i64 n, .slice A1 cs.length n1, .slice A2 pl.length n2, .slice A3 ds.length n3, .int .i64 m] 39).alloc _).below q; simpa using this
 have Lr : Loc W1 (w.heap.size + 1) [.int .i64 0, .slice none 0 0, .slice none 0 0, .slice none 0 0, .int .i64 0] := by have := (Loc.new (w.alloc (.cells #[.int .i64 n, .slice A1 cs.length n1, .slice A2 pl.length n2, .slice A3 ds.length n3, .int .i64 m] 39)) #[.int .i64 0, .slice none 0 0, .slice none 0 0, .slice none 0 0, .int .i64 0] 39).below q; simpa using this
 have hb : Below w.heap.size w W1 := Below.trans (bM) (q.mono (by simp <;> omega))
 have hz0 : w.heap.size + 1 + 1 <= W1.heap.size := by have := q.size; simp at this; omega
 have hlow : w.heap.size + 1 + 1 <= (((w.alloc (.cells #[.int .i64 n, .slice A1 cs.length n1, .slice A2 pl.length n2, .slice A3 ds.length n3, .int .i64 m] 39)).alloc (.cells #[.int .i64 0, .slice none 0 0, .slice none 0 0, .slice none 0 0, .int .i64 0] 39))).heap.size := by first | exact Nat.le_refl _ | (simp; done) | (simp; omega) | omega
 have FK := Lib.hid (zaa f1 hlow (Nat.le_refl _)); have DK : Hid (∀ x ∈ S, x ∉ [w.heap.size, w.heap.size + 1]) := (fun x hx => by have := (FK.out.2 x hx).1; simp; omega)
 have OK := Lib.hid ow; clear ow f1 hlow; clear q
 go_upto_region 2 with (fail)
 replace Lc : Loc (W1.alloc (.cells #[.int .i64 n, .slice B1 cs.length k1, .slice B2 pl.length k2, .slice B3 ds.length k3, .int .i64 m] 39)) (w.heap.size) [.int .i64 n, .slice A1 cs.length n1, .slice A2 pl.length n2, .slice A3 ds.length n3, .int .i64 m] := Lc.alloc _; replace Lr : Loc (W1.alloc (.cells #[.int .i64 n, .slice B1 cs.length k1, .slice B2 pl.length k2, .slice B3 ds.length k3, .int .i64 m] 39)) (w.heap.size + 1) [.int .i64 0, .slice none 0 0, .slice none 0 0, .slice none 0 0, .int .i64 0] := Lr.alloc _; obtain ⟨go, hgo⟩ : ∃ g, W1.heap.size = g := ⟨_, rfl⟩; have Lo : Loc (W1.alloc (.cells #[.int .i64 n, .slice B1 cs.length k1, .slice B2 pl.length k2, .slice B3 ds.length k3, .int .i64 m] 39)) W1.heap.size [.int .i64 n, .slice B1 cs.length k1, .slice B2 pl.length k2, .slice B3 ds.length k3, .int .i64 m] := Loc.new W1 #[.int .i64 n, .slice B1 cs.length k1, .slice B2 pl.length k2, .slice B3 ds.length k3, .int .i64 m] 39
 rw [hgo] at Lo; replace OK := Lib.hid (OK.out.below (w' := (W1.alloc (.cells #[.int .i64 n, .slice B1 cs.length k1, .slice B2 pl.length k2, .slice B3 ds.length k3, .int .i64 m] 39))) ((Below.refl _ _).alloc (Nat.le_refl _) _)); replace DK : Hid (∀ x ∈ S, x ∉ [w.heap.size, w.heap.size + 1, go]) := (fun x hx => by have := DK.out x hx; have := (FK.out.2 x hx).2; simp at *; omega)
 replace FK := Lib.hid (zaa (w' := (W1.alloc (.cells #[.int .i64 n, .slice B1 cs.length k1, .slice B2 pl.length k2, .slice B3 ds.length k3, .int .i64 m] 39))) FK.out (Nat.le_refl _) (by simp))
 replace hb : Below w.heap.size w (W1.alloc (.cells #[.int .i64 n, .slice B1 cs.length k1, .slice B2 pl.length k2, .slice B3 ds.length k3, .int .i64 m] 39)) := hb.alloc hb.size _; have hlto : go < (W1.alloc (.cells #[.int .i64 n, .slice B1 cs.length k1, .slice B2 pl.length k2, .slice B3 ds.length k3, .int .i64 m] 39)).heap.size := by simp; omega
 have hne_c_o : w.heap.size < go := by omega
 have hne_r_o : w.heap.size + 1 < go := by omega
 generalize W1.alloc (.cells #[.int .i64 n, .slice B1 cs.length k1, .slice B2 pl.length k2, .slice B3 ds.length k3, .int .i64 m] 39) = W2 at *
 rw [hgo]; clear hgo; obtain ⟨SK1, SK3, eK, oK, pK⟩ := OK.out; have FKx := FK.out; have DKx := DK.out; rw [eK] at FKx DKx; have OK1 := Lib.hid oK; have OK3 := Lib.hid pK; have FK1 := Lib.hid (zbp FKx); have FK3 := Lib.hid (za9 FKx); have DK1 : Hid (∀ x ∈ SK1, x ∉ [w.heap.size, w.heap.size + 1, go]) := (fun x hx => DKx x (List.mem_append_left _ hx))
 have DK3 : Hid (∀ x ∈ SK3, x ∉ [w.heap.size, w.heap.size + 1, go]) := (fun x hx => DKx x (List.mem_append_right _ hx))
 have JK : Hid (∀ x ∈ SK1, x ∉ SK3) := (zcm FKx.1).2.2.1; clear OK FK DK FKx DKx oK pK; have hU : ∀ x ∈ SK3, x < W2.heap.size := fun x hx => (FK3.out.2 x hx).2
 obtain ⟨o0, o1, o2, o3, o4⟩ := Lo.a5; go_wp2_with fail; refine (ziq n a f _ _ cs pl _ OK1.out.rd hszc).mono ?_; rintro e W3 ⟨x4, x5, SX, rfl, ox, fx, q⟩; clear o0 o1 o2 o3 o4; obtain ⟨⟨C1, l1, rfl⟩, ⟨C2, l2, rfl⟩⟩ := ox.rd.forms; have hzq : W2.heap.size <= W3.heap.size := by have := q.size; (try simp at this); omega
 replace Lc := Lc.below q; replace Lr := Lr.below q; replace Lo := Lo.below q; replace OK1 := Lib.hid (OK1.out.below q); replace FK1 := Lib.hid (zaa (w' := W3) FK1.out (Nat.le_refl _) hzq); replace OK3 := Lib.hid (OK3.out.below q); replace FK3 := Lib.hid (zaa (w' := W3) FK3.out (Nat.le_refl _) hzq); replace hb : Below w.heap.size w W3 := hb.trans (q.mono hb.size); have hlow : W2.heap.size <= W2.heap.size := by first | exact Nat.le_refl _ | (simp; done) | (simp; omega) | omega
 have FX := Lib.hid (zaa fx hlow (Nat.le_refl _)); have DX : Hid (∀ x ∈ SX, x ∉ [w.heap.size, w.heap.size + 1, go]) := (fun x hx => by have := (FX.out.2 x hx).1; simp; omega)
 have OX := Lib.hid ox; clear ox fx hlow; clear q; generalize zcq n cs pl [(a, f)] = okc at *
 generalize zdi n cs pl [(a, f)] = cs' at *
 have hJ : ∀ x ∈ SX, x ∉ SK3 := fun x hx hx' => by have := (FX.out.2 x hx).1; have := hU x hx'; omega
 have HJ := Lib.hid hJ; clear hJ hU; clear OK1 FK1 DK1
 go_upto_region 3 with (fail)
 replace Lc : Loc (W3.alloc (.cells #[.int .i64 n, .slice C1 cs'.length l1, .slice C2 pl.length l2] 36)) (w.heap.size) [.int .i64 n, .slice A1 cs.length n1, .slice A2 pl.length n2, .slice A3 ds.length n3, .int .i64 m] := Lc.alloc _; replace Lr : Loc (W3.alloc (.cells #[.int .i64 n, .slice C1 cs'.length l1, .slice C2 pl.length l2] 36)) (w.heap.size + 1) [.int .i64 0, .slice none 0 0, .slice none 0 0, .slice none 0 0, .int .i64 0] := Lr.alloc _; replace Lo : Loc (W3.alloc (.cells #[.int .i64 n, .slice C1 cs'.length l1, .slice C2 pl.length l2] 36)) (go) [.int .i64 n, .slice B1 cs.length k1, .slice B2 pl.length k2, .slice B3 ds.length k3, .int .i64 m] := Lo.alloc _; obtain ⟨gp, hgp⟩ : ∃ g, W3.heap.size = g := ⟨_, rfl⟩; have Lp : Loc (W3.alloc (.cells #[.int .i64 n, .slice C1 cs'.length l1, .slice C2 pl.length l2] 36)) W3.heap.size [.int .i64 n, .slice C1 cs'.length l1, .slice C2 pl.length l2] := Loc.new W3 #[.int .i64 n, .slice C1 cs'.length l1, .slice C2 pl.length l2] 36
 rw [hgp] at Lp; replace OK3 := Lib.hid (OK3.out.below (w' := (W3.alloc (.cells #[.int .i64 n, .slice C1 cs'.length l1, .slice C2 pl.length l2] 36))) ((Below.refl _ _).alloc (Nat.le_refl _) _)); replace OX := Lib.hid (OX.out.below (w' := (W3.alloc (.cells #[.int .i64 n, .slice C1 cs'.length l1, .slice C2 pl.length l2] 36))) ((Below.refl _ _).alloc (Nat.le_refl _) _)); replace DK3 : Hid (∀ x ∈ SK3, x ∉ [w.heap.size, w.heap.size + 1, go, gp]) := (fun x hx => by have := DK3.out x hx; have := (FK3.out.2 x hx).2; simp at *; omega)
 replace FK3 := Lib.hid (zaa (w' := (W3.alloc (.cells #[.int .i64 n, .slice C1 cs'.length l1, .slice C2 pl.length l2] 36))) FK3.out (Nat.le_refl _) (by simp))
 replace DX : Hid (∀ x ∈ SX, x ∉ [w.heap.size, w.heap.size + 1, go, gp]) := (fun x hx => by have := DX.out x hx; have := (FX.out.2 x hx).2; simp at *; omega)
 replace FX := Lib.hid (zaa (w' := (W3.alloc (.cells #[.int .i64 n, .slice C1 cs'.length l1, .slice C2 pl.length l2] 36))) FX.out (Nat.le_refl _) (by simp))
 replace hb : Below w.heap.size w (W3.alloc (.cells #[.int .i64 n, .slice C1 cs'.length l1, .slice C2 pl.length l2] 36)) := hb.alloc hb.size _; have hltp : gp < (W3.alloc (.cells #[.int .i64 n, .slice C1 cs'.length l1, .slice C2 pl.length l2] 36)).heap.size := by simp; omega
 have hne_c_p : w.heap.size < gp := by omega
 have hne_r_p : w.heap.size + 1 < gp := by omega
 have hne_o_p : go < gp := by omega
 generalize W3.alloc (.cells #[.int .i64 n, .slice C1 cs'.length l1, .slice C2 pl.length l2] 36) = W4 at *
 rw [hgp]; clear hgp; obtain ⟨p0, p1, p2⟩ := Lp.a3; obtain ⟨o0, o1, o2, o3, o4⟩ := Lo.a5; obtain ⟨of0, of1, of2, of3, of4⟩ := Lo.b5
 go_upto_region 4 with (fail)
 clear p0 p1 p2 o0 of0 o1 of1 o2 of2 o3 of3 o4 of4; replace Lc := Lc.far (g := go) (i := 0) (u := .int .i64 n) (by omega)
 replace Lr := Lr.far (g := go) (i := 0) (u := .int .i64 n) (by omega)
 replace Lp := Lp.far (g := go) (i := 0) (u := .int .i64 n) (by omega)
 replace Lo : Loc (W4.setCell ⟨go, 0, none⟩ (.int .i64 n)) (go) [.int .i64 n, .slice B1 cs.length k1, .slice B2 pl.length k2, .slice B3 ds.length k3, .int .i64 m] := Lo.set (i := 0) (v := .int .i64 n) rfl; have hch : Chg [go] W4 (W4.setCell ⟨go, 0, none⟩ (.int .i64 n)) := zav (Chg.refl _ _) (by simp)
 replace OK3 := Lib.hid (OK3.out.chg hch (fun x hx hx' => DK3.out x hx (by simp at hx'; subst hx'; simp)))
 replace FK3 := Lib.hid (zaa (w' := (W4.setCell ⟨go, 0, none⟩ (.int .i64 n))) FK3.out (Nat.le_refl _) hch.size); replace OX := Lib.hid (OX.out.chg hch (fun x hx hx' => DX.out x hx (by simp at hx'; subst hx'; simp)))
 replace FX := Lib.hid (zaa (w' := (W4.setCell ⟨go, 0, none⟩ (.int .i64 n))) FX.out (Nat.le_refl _) hch.size); replace hb : Below w.heap.size w (W4.setCell ⟨go, 0, none⟩ (.int .i64 n)) := Below.chg hb hch hb.size (by simp; omega)
 have hzc := hch.size; clear hch; generalize W4.setCell ⟨go, 0, none⟩ (.int .i64 n) = W5 at *
 replace Lc := Lc.far (g := go) (i := 1) (u := .slice C1 cs'.length l1) (by omega)
 replace Lr := Lr.far (g := go) (i := 1) (u := .slice C1 cs'.length l1) (by omega)
 replace Lp := Lp.far (g := go) (i := 1) (u := .slice C1 cs'.length l1) (by omega)
 replace Lo : Loc (W5.setCell ⟨go, 1, none⟩ (.slice C1 cs'.length l1)) (go) [.int .i64 n, .slice C1 cs'.length l1, .slice B2 pl.length k2, .slice B3 ds.length k3, .int .i64 m] := Lo.set (i := 1) (v := .slice B1 cs.length k1) rfl; have hch : Chg [go] W5 (W5.setCell ⟨go, 1, none⟩ (.slice C1 cs'.length l1)) := zav (Chg.refl _ _) (by simp)
 replace OK3 := Lib.hid (OK3.out.chg hch (fun x hx hx' => DK3.out x hx (by simp at hx'; subst hx'; simp)))
 replace FK3 := Lib.hid (zaa (w' := (W5.setCell ⟨go, 1, none⟩ (.slice C1 cs'.length l1))) FK3.out (Nat.le_refl _) hch.size); replace OX := Lib.hid (OX.out.chg hch (fun x hx hx' => DX.out x hx (by simp at hx'; subst hx'; simp)))
 replace FX := Lib.hid (zaa (w' := (W5.setCell ⟨go, 1, none⟩ (.slice C1 cs'.length l1))) FX.out (Nat.le_refl _) hch.size); replace hb : Below w.heap.size w (W5.setCell ⟨go, 1, none⟩ (.slice C1 cs'.length l1)) := Below.chg hb hch hb.size (by simp; omega)
 have hzc := hch.size; clear hch; generalize W5.setCell ⟨go, 1, none⟩ (.slice C1 cs'.length l1) = W6 at *
 replace Lc := Lc.far (g := go) (i := 2) (u := .slice C2 pl.length l2) (by omega)
 replace Lr := Lr.far (g := go) (i := 2) (u := .slice C2 pl.length l2) (by omega)
 replace Lp := Lp.far (g := go) (i := 2) (u := .slice C2 pl.length l2) (by omega)
 replace Lo : Loc (W6.setCell ⟨go, 2, none⟩ (.slice C2 pl.length l2)) (go) [.int .i64 n, .slice C1 cs'.length l1, .slice C2 pl.length l2, .slice B3 ds.length k3, .int .i64 m] := Lo.set (i := 2) (v := .slice B2 pl.length k2) rfl; have hch : Chg [go] W6 (W6.setCell ⟨go, 2, none⟩ (.slice C2 pl.length l2)) := zav (Chg.refl _ _) (by simp)
 replace OK3 := Lib.hid (OK3.out.chg hch (fun x hx hx' => DK3.out x hx (by simp at hx'; subst hx'; simp)))
 replace FK3 := Lib.hid (zaa (w' := (W6.setCell ⟨go, 2, none⟩ (.slice C2 pl.length l2))) FK3.out (Nat.le_refl _) hch.size); replace OX := Lib.hid (OX.out.chg hch (fun x hx hx' => DX.out x hx (by simp at hx'; subst hx'; simp)))
 replace FX := Lib.hid (zaa (w' := (W6.setCell ⟨go, 2, none⟩ (.slice C2 pl.length l2))) FX.out (Nat.le_refl _) hch.size); replace hb : Below w.heap.size w (W6.setCell ⟨go, 2, none⟩ (.slice C2 pl.length l2)) := Below.chg hb hch hb.size (by simp; omega)
 have hzc := hch.size; clear hch; generalize W6.setCell ⟨go, 2, none⟩ (.slice C2 pl.length l2) = W7 at *
 replace FX := Lib.hid (zaa (B' := w.heap.size + 1 + 1) FX.out (by omega) (Nat.le_refl _))
 have OP : zai W7 (SX ++ SK3) (.slice C1 cs'.length l1) (.slice C2 pl.length l2) (.slice B3 ds.length k3) cs' pl ds := ⟨_, _, rfl, OX.out, OK3.out⟩; have FQ := Lib.hid (zbf FX.out FK3.out (HJ.out)); have DQ : Hid (∀ x ∈ SX ++ SK3, x ∉ [w.heap.size, w.heap.size + 1, go, gp]) := (fun x hx => (List.mem_append.1 hx).elim (DX.out x) (DK3.out x))
 have OQ := Lib.hid (OP); clear OX FX DX OK3 FK3 DK3; obtain ⟨SQ, hSQ⟩ : ∃ T, SX ++ SK3 = T := ⟨_, rfl⟩; rw [hSQ] at OQ FQ DQ; clear hSQ; clear OP; obtain ⟨c0, c1, c2, c3, c4⟩ := Lc.a5; obtain ⟨o0, o1, o2, o3, o4⟩ := Lo.a5; go_wp2_with fail; refine (zds (B := w.heap.size + 1 + 1) (S := SQ) Hres.out (h.below hb) hsz OQ.out FQ.out (by have := hb.size; omega)).mono ?_
 rintro e W8 ⟨z1, z2, z3, T, rfl, owr, fr, q⟩; clear c0 c1 c2 c3 c4 o0 o1 o2 o3 o4; obtain ⟨⟨Z1, e1, rfl⟩, ⟨Z2, e2, rfl⟩, ⟨Z3, e3, rfl⟩⟩ := owr.rd.forms; have hzq : W7.heap.size <= W8.heap.size := by have := q.size; (try simp at this); omega
 replace Lc := Lc.below q; replace Lr := Lr.below q; replace Lo := Lo.below q; replace Lp := Lp.below q; replace OQ := Lib.hid (OQ.out.below q); replace FQ := Lib.hid (zaa (w' := W8) FQ.out (Nat.le_refl _) hzq); replace hb : Below w.heap.size w W8 := hb.trans (q.mono hb.size); clear q; have FR := Lib.hid fr; have OR := Lib.hid owr; clear fr owr Hres; obtain ⟨r0, r1, r2, r3, r4⟩ := Lr.a5; obtain ⟨rf0, rf1, rf2, rf3, rf4⟩ := Lr.b5; go_wp2_with fail; refine bodyPost_ret (v := .tuple #[.agg #[.int .i64 rn, .slice Z1 rcs.length e1, .slice Z2 rpl.length e2, .slice Z3 rds.length e3, .int .i64 rm], .bool rb]) (by simp [results, Tryz.results80, go_sem, *]) rfl ⟨_, _, _, T, rfl, ?_, ?_, ?_⟩
 ·exact OR.out.chg (T := [w.heap.size + 1]) (cS) (fun x hx hx' => by have := (FR.out.2 x hx).1; simp at hx'; omega)
 ·exact zaa FR.out (by omega) (by simp)
 ·exact Below.chg hb (S := [w.heap.size + 1]) (cS) hb.size (fun x hx => by simp at hx; omega)
theorem ze1 (n m a : Int) (f : Bool) (v1 v2 v3 : Value) (cs : List zad) (pl : List RPl) (ds : List Int) (w : World) (h : zak w v1 v2 v3 cs pl ds) (hsz : zas cs pl ds <= 1048576) :
  Calls Tryz.prog 55 #[.agg #[.int .i64 n, v1, v2, v3, .int .i64 m], .int .i64 a, .bool f] w (zhf w.heap.size (zfz ⟨n, m, cs, pl, ds⟩ a f) w) := by
 obtain ⟨⟨A1, n1, rfl⟩, ⟨A2, n2, rfl⟩, ⟨A3, n3, rfl⟩⟩ := h.forms; have hszc : zam cs pl <= 1048576 := by unfold zas at hsz; omega
 unfold zfz
 go_enter Tryz.func55, Tryz.ntmps55
 go_wp2_with fail; refine (zbr n m _ _ _ cs pl ds _ (h.below (bM)) hsz).mono ?_
 rintro e W1 ⟨x1, x2, x3, S, rfl, ow, f1, q⟩; obtain ⟨⟨B1, k1, rfl⟩, ⟨B2, k2, rfl⟩, ⟨B3, k3, rfl⟩⟩ := ow.rd.forms; have Lc : Loc W1 (w.heap.size) [.int .i64 n, .slice A1 cs.length n1, .slice A2 pl.length n2, .slice A3 ds.length n3, .int .i64 m] := by have := ((Loc.new w #[.int .i64 n, .slice A1 cs.length n1, .slice A2 pl.length n2, .slice A3 ds.length n3, .int .i64 m] 39).alloc _).below q; simpa using this
 have Lr : Loc W1 (w.heap.size + 1) [.int .i64 0, .slice none 0 0, .slice none 0 0, .slice none 0 0, .int .i64 0] := by have := (Loc.new (w.alloc (.cells #[.int .i64 n, .slice A1 cs.length n1, .slice A2 pl.length n2, .slice A3 ds.length n3, .int .i64 m] 39)) #[.int .i64 0, .slice none 0 0, .slice none 0 0, .slice none 0 0, .int .i64 0] 39).below q; simpa using this
 have hb : Below w.heap.size w W1 := Below.trans (bM) (q.mono (by simp <;> omega))
 have hz0 : w.heap.size + 1 + 1 <= W1.heap.size := by have := q.size; simp at this; omega
 have hlow : w.heap.size + 1 + 1 <= (((w.alloc (.cells #[.int .i64 n, .slice A1 cs.length n1, .slice A2 pl.length n2, .slice A3 ds.length n3, .int .i64 m] 39)).alloc (.cells #[.int .i64 0, .slice none 0 0, .slice none 0 0, .slice none 0 0, .int .i64 0] 39))).heap.size := by first | exact Nat.le_refl _ | (simp; done) | (simp; omega) | omega
 have FK := Lib.hid (zaa f1 hlow (Nat.le_refl _)); have DK : Hid (∀ x ∈ S, x ∉ [w.heap.size, w.heap.size + 1]) := (fun x hx => by have := (FK.out.2 x hx).1; simp; omega)
 have OK := Lib.hid ow; clear ow f1 hlow; clear q
 go_upto_region 2 with (fail)
 replace Lc : Loc (W1.alloc (.cells #[.int .i64 n, .slice B1 cs.length k1, .slice B2 pl.length k2, .slice B3 ds.length k3, .int .i64 m] 39)) (w.heap.size) [.int .i64 n, .slice A1 cs.length n1, .slice A2 pl.length n2, .slice A3 ds.length n3, .int .i64 m] := Lc.alloc _; replace Lr : Loc (W1.alloc (.cells #[.int .i64 n, .slice B1 cs.length k1, .slice B2 pl.length k2, .slice B3 ds.length k3, .int .i64 m] 39)) (w.heap.size + 1) [.int .i64 0, .slice none 0 0, .slice none 0 0, .slice none 0 0, .int .i64 0] := Lr.alloc _; obtain ⟨go, hgo⟩ : ∃ g, W1.heap.size = g := ⟨_, rfl⟩; have Lo : Loc (W1.alloc (.cells #[.int .i64 n, .slice B1 cs.length k1, .slice B2 pl.length k2, .slice B3 ds.length k3, .int .i64 m] 39)) W1.heap.size [.int .i64 n, .slice B1 cs.length k1, .slice B2 pl.length k2, .slice B3 ds.length k3, .int .i64 m] := Loc.new W1 #[.int .i64 n, .slice B1 cs.length k1, .slice B2 pl.length k2, .slice B3 ds.length k3, .int .i64 m] 39
 rw [hgo] at Lo; replace OK := Lib.hid (OK.out.below (w' := (W1.alloc (.cells #[.int .i64 n, .slice B1 cs.length k1, .slice B2 pl.length k2, .slice B3 ds.length k3, .int .i64 m] 39))) ((Below.refl _ _).alloc (Nat.le_refl _) _)); replace DK : Hid (∀ x ∈ S, x ∉ [w.heap.size, w.heap.size + 1, go]) := (fun x hx => by have := DK.out x hx; have := (FK.out.2 x hx).2; simp at *; omega)
 replace FK := Lib.hid (zaa (w' := (W1.alloc (.cells #[.int .i64 n, .slice B1 cs.length k1, .slice B2 pl.length k2, .slice B3 ds.length k3, .int .i64 m] 39))) FK.out (Nat.le_refl _) (by simp))
 replace hb : Below w.heap.size w (W1.alloc (.cells #[.int .i64 n, .slice B1 cs.length k1, .slice B2 pl.length k2, .slice B3 ds.length k3, .int .i64 m] 39)) := hb.alloc hb.size _; have hlto : go < (W1.alloc (.cells #[.int .i64 n, .slice B1 cs.length k1, .slice B2 pl.length k2, .slice B3 ds.length k3, .int .i64 m] 39)).heap.size := by simp; omega
 have hne_c_o : w.heap.size < go := by omega
 have hne_r_o : w.heap.size + 1 < go := by omega
 generalize W1.alloc (.cells #[.int .i64 n, .slice B1 cs.length k1, .slice B2 pl.length k2, .slice B3 ds.length k3, .int .i64 m] 39) = W2 at *
 rw [hgo]; clear hgo; obtain ⟨c0, c1, c2, c3, c4⟩ := Lc.a5; go_wp2_with fail; refine twoB (za3 n m _ _ _ cs pl ds _ (h.below hb)) (fun W3 hq q => ?_) (fun W3 hq q => ?_)
 ·skip
  clear c0 c1 c2 c3 c4; have hzq : W2.heap.size <= W3.heap.size := by have := q.size; (try simp at this); omega
  replace Lc := Lc.below q; replace Lr := Lr.below q; replace Lo := Lo.below q; replace OK := Lib.hid (OK.out.below q); replace FK := Lib.hid (zaa (w' := W3) FK.out (Nat.le_refl _) hzq); replace hb : Below w.heap.size w W3 := hb.trans (q.mono hb.size); clear q; obtain ⟨c0, c1, c2⟩ := Lc.a3; have hU : ∀ x ∈ S, x < W3.heap.size := fun x hx => (FK.out.2 x hx).2
  go_wp2_with fail; refine (zi2 n a f _ _ cs pl _ ((h.below hb).1) hszc).mono ?_; rintro e W4 ⟨x4, x5, SX, rfl, ox, fx, q⟩; clear c0 c1 c2; obtain ⟨⟨C1, l1, rfl⟩, ⟨C2, l2, rfl⟩⟩ := ox.rd.forms; have hzq : W3.heap.size <= W4.heap.size := by have := q.size; (try simp at this); omega
  replace Lc := Lc.below q; replace Lr := Lr.below q; replace Lo := Lo.below q; replace OK := Lib.hid (OK.out.below q); replace FK := Lib.hid (zaa (w' := W4) FK.out (Nat.le_refl _) hzq); replace hb : Below w.heap.size w W4 := hb.trans (q.mono hb.size); have hlow : W3.heap.size <= W3.heap.size := by first | exact Nat.le_refl _ | (simp; done) | (simp; omega) | omega
  have FX := Lib.hid (zaa fx hlow (Nat.le_refl _)); have DX : Hid (∀ x ∈ SX, x ∉ [w.heap.size, w.heap.size + 1, go]) := (fun x hx => by have := (FX.out.2 x hx).1; simp; omega)
  have OX := Lib.hid ox; clear ox fx hlow; clear q; have Hw := Lib.hid (fun (h : zau n m cs pl ds = true) (hw : zcq n cs pl [(a, f)] = true) => zx1 h hw)
  generalize zcq n cs pl [(a, f)] = okc at *
  generalize zdi n cs pl [(a, f)] = cs' at *
  have hJ : ∀ x ∈ SX, x ∉ S := fun x hx hx' => by have := (FX.out.2 x hx).1; have := hU x hx'; omega
  have HJ := Lib.hid hJ; clear hJ hU
  go_upto_region 5 with (fail)
  replace Lc : Loc (W4.alloc (.cells #[.int .i64 n, .slice C1 cs'.length l1, .slice C2 pl.length l2] 36)) (w.heap.size) [.int .i64 n, .slice A1 cs.length n1, .slice A2 pl.length n2, .slice A3 ds.length n3, .int .i64 m] := Lc.alloc _; replace Lr : Loc (W4.alloc (.cells #[.int .i64 n, .slice C1 cs'.length l1, .slice C2 pl.length l2] 36)) (w.heap.size + 1) [.int .i64 0, .slice none 0 0, .slice none 0 0, .slice none 0 0, .int .i64 0] := Lr.alloc _; replace Lo : Loc (W4.alloc (.cells #[.int .i64 n, .slice C1 cs'.length l1, .slice C2 pl.length l2] 36)) (go) [.int .i64 n, .slice B1 cs.length k1, .slice B2 pl.length k2, .slice B3 ds.length k3, .int .i64 m] := Lo.alloc _; obtain ⟨gp, hgp⟩ : ∃ g, W4.heap.size = g := ⟨_, rfl⟩; have Lp : Loc (W4.alloc (.cells #[.int .i64 n, .slice C1 cs'.length l1, .slice C2 pl.length l2] 36)) W4.heap.size [.int .i64 n, .slice C1 cs'.length l1, .slice C2 pl.length l2] := Loc.new W4 #[.int .i64 n, .slice C1 cs'.length l1, .slice C2 pl.length l2] 36
  rw [hgp] at Lp; replace OK := Lib.hid (OK.out.below (w' := (W4.alloc (.cells #[.int .i64 n, .slice C1 cs'.length l1, .slice C2 pl.length l2] 36))) ((Below.refl _ _).alloc (Nat.le_refl _) _)); replace OX := Lib.hid (OX.out.below (w' := (W4.alloc (.cells #[.int .i64 n, .slice C1 cs'.length l1, .slice C2 pl.length l2] 36))) ((Below.refl _ _).alloc (Nat.le_refl _) _)); replace DK : Hid (∀ x ∈ S, x ∉ [w.heap.size, w.heap.size + 1, go, gp]) := (fun x hx => by have := DK.out x hx; have := (FK.out.2 x hx).2; simp at *; omega)
  replace FK := Lib.hid (zaa (w' := (W4.alloc (.cells #[.int .i64 n, .slice C1 cs'.length l1, .slice C2 pl.length l2] 36))) FK.out (Nat.le_refl _) (by simp))
  replace DX : Hid (∀ x ∈ SX, x ∉ [w.heap.size, w.heap.size + 1, go, gp]) := (fun x hx => by have := DX.out x hx; have := (FX.out.2 x hx).2; simp at *; omega)
  replace FX := Lib.hid (zaa (w' := (W4.alloc (.cells #[.int .i64 n, .slice C1 cs'.length l1, .slice C2 pl.length l2] 36))) FX.out (Nat.le_refl _) (by simp))
  replace hb : Below w.heap.size w (W4.alloc (.cells #[.int .i64 n, .slice C1 cs'.length l1, .slice C2 pl.length l2] 36)) := hb.alloc hb.size _; have hltp : gp < (W4.alloc (.cells #[.int .i64 n, .slice C1 cs'.length l1, .slice C2 pl.length l2] 36)).heap.size := by simp; omega
  have hne_c_p : w.heap.size < gp := by omega
  have hne_r_p : w.heap.size + 1 < gp := by omega
  have hne_o_p : go < gp := by omega
  generalize W4.alloc (.cells #[.int .i64 n, .slice C1 cs'.length l1, .slice C2 pl.length l2] 36) = W5 at *
  rw [hgp]; clear hgp
  cases okc
  ·skip
   obtain ⟨o0, o1, o2, o3, o4⟩ := Lo.a5; obtain ⟨r0, r1, r2, r3, r4⟩ := Lr.a5; obtain ⟨rf0, rf1, rf2, rf3, rf4⟩ := Lr.b5; go_wp2_with fail; refine bodyPost_ret (v := .tuple #[.agg #[.int .i64 n, .slice B1 cs.length k1, .slice B2 pl.length k2, .slice B3 ds.length k3, .int .i64 m], .bool false]) (by simp [results, Tryz.results55, go_sem, *]) rfl (zf0 (by simp) ⟨_, _, _, S, rfl, ?_, ?_, ?_⟩)
   ·exact OK.out.chg (T := [w.heap.size + 1]) (cS) (fun x hx hx' => DK.out x hx (by simp at hx'; subst hx'; simp))
   ·exact zaa FK.out (by omega) (by simp)
   ·exact Below.chg hb (S := [w.heap.size + 1]) (cS) hb.size (fun x hx => by simp at hx; omega)
  ·skip
   obtain ⟨SK1, SK3, eK, oK, pK⟩ := OK.out; have FKx := FK.out; have DKx := DK.out; rw [eK] at FKx DKx; have OK1 := Lib.hid oK; have OK3 := Lib.hid pK; have FK1 := Lib.hid (zbp FKx); have FK3 := Lib.hid (za9 FKx); have DK1 : Hid (∀ x ∈ SK1, x ∉ [w.heap.size, w.heap.size + 1, go, gp]) := (fun x hx => DKx x (List.mem_append_left _ hx))
   have DK3 : Hid (∀ x ∈ SK3, x ∉ [w.heap.size, w.heap.size + 1, go, gp]) := (fun x hx => DKx x (List.mem_append_right _ hx))
   have JK : Hid (∀ x ∈ SK1, x ∉ SK3) := (zcm FKx.1).2.2.1; clear OK FK DK FKx DKx oK pK; clear OK1 FK1 DK1; obtain ⟨p0, p1, p2⟩ := Lp.a3; obtain ⟨o0, o1, o2, o3, o4⟩ := Lo.a5; obtain ⟨of0, of1, of2, of3, of4⟩ := Lo.b5
   go_upto_region 8 with (fail)
   clear p0 p1 p2 o0 of0 o1 of1 o2 of2 o3 of3 o4 of4; replace Lc := Lc.far (g := go) (i := 0) (u := .int .i64 n) (by omega)
   replace Lr := Lr.far (g := go) (i := 0) (u := .int .i64 n) (by omega)
   replace Lp := Lp.far (g := go) (i := 0) (u := .int .i64 n) (by omega)
   replace Lo : Loc (W5.setCell ⟨go, 0, none⟩ (.int .i64 n)) (go) [.int .i64 n, .slice B1 cs.length k1, .slice B2 pl.length k2, .slice B3 ds.length k3, .int .i64 m] := Lo.set (i := 0) (v := .int .i64 n) rfl; have hch : Chg [go] W5 (W5.setCell ⟨go, 0, none⟩ (.int .i64 n)) := zav (Chg.refl _ _) (by simp)
   replace OX := Lib.hid (OX.out.chg hch (fun x hx hx' => DX.out x hx (by simp at hx'; subst hx'; simp)))
   replace FX := Lib.hid (zaa (w' := (W5.setCell ⟨go, 0, none⟩ (.int .i64 n))) FX.out (Nat.le_refl _) hch.size); replace OK3 := Lib.hid (OK3.out.chg hch (fun x hx hx' => DK3.out x hx (by simp at hx'; subst hx'; simp)))
   replace FK3 := Lib.hid (zaa (w' := (W5.setCell ⟨go, 0, none⟩ (.int .i64 n))) FK3.out (Nat.le_refl _) hch.size); replace hb : Below w.heap.size w (W5.setCell ⟨go, 0, none⟩ (.int .i64 n)) := Below.chg hb hch hb.size (by simp; omega)
   have hzc := hch.size; clear hch; generalize W5.setCell ⟨go, 0, none⟩ (.int .i64 n) = W6 at *
   replace Lc := Lc.far (g := go) (i := 1) (u := .slice C1 cs'.length l1) (by omega)
   replace Lr := Lr.far (g := go) (i := 1) (u := .slice C1 cs'.length l1) (by omega)
   replace Lp := Lp.far (g := go) (i := 1) (u := .slice C1 cs'.length l1) (by omega)
   replace Lo : Loc (W6.setCell ⟨go, 1, none⟩ (.slice C1 cs'.length l1)) (go) [.int .i64 n, .slice C1 cs'.length l1, .slice B2 pl.length k2, .slice B3 ds.length k3, .int .i64 m] := Lo.set (i := 1) (v := .slice B1 cs.length k1) rfl; have hch : Chg [go] W6 (W6.setCell ⟨go, 1, none⟩ (.slice C1 cs'.length l1)) := zav (Chg.refl _ _) (by simp)
   replace OX := Lib.hid (OX.out.chg hch (fun x hx hx' => DX.out x hx (by simp at hx'; subst hx'; simp)))
   replace FX := Lib.hid (zaa (w' := (W6.setCell ⟨go, 1, none⟩ (.slice C1 cs'.length l1))) FX.out (Nat.le_refl _) hch.size); replace OK3 := Lib.hid (OK3.out.chg hch (fun x hx hx' => DK3.out x hx (by simp at hx'; subst hx'; simp)))
   replace FK3 := Lib.hid (zaa (w' := (W6.setCell ⟨go, 1, none⟩ (.slice C1 cs'.length l1))) FK3.out (Nat.le_refl _) hch.size); replace hb : Below w.heap.size w (W6.setCell ⟨go, 1, none⟩ (.slice C1 cs'.length l1)) := Below.chg hb hch hb.size (by simp; omega)
   have hzc := hch.size; clear hch; generalize W6.setCell ⟨go, 1, none⟩ (.slice C1 cs'.length l1) = W7 at *
   replace Lc := Lc.far (g := go) (i := 2) (u := .slice C2 pl.length l2) (by omega)
   replace Lr := Lr.far (g := go) (i := 2) (u := .slice C2 pl.length l2) (by omega)
   replace Lp := Lp.far (g := go) (i := 2) (u := .slice C2 pl.length l2) (by omega)
   replace Lo : Loc (W7.setCell ⟨go, 2, none⟩ (.slice C2 pl.length l2)) (go) [.int .i64 n, .slice C1 cs'.length l1, .slice C2 pl.length l2, .slice B3 ds.length k3, .int .i64 m] := Lo.set (i := 2) (v := .slice B2 pl.length k2) rfl; have hch : Chg [go] W7 (W7.setCell ⟨go, 2, none⟩ (.slice C2 pl.length l2)) := zav (Chg.refl _ _) (by simp)
   replace OX := Lib.hid (OX.out.chg hch (fun x hx hx' => DX.out x hx (by simp at hx'; subst hx'; simp)))
   replace FX := Lib.hid (zaa (w' := (W7.setCell ⟨go, 2, none⟩ (.slice C2 pl.length l2))) FX.out (Nat.le_refl _) hch.size); replace OK3 := Lib.hid (OK3.out.chg hch (fun x hx hx' => DK3.out x hx (by simp at hx'; subst hx'; simp)))
   replace FK3 := Lib.hid (zaa (w' := (W7.setCell ⟨go, 2, none⟩ (.slice C2 pl.length l2))) FK3.out (Nat.le_refl _) hch.size); replace hb : Below w.heap.size w (W7.setCell ⟨go, 2, none⟩ (.slice C2 pl.length l2)) := Below.chg hb hch hb.size (by simp; omega)
   have hzc := hch.size; clear hch; generalize W7.setCell ⟨go, 2, none⟩ (.slice C2 pl.length l2) = W8 at *
   replace FX := Lib.hid (zaa (B' := w.heap.size + 1 + 1) FX.out (by omega) (Nat.le_refl _))
   have OP : zai W8 (SX ++ SK3) (.slice C1 cs'.length l1) (.slice C2 pl.length l2) (.slice B3 ds.length k3) cs' pl ds := ⟨_, _, rfl, OX.out, OK3.out⟩; have FQ := Lib.hid (zbf FX.out FK3.out (fun x hx hx' => HJ.out x hx (by rw [eK]; exact List.mem_append_right _ hx')))
   have DQ : Hid (∀ x ∈ SX ++ SK3, x ∉ [w.heap.size, w.heap.size + 1, go, gp]) := (fun x hx => (List.mem_append.1 hx).elim (DX.out x) (DK3.out x))
   have OQ := Lib.hid (OP); clear OX FX DX OK3 FK3 DK3; obtain ⟨SQ, hSQ⟩ : ∃ T, SX ++ SK3 = T := ⟨_, rfl⟩; rw [hSQ] at OQ FQ DQ; clear hSQ; clear OP; obtain ⟨o0, o1, o2, o3, o4⟩ := Lo.a5; obtain ⟨r0, r1, r2, r3, r4⟩ := Lr.a5; obtain ⟨rf0, rf1, rf2, rf3, rf4⟩ := Lr.b5; go_wp2_with fail; refine bodyPost_ret (v := .tuple #[.agg #[.int .i64 n, .slice C1 cs'.length l1, .slice C2 pl.length l2, .slice B3 ds.length k3, .int .i64 m], .bool true]) (by simp [results, Tryz.results55, go_sem, *]) rfl (zsj ⟨hq.out, rfl, Hw.out hq.out (by simp)⟩ ⟨_, _, _, SQ, rfl, ?_, ?_, ?_⟩)
   ·exact OQ.out.chg (T := [w.heap.size + 1]) (cS) (fun x hx hx' => DQ.out x hx (by simp at hx'; subst hx'; simp))
   ·exact zaa FQ.out (by omega) (by simp)
   ·exact Below.chg hb (S := [w.heap.size + 1]) (cS) hb.size (fun x hx => by simp at hx; omega)
 ·skip
  clear c0 c1 c2 c3 c4; have hzq : W2.heap.size <= W3.heap.size := by have := q.size; (try simp at this); omega
  replace Lc := Lc.below q; replace Lr := Lr.below q; replace Lo := Lo.below q; replace OK := Lib.hid (OK.out.below q); replace FK := Lib.hid (zaa (w' := W3) FK.out (Nat.le_refl _) hzq); replace hb : Below w.heap.size w W3 := hb.trans (q.mono hb.size); clear q; obtain ⟨o0, o1, o2, o3, o4⟩ := Lo.a5; obtain ⟨r0, r1, r2, r3, r4⟩ := Lr.a5; obtain ⟨rf0, rf1, rf2, rf3, rf4⟩ := Lr.b5; go_wp2_with fail; refine bodyPost_ret (v := .tuple #[.agg #[.int .i64 n, .slice B1 cs.length k1, .slice B2 pl.length k2, .slice B3 ds.length k3, .int .i64 m], .bool false]) (by simp [results, Tryz.results55, go_sem, *]) rfl (zf0 (fun hh => absurd (show zau n m cs pl ds = true from hh.1) (by rw [hq.out]; simp)) ⟨_, _, _, S, rfl, ?_, ?_, ?_⟩)
  ·exact OK.out.chg (T := [w.heap.size + 1]) (cS) (fun x hx hx' => DK.out x hx (by simp at hx'; subst hx'; simp))
  ·exact zaa FK.out (by omega) (by simp)
  ·exact Below.chg hb (S := [w.heap.size + 1]) (cS) hb.size (fun x hx => by simp at hx; omega)
theorem zgk {w : World} {p : Addr} {v : Value} (o : Obj) (h : w.cell? p = some v) (hf : w.frozen? p = false) : (w.alloc o).frozen? p = false := (((Below.refl w.heap.size w).alloc (Nat.le_refl _) o).frozen (World.block_lt_of_cell? w _ h)).trans hf
def zk5 (t : Th) (free : Int) : Th × Bool := becF t ⟨t.n, wrap64 (t.m - 10), t.cs, t.pl ++ [([], free)], t.ds⟩ true
theorem zhx (n m free : Int) (v1 v2 v3 : Value) (cs : List zad) (pl : List RPl) (ds : List Int) (w : World) (h : zak w v1 v2 v3 cs pl ds) (hsz : zas cs pl ds <= 1048576) :
  Calls Tryz.prog 78 #[.agg #[.int .i64 n, v1, v2, v3, .int .i64 m], .int .i64 free] w (zhf w.heap.size (zk5 ⟨n, m, cs, pl, ds⟩ free) w) := by
 obtain ⟨⟨A1, n1, rfl⟩, ⟨A2, n2, rfl⟩, ⟨A3, n3, rfl⟩⟩ := h.forms; have hpl : pl.length <= 1048576 := by unfold zas zam zdy at hsz; omega
 obtain ⟨i0, hi0, hp0, hp1, hp2⟩ := info_parts zg1; unfold zk5; obtain ⟨⟨⟨rn, rm, rcs, rpl, rds⟩, rb⟩, hres⟩ : ∃ res, becF ⟨n, m, cs, pl, ds⟩ ⟨n, wrap64 (m - 10), cs, pl ++ [([], free)], ds⟩ true = res := ⟨_, rfl⟩; rw [hres]; change Calls _ _ _ _ (RetT w.heap.size rn rm rb rcs rpl rds w); have Hres := Lib.hid hres; clear hres
 go_enter Tryz.func78, Tryz.ntmps78
 go_wp2_with fail; refine (zay n m _ _ _ cs pl ds _ (h.below (bM)) hsz).mono ?_
 rintro e W1 ⟨x1, x2, x3, S, rfl, ow, f1, q⟩; obtain ⟨⟨B1, k1, rfl⟩, ⟨B2, k2, rfl⟩, ⟨B3, k3, rfl⟩⟩ := ow.rd.forms; have Lc : Loc W1 (w.heap.size) [.int .i64 n, .slice A1 cs.length n1, .slice A2 pl.length n2, .slice A3 ds.length n3, .int .i64 m] := by have := ((Loc.new w #[.int .i64 n, .slice A1 cs.length n1, .slice A2 pl.length n2, .slice A3 ds.length n3, .int .i64 m] 39).alloc _).below q; simpa using this
 have Lr : Loc W1 (w.heap.size + 1) [.int .i64 0, .slice none 0 0, .slice none 0 0, .slice none 0 0, .int .i64 0] := by have := (Loc.new (w.alloc (.cells #[.int .i64 n, .slice A1 cs.length n1, .slice A2 pl.length n2, .slice A3 ds.length n3, .int .i64 m] 39)) #[.int .i64 0, .slice none 0 0, .slice none 0 0, .slice none 0 0, .int .i64 0] 39).below q; simpa using this
 have hb : Below w.heap.size w W1 := Below.trans (bM) (q.mono (by simp <;> omega))
 have hz0 : w.heap.size + 1 + 1 <= W1.heap.size := by have := q.size; simp at this; omega
 have hlow : w.heap.size + 1 + 1 <= (((w.alloc (.cells #[.int .i64 n, .slice A1 cs.length n1, .slice A2 pl.length n2, .slice A3 ds.length n3, .int .i64 m] 39)).alloc (.cells #[.int .i64 0, .slice none 0 0, .slice none 0 0, .slice none 0 0, .int .i64 0] 39))).heap.size := by first | exact Nat.le_refl _ | (simp; done) | (simp; omega) | omega
 have FK := Lib.hid (zaa f1 hlow (Nat.le_refl _)); have DK : Hid (∀ x ∈ S, x ∉ [w.heap.size, w.heap.size + 1]) := (fun x hx => by have := (FK.out.2 x hx).1; simp; omega)
 have OK := Lib.hid ow; clear ow f1 hlow; clear q
 go_upto_region 2 with (fail)
 replace Lc : Loc (W1.alloc (.cells #[.int .i64 n, .slice B1 cs.length k1, .slice B2 pl.length k2, .slice B3 ds.length k3, .int .i64 m] 39)) (w.heap.size) [.int .i64 n, .slice A1 cs.length n1, .slice A2 pl.length n2, .slice A3 ds.length n3, .int .i64 m] := Lc.alloc _; replace Lr : Loc (W1.alloc (.cells #[.int .i64 n, .slice B1 cs.length k1, .slice B2 pl.length k2, .slice B3 ds.length k3, .int .i64 m] 39)) (w.heap.size + 1) [.int .i64 0, .slice none 0 0, .slice none 0 0, .slice none 0 0, .int .i64 0] := Lr.alloc _; obtain ⟨go, hgo⟩ : ∃ g, W1.heap.size = g := ⟨_, rfl⟩; have Lo : Loc (W1.alloc (.cells #[.int .i64 n, .slice B1 cs.length k1, .slice B2 pl.length k2, .slice B3 ds.length k3, .int .i64 m] 39)) W1.heap.size [.int .i64 n, .slice B1 cs.length k1, .slice B2 pl.length k2, .slice B3 ds.length k3, .int .i64 m] := Loc.new W1 #[.int .i64 n, .slice B1 cs.length k1, .slice B2 pl.length k2, .slice B3 ds.length k3, .int .i64 m] 39
 rw [hgo] at Lo; replace OK := Lib.hid (OK.out.below (w' := (W1.alloc (.cells #[.int .i64 n, .slice B1 cs.length k1, .slice B2 pl.length k2, .slice B3 ds.length k3, .int .i64 m] 39))) ((Below.refl _ _).alloc (Nat.le_refl _) _)); replace DK : Hid (∀ x ∈ S, x ∉ [w.heap.size, w.heap.size + 1, go]) := (fun x hx => by have := DK.out x hx; have := (FK.out.2 x hx).2; simp at *; omega)
 replace FK := Lib.hid (zaa (w' := (W1.alloc (.cells #[.int .i64 n, .slice B1 cs.length k1, .slice B2 pl.length k2, .slice B3 ds.length k3, .int .i64 m] 39))) FK.out (Nat.le_refl _) (by simp))
 replace hb : Below w.heap.size w (W1.alloc (.cells #[.int .i64 n, .slice B1 cs.length k1, .slice B2 pl.length k2, .slice B3 ds.length k3, .int .i64 m] 39)) := hb.alloc hb.size _; have hlto : go < (W1.alloc (.cells #[.int .i64 n, .slice B1 cs.length k1, .slice B2 pl.length k2, .slice B3 ds.length k3, .int .i64 m] 39)).heap.size := by simp; omega
 have hne_c_o : w.heap.size < go := by omega
 have hne_r_o : w.heap.size + 1 < go := by omega
 generalize W1.alloc (.cells #[.int .i64 n, .slice B1 cs.length k1, .slice B2 pl.length k2, .slice B3 ds.length k3, .int .i64 m] 39) = W2 at *
 rw [hgo]; clear hgo; obtain ⟨SK1, SK3, eK, oK, pK⟩ := OK.out; have FKx := FK.out; have DKx := DK.out; rw [eK] at FKx DKx; have OK1 := Lib.hid oK; have OK3 := Lib.hid pK; have FK1 := Lib.hid (zbp FKx); have FK3 := Lib.hid (za9 FKx); have DK1 : Hid (∀ x ∈ SK1, x ∉ [w.heap.size, w.heap.size + 1, go]) := (fun x hx => DKx x (List.mem_append_left _ hx))
 have DK3 : Hid (∀ x ∈ SK3, x ∉ [w.heap.size, w.heap.size + 1, go]) := (fun x hx => DKx x (List.mem_append_right _ hx))
 have JK : Hid (∀ x ∈ SK1, x ∉ SK3) := (zcm FKx.1).2.2.1; clear OK FK DK FKx DKx oK pK; obtain ⟨SK11, SK12, eK1, oK1, pK1⟩ := OK1.out; have FK1x := FK1.out; have DK1x := DK1.out; rw [eK1] at FK1x DK1x; have OK11 := Lib.hid oK1; have OK12 := Lib.hid pK1; have FK11 := Lib.hid (zbp FK1x); have FK12 := Lib.hid (za9 FK1x); have DK11 : Hid (∀ x ∈ SK11, x ∉ [w.heap.size, w.heap.size + 1, go]) := (fun x hx => DK1x x (List.mem_append_left _ hx))
 have DK12 : Hid (∀ x ∈ SK12, x ∉ [w.heap.size, w.heap.size + 1, go]) := (fun x hx => DK1x x (List.mem_append_right _ hx))
 have JK1 : Hid (∀ x ∈ SK11, x ∉ SK12) := (zcm FK1x.1).2.2.1; clear OK1 FK1 DK1 FK1x DK1x oK1 pK1; have hJ3 : ∀ x ∈ SK12, x ∉ SK3 := fun x hx hx' => JK.out x (by rw [eK1]; exact List.mem_append_right _ hx) hx'
 have hJ13 : ∀ x ∈ SK11, x ∉ SK3 := fun x hx hx' => JK.out x (by rw [eK1]; exact List.mem_append_left _ hx) hx'
 have HJ3 := Lib.hid hJ3; have HJ13 := Lib.hid hJ13; clear hJ3 hJ13; obtain ⟨vs, hvl, hown, hrows, eS⟩ := OK12.out; have FP := FK12.out; rw [eS] at FP; have hown1 : W2.ownsRow (w.heap.size + 1 + 1) 60 2 (.slice B2 pl.length k2) pl.length (vs.flatMap cPl) := by have := zmh hown (fun b hb => FP.2 b (List.mem_append_left _ hb)); rwa [hvl] at this
 have Hown := Lib.hid hown1; have Hrows := Lib.hid hrows; have Hvl := Lib.hid hvl; have HES := Lib.hid eS; have HFP := Lib.hid FP; clear hown hown1 hrows hvl eS FP; obtain ⟨o0, o1, o2, o3, o4⟩ := Lo.a5; have of2 := (Lo 2 _ rfl).2; have hng : go ∉ (Value.slice B2 pl.length k2).ownBlock.toList := fun hm => DK12.out go (by rw [HES.out]; exact List.mem_append_left _ hm) (by simp)
 have Hng := Lib.hid hng; clear hng
 go_upto_region 3 with (at_builtin; refine zae _ rfl (.tmp 11) (.tmp 15) _ rfl (w.heap.size + 1 + 1) 60 i0 _ 2 32 Tryz.underlying34 hi0 hp0 hp1 hp2 rfl (by omega) _ pl.length (vs.flatMap cPl) rfl ((Hown.out.alloc _).alloc _) _ 1 [.slice (some ⟨W2.heap.size, 0, none⟩) 0 0, .int .i64 free] rfl (zbz (W2.alloc _) (W2.heap.size + 1) (by simp) #[.slice (some ⟨W2.heap.size, 0, none⟩) 0 0, .int .i64 free] _ 2 1 rfl (by simp [maxLen])) (by simp [Value.oneCell']) (by simp [maxLen]; omega) (by omega) (by simp; omega) ?_; intro v3 w3 own3 gr3 at3; obtain ⟨D3, e3, rfl, _, _⟩ := (RdS.of_own own3).form; have hch := Chg.of_grown gr3; have ho2 := zdu hch (za8 _ (za8 _ o2)) Hng.out; have hof2 := zf5 hch (za8 _ (za8 _ o2)) (zgk _ (za8 _ o2) (zgk _ o2 of2)) Hng.out; clear o0 o1 o2 o3 o4 of2)
 have bA : Below W2.heap.size W2 ((W2.alloc (.cells #[] 3)).alloc (.cells #[.slice (some ⟨W2.heap.size, 0, none⟩) 0 0, .int .i64 free] 60)) := bM
 clear ho2 hof2; replace Lc := (Lc.below bA).chg hch (fun hm => DK12.out _ (by rw [HES.out]; exact List.mem_append_left _ hm) (by simp))
 replace Lr := (Lr.below bA).chg hch (fun hm => DK12.out _ (by rw [HES.out]; exact List.mem_append_left _ hm) (by simp))
 replace Lo := (Lo.below bA).chg hch (fun hm => DK12.out _ (by rw [HES.out]; exact List.mem_append_left _ hm) (by simp))
 have hsA := bA.size; have hs3 := gr3.size; have OK11' := Lib.hid ((OK11.out.below bA).chg hch (fun x hx hx' => JK1.out x hx (by rw [HES.out]; exact List.mem_append_left _ hx')))
 have FK11' := Lib.hid (zaa (w' := w3) FK11.out (Nat.le_refl _) (by omega))
 have UK11 : Hid (∀ x ∈ SK11, x < W2.heap.size) := fun x hx => (FK11.out.2 x hx).2
 clear OK11 FK11; have OK11 := OK11'; have FK11 := FK11'; clear OK11' FK11'; have OK3' := Lib.hid ((OK3.out.below bA).chg hch (fun x hx hx' => HJ3.out x (by rw [HES.out]; exact List.mem_append_left _ hx') hx))
 have FK3' := Lib.hid (zaa (w' := w3) FK3.out (Nat.le_refl _) (by omega))
 have UK3 : Hid (∀ x ∈ SK3, x < W2.heap.size) := fun x hx => (FK3.out.2 x hx).2
 clear OK3 FK3; have OK3 := OK3'; have FK3 := FK3'; clear OK3' FK3'; replace hb : Below w.heap.size w w3 := Below.chg (hb.trans (bA.mono hb.size)) hch (by have := hb.size; omega) (fun b hm => by have := (HFP.out.2 b (List.mem_append_left _ hm)).1; omega)
 have hkE : OwL 3 cInt 1 ((W2.alloc (.cells #[] 3)).alloc (.cells #[.slice (some ⟨W2.heap.size, 0, none⟩) 0 0, .int .i64 free] 60)) [W2.heap.size] (.slice (some ⟨W2.heap.size, 0, none⟩) 0 0) ([] : List Int) := ⟨((World.ownsRow_made (size := 1) (e := 3) W2 #[] 0 (Nat.zero_le _) (by simp [maxLen]) rfl).alloc _), rfl⟩
 have hfE : zbc (w.heap.size + 1 + 1) ((W2.alloc (.cells #[] 3)).alloc (.cells #[.slice (some ⟨W2.heap.size, 0, none⟩) 0 0, .int .i64 free] 60)) [W2.heap.size] := ⟨by simp, fun b hb' => by simp at hb'; subst hb'; simp; omega⟩
 have hdE : ∀ b ∈ (Value.slice B2 pl.length k2).ownBlock.toList ++ zaw vs, b ∉ [W2.heap.size] := fun b hb' hb2 => by have := (HFP.out.2 b hb').2; simp at hb2; omega
 have hsn := zj8 (B := w.heap.size + 1 + 1) (w := ((W2.alloc (.cells #[] 3)).alloc (.cells #[.slice (some ⟨W2.heap.size, 0, none⟩) 0 0, .int .i64 free] 60))) (w' := w3) (q := .slice B2 pl.length k2) (ll := pl) Hvl.out (fun i p r hp hr => ⟨(Hrows.out i p r hp hr).1, zac (Hrows.out i p r hp hr).2 bA⟩) (zaa HFP.out (Nat.le_refl _) bA.size) hkE hfE hdE (by rw [Hvl.out]; exact own3) gr3 at3
 obtain ⟨SN, hSN⟩ : ∃ T, (Value.slice D3 (pl.length + 1) e3).ownBlock.toList ++ zaw (vs ++ [(.slice (some ⟨W2.heap.size, 0, none⟩) 0 0, free)]) = T := ⟨_, rfl⟩
 have hnew : ∀ x ∈ SN, x ∈ SK12 ∨ W2.heap.size <= x := by
  intro x hx; rw [<- hSN, zfr] at hx
  rcases List.mem_append.1 hx with hx | hx
  ·rcases at3 with e | e
   ·rw [e] at hx; exact .inl (by rw [HES.out]; exact List.mem_append_left _ hx)
   ·rw [e] at hx; simp at hx; right; omega
  ·rcases List.mem_append.1 hx with hx | hx
   ·exact .inl (by rw [HES.out]; exact List.mem_append_right _ hx)
   ·right; simp [Value.ownBlock] at hx; omega
 rw [hSN] at hsn; have ON := Lib.hid hsn.1; have FN := Lib.hid hsn.2; have HN := Lib.hid hnew
 have DN : Hid (∀ x ∈ SN, x ∉ [w.heap.size, w.heap.size + 1, go]) := (fun x hx => by
  rcases HN.out x hx with h1 | h1
  ·exact DK12.out x h1
  ·simp; omega)
 have J1N : Hid (∀ x ∈ SK11, x ∉ SN) := (fun x hx hx' => by
  rcases HN.out x hx' with h1 | h1
  ·exact JK1.out x hx h1
  ·have := UK11.out x hx; omega)
 have JN3 : Hid (∀ x ∈ SN, x ∉ SK3) := (fun x hx hx' => by
  rcases HN.out x hx with h1 | h1
  ·exact HJ3.out x h1 hx'
  ·have := UK3.out x hx'; omega)
 clear hsn hnew hSN hkE hfE hdE own3 gr3 at3 hch OK12 FK12 DK12 Hown Hrows Hvl HES HFP Hng bA UK11 UK3 HN; replace Lc := Lc.far (g := go) (i := 2) (u := .slice D3 (pl.length + 1) e3) (by omega)
 replace Lr := Lr.far (g := go) (i := 2) (u := .slice D3 (pl.length + 1) e3) (by omega)
 replace Lo : Loc (w3.setCell ⟨go, 2, none⟩ (.slice D3 (pl.length + 1) e3)) (go) [.int .i64 n, .slice B1 cs.length k1, .slice D3 (pl.length + 1) e3, .slice B3 ds.length k3, .int .i64 m] := Lo.set (i := 2) (v := .slice B2 pl.length k2) rfl; have hch : Chg [go] w3 (w3.setCell ⟨go, 2, none⟩ (.slice D3 (pl.length + 1) e3)) := zav (Chg.refl _ _) (by simp)
 replace OK3 := Lib.hid (OK3.out.chg hch (fun x hx hx' => DK3.out x hx (by simp at hx'; subst hx'; simp)))
 replace FK3 := Lib.hid (zaa (w' := (w3.setCell ⟨go, 2, none⟩ (.slice D3 (pl.length + 1) e3))) FK3.out (Nat.le_refl _) hch.size); replace OK11 := Lib.hid (OK11.out.chg hch (fun x hx hx' => DK11.out x hx (by simp at hx'; subst hx'; simp)))
 replace FK11 := Lib.hid (zaa (w' := (w3.setCell ⟨go, 2, none⟩ (.slice D3 (pl.length + 1) e3))) FK11.out (Nat.le_refl _) hch.size); replace ON := Lib.hid (ON.out.chg hch (fun x hx hx' => DN.out x hx (by simp at hx'; subst hx'; simp)))
 replace FN := Lib.hid (zaa (w' := (w3.setCell ⟨go, 2, none⟩ (.slice D3 (pl.length + 1) e3))) FN.out (Nat.le_refl _) hch.size); replace hb : Below w.heap.size w (w3.setCell ⟨go, 2, none⟩ (.slice D3 (pl.length + 1) e3)) := Below.chg hb hch hb.size (by simp; omega)
 have hzc := hch.size; clear hch; generalize w3.setCell ⟨go, 2, none⟩ (.slice D3 (pl.length + 1) e3) = W3 at *
 have o4 := (Lo 4 _ rfl).1; have c4 := (Lc 4 _ rfl).1; have of4 := (Lo 4 _ rfl).2
 go_upto_region 4 with (fail)
 clear o4 c4 of4; replace Lc := Lc.far (g := go) (i := 4) (u := .int .i64 (wrap64 (m - 10))) (by omega)
 replace Lr := Lr.far (g := go) (i := 4) (u := .int .i64 (wrap64 (m - 10))) (by omega)
 replace Lo : Loc (W3.setCell ⟨go, 4, none⟩ (.int .i64 (wrap64 (m - 10)))) (go) [.int .i64 n, .slice B1 cs.length k1, .slice D3 (pl.length + 1) e3, .slice B3 ds.length k3, .int .i64 (wrap64 (m - 10))] := Lo.set (i := 4) (v := .int .i64 m) rfl; have hch : Chg [go] W3 (W3.setCell ⟨go, 4, none⟩ (.int .i64 (wrap64 (m - 10)))) := zav (Chg.refl _ _) (by simp)
 replace OK3 := Lib.hid (OK3.out.chg hch (fun x hx hx' => DK3.out x hx (by simp at hx'; subst hx'; simp)))
 replace FK3 := Lib.hid (zaa (w' := (W3.setCell ⟨go, 4, none⟩ (.int .i64 (wrap64 (m - 10))))) FK3.out (Nat.le_refl _) hch.size); replace OK11 := Lib.hid (OK11.out.chg hch (fun x hx hx' => DK11.out x hx (by simp at hx'; subst hx'; simp)))
 replace FK11 := Lib.hid (zaa (w' := (W3.setCell ⟨go, 4, none⟩ (.int .i64 (wrap64 (m - 10))))) FK11.out (Nat.le_refl _) hch.size); replace ON := Lib.hid (ON.out.chg hch (fun x hx hx' => DN.out x hx (by simp at hx'; subst hx'; simp)))
 replace FN := Lib.hid (zaa (w' := (W3.setCell ⟨go, 4, none⟩ (.int .i64 (wrap64 (m - 10))))) FN.out (Nat.le_refl _) hch.size); replace hb : Below w.heap.size w (W3.setCell ⟨go, 4, none⟩ (.int .i64 (wrap64 (m - 10)))) := Below.chg hb hch hb.size (by simp; omega)
 have hzc := hch.size; clear hch; generalize W3.setCell ⟨go, 4, none⟩ (.int .i64 (wrap64 (m - 10))) = W4 at *
 have OC : za4 W4 (SK11 ++ SN) (.slice B1 cs.length k1) (.slice D3 (pl.length + 1) e3) cs (pl ++ [([], free)]) := ⟨_, _, rfl, OK11.out, ON.out⟩; have OC' := OC; clear OC; have FC := Lib.hid (zbf FK11.out FN.out (J1N.out)); have DC : Hid (∀ x ∈ SK11 ++ SN, x ∉ [w.heap.size, w.heap.size + 1, go]) := (fun x hx => (List.mem_append.1 hx).elim (DK11.out x) (DN.out x))
 have OC := Lib.hid (OC'); clear OK11 FK11 DK11 ON FN DN; obtain ⟨SC, hSC⟩ : ∃ T, SK11 ++ SN = T := ⟨_, rfl⟩; rw [hSC] at OC FC DC; clear OC'
 have JC3 : ∀ x ∈ SC, x ∉ SK3 := fun x hx => by
  rw [<- hSC] at hx; exact (List.mem_append.1 hx).elim (HJ13.out x) (JN3.out x)
 have HJC := Lib.hid JC3; clear JC3; have OP : zai W4 (SC ++ SK3) (.slice B1 cs.length k1) (.slice D3 (pl.length + 1) e3) (.slice B3 ds.length k3) cs (pl ++ [([], free)]) ds := ⟨_, _, rfl, OC.out, OK3.out⟩; clear hSC; have FQ := Lib.hid (zbf FC.out FK3.out (HJC.out)); have DQ : Hid (∀ x ∈ SC ++ SK3, x ∉ [w.heap.size, w.heap.size + 1, go]) := (fun x hx => (List.mem_append.1 hx).elim (DC.out x) (DK3.out x))
 have OQ := Lib.hid (OP); clear OC FC DC OK3 FK3 DK3; obtain ⟨SQ, hSQ⟩ : ∃ T, SC ++ SK3 = T := ⟨_, rfl⟩; rw [hSQ] at OQ FQ DQ; clear hSQ; clear OP; obtain ⟨c0, c1, c2, c3, c4⟩ := Lc.a5; obtain ⟨o0, o1, o2, o3, o4⟩ := Lo.a5; go_wp2_with fail; refine (zds (B := w.heap.size + 1 + 1) (S := SQ) Hres.out (h.below hb) hsz OQ.out FQ.out (by have := hb.size; omega)).mono ?_
 rintro e W5 ⟨z1, z2, z3, T, rfl, owr, fr, q⟩; clear c0 c1 c2 c3 c4 o0 o1 o2 o3 o4; obtain ⟨⟨Z1, e1, rfl⟩, ⟨Z2, e2, rfl⟩, ⟨Z3, e3, rfl⟩⟩ := owr.rd.forms; have hzq : W4.heap.size <= W5.heap.size := by have := q.size; (try simp at this); omega
 replace Lc := Lc.below q; replace Lr := Lr.below q; replace Lo := Lo.below q; replace OQ := Lib.hid (OQ.out.below q); replace FQ := Lib.hid (zaa (w' := W5) FQ.out (Nat.le_refl _) hzq); replace hb : Below w.heap.size w W5 := hb.trans (q.mono hb.size); clear q; have FR := Lib.hid fr; have OR := Lib.hid owr; clear fr owr Hres; obtain ⟨r0, r1, r2, r3, r4⟩ := Lr.a5; obtain ⟨rf0, rf1, rf2, rf3, rf4⟩ := Lr.b5; go_wp2_with fail; refine bodyPost_ret (v := .tuple #[.agg #[.int .i64 rn, .slice Z1 rcs.length e1, .slice Z2 rpl.length e2, .slice Z3 rds.length e3, .int .i64 rm], .bool rb]) (by simp [results, Tryz.results78, go_sem, *]) rfl ⟨_, _, _, T, rfl, ?_, ?_, ?_⟩
 ·exact OR.out.chg (T := [w.heap.size + 1]) (cS) (fun x hx hx' => by have := (FR.out.2 x hx).1; simp at hx'; omega)
 ·exact zaa FR.out (by omega) (by simp)
 ·exact Below.chg hb (S := [w.heap.size + 1]) (cS) hb.size (fun x hx => by simp at hx; omega)
theorem zhy (n m free : Int) (v1 v2 v3 : Value) (cs : List zad) (pl : List RPl) (ds : List Int) (w : World) (h : zak w v1 v2 v3 cs pl ds) (hsz : zas cs pl ds <= 1048576) :
  Calls Tryz.prog 53 #[.agg #[.int .i64 n, v1, v2, v3, .int .i64 m], .int .i64 free] w (zhf w.heap.size (zk5 ⟨n, m, cs, pl, ds⟩ free) w) := by
 obtain ⟨⟨A1, n1, rfl⟩, ⟨A2, n2, rfl⟩, ⟨A3, n3, rfl⟩⟩ := h.forms; have hpl : pl.length <= 1048576 := by unfold zas zam zdy at hsz; omega
 obtain ⟨i0, hi0, hp0, hp1, hp2⟩ := info_parts zg1; unfold zk5
 go_enter Tryz.func53, Tryz.ntmps53
 go_wp2_with fail; refine (zbr n m _ _ _ cs pl ds _ (h.below (bM)) hsz).mono ?_
 rintro e W1 ⟨x1, x2, x3, S, rfl, ow, f1, q⟩; obtain ⟨⟨B1, k1, rfl⟩, ⟨B2, k2, rfl⟩, ⟨B3, k3, rfl⟩⟩ := ow.rd.forms; have Lc : Loc W1 (w.heap.size) [.int .i64 n, .slice A1 cs.length n1, .slice A2 pl.length n2, .slice A3 ds.length n3, .int .i64 m] := by have := ((Loc.new w #[.int .i64 n, .slice A1 cs.length n1, .slice A2 pl.length n2, .slice A3 ds.length n3, .int .i64 m] 39).alloc _).below q; simpa using this
 have Lr : Loc W1 (w.heap.size + 1) [.int .i64 0, .slice none 0 0, .slice none 0 0, .slice none 0 0, .int .i64 0] := by have := (Loc.new (w.alloc (.cells #[.int .i64 n, .slice A1 cs.length n1, .slice A2 pl.length n2, .slice A3 ds.length n3, .int .i64 m] 39)) #[.int .i64 0, .slice none 0 0, .slice none 0 0, .slice none 0 0, .int .i64 0] 39).below q; simpa using this
 have hb : Below w.heap.size w W1 := Below.trans (bM) (q.mono (by simp <;> omega))
 have hz0 : w.heap.size + 1 + 1 <= W1.heap.size := by have := q.size; simp at this; omega
 have hlow : w.heap.size + 1 + 1 <= (((w.alloc (.cells #[.int .i64 n, .slice A1 cs.length n1, .slice A2 pl.length n2, .slice A3 ds.length n3, .int .i64 m] 39)).alloc (.cells #[.int .i64 0, .slice none 0 0, .slice none 0 0, .slice none 0 0, .int .i64 0] 39))).heap.size := by first | exact Nat.le_refl _ | (simp; done) | (simp; omega) | omega
 have FK := Lib.hid (zaa f1 hlow (Nat.le_refl _)); have DK : Hid (∀ x ∈ S, x ∉ [w.heap.size, w.heap.size + 1]) := (fun x hx => by have := (FK.out.2 x hx).1; simp; omega)
 have OK := Lib.hid ow; clear ow f1 hlow; clear q
 go_upto_region 2 with (fail)
 replace Lc : Loc (W1.alloc (.cells #[.int .i64 n, .slice B1 cs.length k1, .slice B2 pl.length k2, .slice B3 ds.length k3, .int .i64 m] 39)) (w.heap.size) [.int .i64 n, .slice A1 cs.length n1, .slice A2 pl.length n2, .slice A3 ds.length n3, .int .i64 m] := Lc.alloc _; replace Lr : Loc (W1.alloc (.cells #[.int .i64 n, .slice B1 cs.length k1, .slice B2 pl.length k2, .slice B3 ds.length k3, .int .i64 m] 39)) (w.heap.size + 1) [.int .i64 0, .slice none 0 0, .slice none 0 0, .slice none 0 0, .int .i64 0] := Lr.alloc _; obtain ⟨go, hgo⟩ : ∃ g, W1.heap.size = g := ⟨_, rfl⟩; have Lo : Loc (W1.alloc (.cells #[.int .i64 n, .slice B1 cs.length k1, .slice B2 pl.length k2, .slice B3 ds.length k3, .int .i64 m] 39)) W1.heap.size [.int .i64 n, .slice B1 cs.length k1, .slice B2 pl.length k2, .slice B3 ds.length k3, .int .i64 m] := Loc.new W1 #[.int .i64 n, .slice B1 cs.length k1, .slice B2 pl.length k2, .slice B3 ds.length k3, .int .i64 m] 39
 rw [hgo] at Lo; replace OK := Lib.hid (OK.out.below (w' := (W1.alloc (.cells #[.int .i64 n, .slice B1 cs.length k1, .slice B2 pl.length k2, .slice B3 ds.length k3, .int .i64 m] 39))) ((Below.refl _ _).alloc (Nat.le_refl _) _)); replace DK : Hid (∀ x ∈ S, x ∉ [w.heap.size, w.heap.size + 1, go]) := (fun x hx => by have := DK.out x hx; have := (FK.out.2 x hx).2; simp at *; omega)
 replace FK := Lib.hid (zaa (w' := (W1.alloc (.cells #[.int .i64 n, .slice B1 cs.length k1, .slice B2 pl.length k2, .slice B3 ds.length k3, .int .i64 m] 39))) FK.out (Nat.le_refl _) (by simp))
 replace hb : Below w.heap.size w (W1.alloc (.cells #[.int .i64 n, .slice B1 cs.length k1, .slice B2 pl.length k2, .slice B3 ds.length k3, .int .i64 m] 39)) := hb.alloc hb.size _; have hlto : go < (W1.alloc (.cells #[.int .i64 n, .slice B1 cs.length k1, .slice B2 pl.length k2, .slice B3 ds.length k3, .int .i64 m] 39)).heap.size := by simp; omega
 have hne_c_o : w.heap.size < go := by omega
 have hne_r_o : w.heap.size + 1 < go := by omega
 generalize W1.alloc (.cells #[.int .i64 n, .slice B1 cs.length k1, .slice B2 pl.length k2, .slice B3 ds.length k3, .int .i64 m] 39) = W2 at *
 rw [hgo]; clear hgo; obtain ⟨SK1, SK3, eK, oK, pK⟩ := OK.out; have FKx := FK.out; have DKx := DK.out; rw [eK] at FKx DKx; have OK1 := Lib.hid oK; have OK3 := Lib.hid pK; have FK1 := Lib.hid (zbp FKx); have FK3 := Lib.hid (za9 FKx); have DK1 : Hid (∀ x ∈ SK1, x ∉ [w.heap.size, w.heap.size + 1, go]) := (fun x hx => DKx x (List.mem_append_left _ hx))
 have DK3 : Hid (∀ x ∈ SK3, x ∉ [w.heap.size, w.heap.size + 1, go]) := (fun x hx => DKx x (List.mem_append_right _ hx))
 have JK : Hid (∀ x ∈ SK1, x ∉ SK3) := (zcm FKx.1).2.2.1; clear OK FK DK FKx DKx oK pK; obtain ⟨SK11, SK12, eK1, oK1, pK1⟩ := OK1.out; have FK1x := FK1.out; have DK1x := DK1.out; rw [eK1] at FK1x DK1x; have OK11 := Lib.hid oK1; have OK12 := Lib.hid pK1; have FK11 := Lib.hid (zbp FK1x); have FK12 := Lib.hid (za9 FK1x); have DK11 : Hid (∀ x ∈ SK11, x ∉ [w.heap.size, w.heap.size + 1, go]) := (fun x hx => DK1x x (List.mem_append_left _ hx))
 have DK12 : Hid (∀ x ∈ SK12, x ∉ [w.heap.size, w.heap.size + 1, go]) := (fun x hx => DK1x x (List.mem_append_right _ hx))
 have JK1 : Hid (∀ x ∈ SK11, x ∉ SK12) := (zcm FK1x.1).2.2.1; clear OK1 FK1 DK1 FK1x DK1x oK1 pK1; have hJ3 : ∀ x ∈ SK12, x ∉ SK3 := fun x hx hx' => JK.out x (by rw [eK1]; exact List.mem_append_right _ hx) hx'
 have hJ13 : ∀ x ∈ SK11, x ∉ SK3 := fun x hx hx' => JK.out x (by rw [eK1]; exact List.mem_append_left _ hx) hx'
 have HJ3 := Lib.hid hJ3; have HJ13 := Lib.hid hJ13; clear hJ3 hJ13; obtain ⟨vs, hvl, hown, hrows, eS⟩ := OK12.out; have FP := FK12.out; rw [eS] at FP; have hown1 : W2.ownsRow (w.heap.size + 1 + 1) 60 2 (.slice B2 pl.length k2) pl.length (vs.flatMap cPl) := by have := zmh hown (fun b hb => FP.2 b (List.mem_append_left _ hb)); rwa [hvl] at this
 have Hown := Lib.hid hown1; have Hrows := Lib.hid hrows; have Hvl := Lib.hid hvl; have HES := Lib.hid eS; have HFP := Lib.hid FP; clear hown hown1 hrows hvl eS FP; obtain ⟨o0, o1, o2, o3, o4⟩ := Lo.a5; have of2 := (Lo 2 _ rfl).2; have hng : go ∉ (Value.slice B2 pl.length k2).ownBlock.toList := fun hm => DK12.out go (by rw [HES.out]; exact List.mem_append_left _ hm) (by simp)
 have Hng := Lib.hid hng; clear hng
 go_upto_region 3 with (at_builtin; refine zae _ rfl (.tmp 11) (.tmp 14) _ rfl (w.heap.size + 1 + 1) 60 i0 _ 2 32 Tryz.underlying34 hi0 hp0 hp1 hp2 rfl (by omega) _ pl.length (vs.flatMap cPl) rfl (Hown.out.alloc _) _ 1 [.slice none 0 0, .int .i64 free] rfl (zbz W2 W2.heap.size rfl #[.slice none 0 0, .int .i64 free] _ 2 1 rfl (by simp [maxLen])) (by simp [Value.oneCell']) (by simp [maxLen]; omega) (by omega) (by simp; omega) ?_; intro v3 w3 own3 gr3 at3; obtain ⟨D3, e3, rfl, _, _⟩ := (RdS.of_own own3).form; have hch := Chg.of_grown gr3; have ho2 := zdu hch (za8 _ o2) Hng.out; have hof2 := zf5 hch (za8 _ o2) (zgk _ o2 of2) Hng.out; clear o0 o1 o2 o3 o4 of2)
 have bA : Below W2.heap.size W2 (W2.alloc (.cells #[.slice none 0 0, .int .i64 free] 60)) := bM
 clear ho2 hof2; replace Lc := (Lc.below bA).chg hch (fun hm => DK12.out _ (by rw [HES.out]; exact List.mem_append_left _ hm) (by simp))
 replace Lr := (Lr.below bA).chg hch (fun hm => DK12.out _ (by rw [HES.out]; exact List.mem_append_left _ hm) (by simp))
 replace Lo := (Lo.below bA).chg hch (fun hm => DK12.out _ (by rw [HES.out]; exact List.mem_append_left _ hm) (by simp))
 have hsA := bA.size; have hs3 := gr3.size; have OK11' := Lib.hid ((OK11.out.below bA).chg hch (fun x hx hx' => JK1.out x hx (by rw [HES.out]; exact List.mem_append_left _ hx')))
 have FK11' := Lib.hid (zaa (w' := w3) FK11.out (Nat.le_refl _) (by omega))
 have UK11 : Hid (∀ x ∈ SK11, x < W2.heap.size) := fun x hx => (FK11.out.2 x hx).2
 clear OK11 FK11; have OK11 := OK11'; have FK11 := FK11'; clear OK11' FK11'; have OK3' := Lib.hid ((OK3.out.below bA).chg hch (fun x hx hx' => HJ3.out x (by rw [HES.out]; exact List.mem_append_left _ hx') hx))
 have FK3' := Lib.hid (zaa (w' := w3) FK3.out (Nat.le_refl _) (by omega))
 have UK3 : Hid (∀ x ∈ SK3, x < W2.heap.size) := fun x hx => (FK3.out.2 x hx).2
 clear OK3 FK3; have OK3 := OK3'; have FK3 := FK3'; clear OK3' FK3'; replace hb : Below w.heap.size w w3 := Below.chg (hb.trans (bA.mono hb.size)) hch (by have := hb.size; omega) (fun b hm => by have := (HFP.out.2 b (List.mem_append_left _ hm)).1; omega)
 have hkE : OwL 3 cInt 1 (W2.alloc (.cells #[.slice none 0 0, .int .i64 free] 60)) [] (.slice none 0 0) ([] : List Int) := ⟨World.ownsRow_nil _ _ _ _, rfl⟩; have hfE : zbc (w.heap.size + 1 + 1) (W2.alloc (.cells #[.slice none 0 0, .int .i64 free] 60)) ([] : List Nat) := ⟨by simp, fun b hb' => by simp at hb'⟩
 have hdE : ∀ b ∈ (Value.slice B2 pl.length k2).ownBlock.toList ++ zaw vs, b ∉ ([] : List Nat) := fun b _ hb2 => by simp at hb2
 have hsn := zj8 (B := w.heap.size + 1 + 1) (w := (W2.alloc (.cells #[.slice none 0 0, .int .i64 free] 60))) (w' := w3) (q := .slice B2 pl.length k2) (ll := pl) Hvl.out (fun i p r hp hr => ⟨(Hrows.out i p r hp hr).1, zac (Hrows.out i p r hp hr).2 bA⟩) (zaa HFP.out (Nat.le_refl _) bA.size) hkE hfE hdE (by rw [Hvl.out]; exact own3) gr3 at3
 obtain ⟨SN, hSN⟩ : ∃ T, (Value.slice D3 (pl.length + 1) e3).ownBlock.toList ++ zaw (vs ++ [(.slice none 0 0, free)]) = T := ⟨_, rfl⟩
 have hnew : ∀ x ∈ SN, x ∈ SK12 ∨ W2.heap.size <= x := by
  intro x hx; rw [<- hSN, zfr] at hx
  rcases List.mem_append.1 hx with hx | hx
  ·rcases at3 with e | e
   ·rw [e] at hx; exact .inl (by rw [HES.out]; exact List.mem_append_left _ hx)
   ·rw [e] at hx; simp at hx; right; omega
  ·rcases List.mem_append.1 hx with hx | hx
   ·exact .inl (by rw [HES.out]; exact List.mem_append_right _ hx)
   ·right; simp [Value.ownBlock] at hx
 rw [hSN] at hsn; have ON := Lib.hid hsn.1; have FN := Lib.hid hsn.2; have HN := Lib.hid hnew
 have DN : Hid (∀ x ∈ SN, x ∉ [w.heap.size, w.heap.size + 1, go]) := (fun x hx => by
  rcases HN.out x hx with h1 | h1
  ·exact DK12.out x h1
  ·simp; omega)
 have J1N : Hid (∀ x ∈ SK11, x ∉ SN) := (fun x hx hx' => by
  rcases HN.out x hx' with h1 | h1
  ·exact JK1.out x hx h1
  ·have := UK11.out x hx; omega)
 have JN3 : Hid (∀ x ∈ SN, x ∉ SK3) := (fun x hx hx' => by
  rcases HN.out x hx with h1 | h1
  ·exact HJ3.out x h1 hx'
  ·have := UK3.out x hx'; omega)
 clear hsn hnew hSN hkE hfE hdE own3 gr3 at3 hch OK12 FK12 DK12 Hown Hrows Hvl HES HFP Hng bA UK11 UK3 HN; replace Lc := Lc.far (g := go) (i := 2) (u := .slice D3 (pl.length + 1) e3) (by omega)
 replace Lr := Lr.far (g := go) (i := 2) (u := .slice D3 (pl.length + 1) e3) (by omega)
 replace Lo : Loc (w3.setCell ⟨go, 2, none⟩ (.slice D3 (pl.length + 1) e3)) (go) [.int .i64 n, .slice B1 cs.length k1, .slice D3 (pl.length + 1) e3, .slice B3 ds.length k3, .int .i64 m] := Lo.set (i := 2) (v := .slice B2 pl.length k2) rfl; have hch : Chg [go] w3 (w3.setCell ⟨go, 2, none⟩ (.slice D3 (pl.length + 1) e3)) := zav (Chg.refl _ _) (by simp)
 replace OK3 := Lib.hid (OK3.out.chg hch (fun x hx hx' => DK3.out x hx (by simp at hx'; subst hx'; simp)))
 replace FK3 := Lib.hid (zaa (w' := (w3.setCell ⟨go, 2, none⟩ (.slice D3 (pl.length + 1) e3))) FK3.out (Nat.le_refl _) hch.size); replace OK11 := Lib.hid (OK11.out.chg hch (fun x hx hx' => DK11.out x hx (by simp at hx'; subst hx'; simp)))
 replace FK11 := Lib.hid (zaa (w' := (w3.setCell ⟨go, 2, none⟩ (.slice D3 (pl.length + 1) e3))) FK11.out (Nat.le_refl _) hch.size); replace ON := Lib.hid (ON.out.chg hch (fun x hx hx' => DN.out x hx (by simp at hx'; subst hx'; simp)))
 replace FN := Lib.hid (zaa (w' := (w3.setCell ⟨go, 2, none⟩ (.slice D3 (pl.length + 1) e3))) FN.out (Nat.le_refl _) hch.size); replace hb : Below w.heap.size w (w3.setCell ⟨go, 2, none⟩ (.slice D3 (pl.length + 1) e3)) := Below.chg hb hch hb.size (by simp; omega)
 have hzc := hch.size; clear hch; generalize w3.setCell ⟨go, 2, none⟩ (.slice D3 (pl.length + 1) e3) = W3 at *
 have o4 := (Lo 4 _ rfl).1; have c4 := (Lc 4 _ rfl).1; have of4 := (Lo 4 _ rfl).2
 go_upto_region 4 with (fail)
 clear o4 c4 of4; replace Lc := Lc.far (g := go) (i := 4) (u := .int .i64 (wrap64 (m - 10))) (by omega)
 replace Lr := Lr.far (g := go) (i := 4) (u := .int .i64 (wrap64 (m - 10))) (by omega)
 replace Lo : Loc (W3.setCell ⟨go, 4, none⟩ (.int .i64 (wrap64 (m - 10)))) (go) [.int .i64 n, .slice B1 cs.length k1, .slice D3 (pl.length + 1) e3, .slice B3 ds.length k3, .int .i64 (wrap64 (m - 10))] := Lo.set (i := 4) (v := .int .i64 m) rfl; have hch : Chg [go] W3 (W3.setCell ⟨go, 4, none⟩ (.int .i64 (wrap64 (m - 10)))) := zav (Chg.refl _ _) (by simp)
 replace OK3 := Lib.hid (OK3.out.chg hch (fun x hx hx' => DK3.out x hx (by simp at hx'; subst hx'; simp)))
 replace FK3 := Lib.hid (zaa (w' := (W3.setCell ⟨go, 4, none⟩ (.int .i64 (wrap64 (m - 10))))) FK3.out (Nat.le_refl _) hch.size); replace OK11 := Lib.hid (OK11.out.chg hch (fun x hx hx' => DK11.out x hx (by simp at hx'; subst hx'; simp)))
 replace FK11 := Lib.hid (zaa (w' := (W3.setCell ⟨go, 4, none⟩ (.int .i64 (wrap64 (m - 10))))) FK11.out (Nat.le_refl _) hch.size); replace ON := Lib.hid (ON.out.chg hch (fun x hx hx' => DN.out x hx (by simp at hx'; subst hx'; simp)))
 replace FN := Lib.hid (zaa (w' := (W3.setCell ⟨go, 4, none⟩ (.int .i64 (wrap64 (m - 10))))) FN.out (Nat.le_refl _) hch.size); replace hb : Below w.heap.size w (W3.setCell ⟨go, 4, none⟩ (.int .i64 (wrap64 (m - 10)))) := Below.chg hb hch hb.size (by simp; omega)
 have hzc := hch.size; clear hch; generalize W3.setCell ⟨go, 4, none⟩ (.int .i64 (wrap64 (m - 10))) = W4 at *
 have OC : za4 W4 (SK11 ++ SN) (.slice B1 cs.length k1) (.slice D3 (pl.length + 1) e3) cs (pl ++ [([], free)]) := ⟨_, _, rfl, OK11.out, ON.out⟩; have OC' := OC; clear OC; have FC := Lib.hid (zbf FK11.out FN.out (J1N.out)); have DC : Hid (∀ x ∈ SK11 ++ SN, x ∉ [w.heap.size, w.heap.size + 1, go]) := (fun x hx => (List.mem_append.1 hx).elim (DK11.out x) (DN.out x))
 have OC := Lib.hid (OC'); clear OK11 FK11 DK11 ON FN DN; obtain ⟨SC, hSC⟩ : ∃ T, SK11 ++ SN = T := ⟨_, rfl⟩; rw [hSC] at OC FC DC; clear OC'
 have JC3 : ∀ x ∈ SC, x ∉ SK3 := fun x hx => by
  rw [<- hSC] at hx; exact (List.mem_append.1 hx).elim (HJ13.out x) (JN3.out x)
 have HJC := Lib.hid JC3; clear JC3; have OP : zai W4 (SC ++ SK3) (.slice B1 cs.length k1) (.slice D3 (pl.length + 1) e3) (.slice B3 ds.length k3) cs (pl ++ [([], free)]) ds := ⟨_, _, rfl, OC.out, OK3.out⟩; clear hSC; have FQ := Lib.hid (zbf FC.out FK3.out (HJC.out)); have DQ : Hid (∀ x ∈ SC ++ SK3, x ∉ [w.heap.size, w.heap.size + 1, go]) := (fun x hx => (List.mem_append.1 hx).elim (DC.out x) (DK3.out x))
 have OQ := Lib.hid (OP); clear OC FC DC OK3 FK3 DK3; obtain ⟨SQ, hSQ⟩ : ∃ T, SC ++ SK3 = T := ⟨_, rfl⟩; rw [hSQ] at OQ FQ DQ; clear hSQ; clear OP; obtain ⟨c0, c1, c2, c3, c4⟩ := Lc.a5; go_wp2_with fail; refine twoB (za3 n m _ _ _ cs pl ds _ (h.below hb)) (fun W5 hq q => ?_) (fun W5 hq q => ?_)
 ·skip
  clear c0 c1 c2 c3 c4; have hzq : W4.heap.size <= W5.heap.size := by have := q.size; (try simp at this); omega
  replace Lc := Lc.below q; replace Lr := Lr.below q; replace Lo := Lo.below q; replace OQ := Lib.hid (OQ.out.below q); replace FQ := Lib.hid (zaa (w' := W5) FQ.out (Nat.le_refl _) hzq); replace hb : Below w.heap.size w W5 := hb.trans (q.mono hb.size); clear q; obtain ⟨o0, o1, o2, o3, o4⟩ := Lo.a5; go_wp2_with fail; refine twoB (za3 n (wrap64 (m - 10)) _ _ _ cs (pl ++ [([], free)]) ds _ OQ.out.rd) (fun W6 hq' q => ?_) (fun W6 hq' q => ?_)
  ·skip
   clear o0 o1 o2 o3 o4; have hzq : W5.heap.size <= W6.heap.size := by have := q.size; (try simp at this); omega
   replace Lc := Lc.below q; replace Lr := Lr.below q; replace Lo := Lo.below q; replace OQ := Lib.hid (OQ.out.below q); replace FQ := Lib.hid (zaa (w' := W6) FQ.out (Nat.le_refl _) hzq); replace hb : Below w.heap.size w W6 := hb.trans (q.mono hb.size); clear q; obtain ⟨o0, o1, o2, o3, o4⟩ := Lo.a5; obtain ⟨r0, r1, r2, r3, r4⟩ := Lr.a5; obtain ⟨rf0, rf1, rf2, rf3, rf4⟩ := Lr.b5; go_wp2_with fail; refine bodyPost_ret (v := .tuple #[.agg #[.int .i64 n, .slice B1 cs.length k1, .slice D3 (pl.length + 1) e3, .slice B3 ds.length k3, .int .i64 (wrap64 (m - 10))], .bool true]) (by simp [results, Tryz.results53, go_sem, *]) rfl (zsj ⟨hq.out, rfl, hq'.out⟩ ⟨_, _, _, SQ, rfl, ?_, ?_, ?_⟩)
   ·exact OQ.out.chg (T := [w.heap.size + 1]) (cS) (fun x hx hx' => DQ.out x hx (by simp at hx'; subst hx'; simp))
   ·exact zaa FQ.out (by omega) (by simp)
   ·exact Below.chg hb (S := [w.heap.size + 1]) (cS) hb.size (fun x hx => by simp at hx; omega)
  ·skip
   clear o0 o1 o2 o3 o4; have hzq : W5.heap.size <= W6.heap.size := by have := q.size; (try simp at this); omega
   replace Lc := Lc.below q; replace Lr := Lr.below q; replace Lo := Lo.below q; replace OQ := Lib.hid (OQ.out.below q); replace FQ := Lib.hid (zaa (w' := W6) FQ.out (Nat.le_refl _) hzq); replace hb : Below w.heap.size w W6 := hb.trans (q.mono hb.size); clear q; obtain ⟨c0, c1, c2, c3, c4⟩ := Lc.a5; go_wp2_with fail; refine (zbr n m _ _ _ cs pl ds _ (h.below hb) hsz).mono ?_; rintro e W7 ⟨y1, y2, y3, T, rfl, ow6, f6, q⟩; clear c0 c1 c2 c3 c4; obtain ⟨⟨D1, e1, rfl⟩, ⟨D2, e2, rfl⟩, ⟨D3, e3, rfl⟩⟩ := ow6.rd.forms; have hzq : W6.heap.size <= W7.heap.size := by have := q.size; (try simp at this); omega
   replace Lc := Lc.below q; replace Lr := Lr.below q; replace Lo := Lo.below q; replace OQ := Lib.hid (OQ.out.below q); replace FQ := Lib.hid (zaa (w' := W7) FQ.out (Nat.le_refl _) hzq); replace hb : Below w.heap.size w W7 := hb.trans (q.mono hb.size); have hlow : W6.heap.size <= W6.heap.size := by first | exact Nat.le_refl _ | (simp; done) | (simp; omega) | omega
   have FZ := Lib.hid (zaa f6 hlow (Nat.le_refl _)); have DZ : Hid (∀ x ∈ T, x ∉ [w.heap.size, w.heap.size + 1, go]) := (fun x hx => by have := (FZ.out.2 x hx).1; simp; omega)
   have OZ := Lib.hid ow6; clear ow6 f6 hlow; clear q; obtain ⟨r0, r1, r2, r3, r4⟩ := Lr.a5; obtain ⟨rf0, rf1, rf2, rf3, rf4⟩ := Lr.b5; go_wp2_with fail; refine bodyPost_ret (v := .tuple #[.agg #[.int .i64 n, .slice D1 cs.length e1, .slice D2 pl.length e2, .slice D3 ds.length e3, .int .i64 m], .bool false]) (by simp [results, Tryz.results53, go_sem, *]) rfl (zf0 (fun hh => absurd (show zau n (wrap64 (m - 10)) cs (pl ++ [([], free)]) ds = true from hh.2.2) (by rw [hq'.out]; simp)) ⟨_, _, _, T, rfl, ?_, ?_, ?_⟩)
   ·exact OZ.out.chg (T := [w.heap.size + 1]) (cS) (fun x hx hx' => DZ.out x hx (by simp at hx'; subst hx'; simp))
   ·exact zaa FZ.out (by omega) (by simp)
   ·exact Below.chg hb (S := [w.heap.size + 1]) (cS) hb.size (fun x hx => by simp at hx; omega)
 ·skip
  clear c0 c1 c2 c3 c4; have hzq : W4.heap.size <= W5.heap.size := by have := q.size; (try simp at this); omega
  replace Lc := Lc.below q; replace Lr := Lr.below q; replace Lo := Lo.below q; replace OQ := Lib.hid (OQ.out.below q); replace FQ := Lib.hid (zaa (w' := W5) FQ.out (Nat.le_refl _) hzq); replace hb : Below w.heap.size w W5 := hb.trans (q.mono hb.size); clear q; obtain ⟨c0, c1, c2, c3, c4⟩ := Lc.a5; go_wp2_with fail; refine (zbr n m _ _ _ cs pl ds _ (h.below hb) hsz).mono ?_; rintro e W6 ⟨y1, y2, y3, T, rfl, ow6, f6, q⟩; clear c0 c1 c2 c3 c4; obtain ⟨⟨D1, e1, rfl⟩, ⟨D2, e2, rfl⟩, ⟨D3, e3, rfl⟩⟩ := ow6.rd.forms; have hzq : W5.heap.size <= W6.heap.size := by have := q.size; (try simp at this); omega
  replace Lc := Lc.below q; replace Lr := Lr.below q; replace Lo := Lo.below q; replace OQ := Lib.hid (OQ.out.below q); replace FQ := Lib.hid (zaa (w' := W6) FQ.out (Nat.le_refl _) hzq); replace hb : Below w.heap.size w W6 := hb.trans (q.mono hb.size); have hlow : W5.heap.size <= W5.heap.size := by first | exact Nat.le_refl _ | (simp; done) | (simp; omega) | omega
  have FZ := Lib.hid (zaa f6 hlow (Nat.le_refl _)); have DZ : Hid (∀ x ∈ T, x ∉ [w.heap.size, w.heap.size + 1, go]) := (fun x hx => by have := (FZ.out.2 x hx).1; simp; omega)
  have OZ := Lib.hid ow6; clear ow6 f6 hlow; clear q; obtain ⟨r0, r1, r2, r3, r4⟩ := Lr.a5; obtain ⟨rf0, rf1, rf2, rf3, rf4⟩ := Lr.b5; go_wp2_with fail; refine bodyPost_ret (v := .tuple #[.agg #[.int .i64 n, .slice D1 cs.length e1, .slice D2 pl.length e2, .slice D3 ds.length e3, .int .i64 m], .bool false]) (by simp [results, Tryz.results53, go_sem, *]) rfl (zf0 (fun hh => absurd (show zau n m cs pl ds = true from hh.1) (by rw [hq.out]; simp)) ⟨_, _, _, T, rfl, ?_, ?_, ?_⟩)
  ·exact OZ.out.chg (T := [w.heap.size + 1]) (cS) (fun x hx hx' => DZ.out x hx (by simp at hx'; subst hx'; simp))
  ·exact zaa FZ.out (by omega) (by simp)
  ·exact Below.chg hb (S := [w.heap.size + 1]) (cS) hb.size (fun x hx => by simp at hx; omega)
theorem zdd {w : World} {B : Nat} {e : TypeId} {size n : Nat} {v : Value} {xs : List Value} (h : w.ownsRow B e size v n xs) (k : Nat) : (w.drewN k).ownsRow B e size v n xs := h
theorem znw {out : List zad} (h : 0 < out.length) : zg2 out = out[out.length - 1] := by
 unfold zg2; rw [List.getD_eq_getElem?_getD, List.getElem?_eq_getElem (by omega)]; rfl
theorem zez {out : List zad} {c : zad} (h : zjb out c = false) : zdm out c = out ++ [c] := by rw [zdm, h]; rfl
theorem zj7 {out : List zad} {c : zad} (h : zjb out c = true) : zdm out c = out.take (out.length - 1) := by rw [zdm, h]; rfl
theorem zq3 {out : List zad} {c : zad} (h : out.length = 0) : zjb out c = false := by rw [zjb, h]; rfl
theorem zt6 {out : List zad} {c : zad} {q : zad} (hl : zg2 out = q) (h : q.1 ≠ c.1) : zjb out c = false := by rw [zjb, hl, decide_eq_false h]; simp
theorem zm7 {out : List zad} {c : zad} {q : zad} (hl : zg2 out = q) (h : q.2 = c.2) : zjb out c = false := by rw [zjb, hl, h]; simp
theorem zre {out : List zad} {c : zad} {q : zad} (h0 : 0 < out.length) (hl : zg2 out = q) (h1 : q.1 = c.1) (h2 : q.2 ≠ c.2) : zjb out c = true := by
 rw [zjb, hl, decide_eq_true h0, decide_eq_true h1]; simpa using h2
theorem zj5 {w : World} {B : Nat} {A : Option Addr} {c : Nat} {out : List zad} (h : w.ownsRow B 82 2 (.slice A out.length c) out.length (out.flatMap zah)) (h0 : 0 < out.length) : w.ownsRow B 82 2 (.slice A (out.length - 1) c) (out.take (out.length - 1)).length ((out.take (out.length - 1)).flatMap zah) := by
 have hl : (out.take (out.length - 1)).length = out.length - 1 := by rw [List.length_take]; omega
 rw [hl, ztr zby]; exact zmc h (by omega) h0
theorem zlb (n : Int) (v : Value) (cs : List zad) (w : World) (h : RdL zah 2 w v cs) (hl : cs.length <= 1048576) :
  Calls Tryz.prog 153 #[.int .i64 n, v] w fun e w' => ∃ v', e = .returned v' /\ w'.ownsRow w.heap.size 82 2 v' (redL n cs).length ((redL n cs).flatMap zah) /\ Below w.heap.size w w' := by
 have h0 := h; obtain ⟨A, c, rfl, h1, h2⟩ := h.form; obtain ⟨i0, hi0, hz0, hz1, hz2⟩ := info_parts zco
 go_enter Tryz.func153, Tryz.ntmps153
 go_wp2_with fail; refine twoB (zb6 n _ cs _ h0) (fun w1 hq hb => ?_) (fun w1 hq hb => ?_)
 ·have hr := h0.below hb
  have hz1' := hb.size; go_wp2_with fail
  go_loopw [5, 16] (fun q i wr => ∃ k : Nat, k <= cs.length /\ i = .int .i64 k /\ wr.ownsRow w1.heap.size 82 2 q (redF (cs.take k)).length ((redF (cs.take k)).flatMap zah) /\ Below w1.heap.size w1 wr) (fun _ i _ => cs.length - (intOf i).toNat)
  case atStart => exact ⟨0, Nat.zero_le _, rfl, World.ownsRow_made (size := 2) (e := 82) w1 #[] 0 (Nat.le_refl _) (by simp [maxLen]) rfl, bL⟩
  case round =>
   obtain ⟨k, hk, rfl, hown, hbr⟩ := hrel; have hz := hbr.size
   by_cases hlt : k < cs.length
   ·obtain ⟨g, off, rfl, hg, hc⟩ := (hr.below hbr).cell zby (by omega) hlt
    have k0 := hc 0 _ rfl; have k1 := hc 1 _ rfl
    simp only [Nat.add_zero] at k0 k1
    clear hc; have hol := zms cs k hk; have Hsu := Lib.hid (zk2 cs hlt); generalize redF (cs.take k) = out at *
    generalize hcc : cs[k] = cc at *
    clear hcc; obtain ⟨ca, cf⟩ := cc
    by_cases hn : out.length = 0
    ·have Hst := Lib.hid (zez (c := (ca, cf)) (zq3 hn))
     have hd : decide (0 < (out.length : Int)) = false := decide_eq_false (by omega)
     have hd' : decide (0 < out.length) = false := decide_eq_false (by omega)
     have hnn : (out.length : Int) <= 0 := by omega
     obtain ⟨A1, cap1, rfl, _, _⟩ := (RdS.of_own hown).form; have Hn := Lib.hid hn; clear hn; go_wp2_with fail
     go_quiet (fail)
     rename_i nq
     go_wp2_with (at_builtin; refine zaf _ rfl (.tmp 50) (.tmp 52) _ rfl w1.heap.size 82 i0 _ 2 16 Tryz.underlying33 hi0 hz0 hz1 hz2 rfl (by omega) _ out.length (out.flatMap zah) rfl (zdd ((hown.alloc _)) nq |>.alloc _) _ 1 [.int .i64 ca, .bool cf] rfl (zbz ((wr.alloc _).drewN nq) (wr.heap.size + 1) (by simp) #[.int .i64 ca, .bool cf] _ 2 1 rfl (by simp [maxLen])) (by simp [Value.oneCell']) (by simp [maxLen]; omega) (by omega) (by simp; omega) ?_; intro v2 w2 hown2 hgr2)
     have hb2 := zag ((zdd (hown.alloc _) nq).alloc _) hgr2 (by simp; omega)
     clear hgr2; go_wp2_with fail; go_roundw
     case rel => exact ⟨k + 1, by omega, by go_num, by rw [Hsu.out, Hst.out, List.length_append, List.flatMap_append]; exact hown2, ((below_drewN (hbr.alloc hz _) nq).alloc (by simp; omega) _).trans hb2⟩
     case measure => simp [intOf]; omega
    ·have hon : 0 < out.length := by omega
     obtain ⟨g1, cap1, rfl⟩ := zce hown hon; have hcap : out.length <= cap1 := by obtain ⟨A', c', e, h1, _⟩ := (RdS.of_own hown).form; injection e with _ _ e3; omega
     have hrd : RdL zah 2 wr (.slice (some ⟨g1, 0, none⟩) out.length cap1) out := RdS.of_own hown; obtain ⟨g', off', hAA, hg1, hc1⟩ := hrd.cell (k := out.length - 1) zby (by omega) (by omega)
     injection hAA with hAA
     injection hAA with e1 e2
     subst e1 e2; have j0 := hc1 0 _ rfl; have j1 := hc1 1 _ rfl
     simp only [Nat.add_zero, Nat.zero_add] at j0 j1
     clear hc1 hrd hn; have hlo := znw hon; rw [<- hlo] at j0 j1; clear hlo; obtain ⟨la, lf, hq2⟩ : ∃ la lf, zg2 out = (la, lf) := ⟨_, _, rfl⟩; rw [hq2] at j0 j1; have Hq2 := Lib.hid hq2; clear hq2; have i0' := za8 (.cells #[.int .i64 ca, .bool cf] 82) j0; have i1' := za8 (.cells #[.int .i64 ca, .bool cf] 82) j1; have hw1 : IntKind.i64.wrap ((out.length : Int) - 1) = (out.length : Int) - 1 := IntWalk.i64_in _ (by omega)
     have hw2 : (0 : Int) <= (out.length : Int) - 1 := by omega
     have hw2' : (1 : Int) <= (out.length : Int) := by omega
     have hw4 : (out.length : Int) - 1 < (out.length : Int) := by omega
     have hw3 : ((out.length : Int) - 1).toNat = out.length - 1 := by omega
     have hd : decide (0 < (out.length : Int)) = true := decide_eq_true (by omega)
     by_cases hla : la = ca
     ·subst hla
      have hbe : (la == la) = true := by simp
      cases lf <;> cases cf
      ·have Hst := Lib.hid (zez (zm7 (c := (la, false)) Hq2.out rfl))
       go_wp2_with fail
       go_quiet (fail)
       rename_i nq
       go_wp2_with (at_builtin; refine zaf _ rfl (.tmp 50) (.tmp 52) _ rfl w1.heap.size 82 i0 _ 2 16 Tryz.underlying33 hi0 hz0 hz1 hz2 rfl (by omega) _ out.length (out.flatMap zah) rfl (zdd ((hown.alloc _)) nq |>.alloc _) _ 1 [.int .i64 la, .bool false] rfl (zbz ((wr.alloc _).drewN nq) (wr.heap.size + 1) (by simp) #[.int .i64 la, .bool false] _ 2 1 rfl (by simp [maxLen])) (by simp [Value.oneCell']) (by simp [maxLen]; omega) (by omega) (by simp; omega) ?_; intro v2 w2 hown2 hgr2)
       have hb2 := zag ((zdd (hown.alloc _) nq).alloc _) hgr2 (by simp; omega)
       clear hgr2; go_wp2_with fail; go_roundw
       case rel => exact ⟨k + 1, by omega, by go_num, by rw [Hsu.out, Hst.out, List.length_append, List.flatMap_append]; exact hown2, ((below_drewN (hbr.alloc hz _) nq).alloc (by simp; omega) _).trans hb2⟩
       case measure => simp [intOf]; omega
      ·have Hst := Lib.hid (zj7 (zre (c := (la, true)) hon Hq2.out rfl (by simp)))
       go_wp2_with fail
       go_quiet (fail)
       rename_i nq
       go_wp2_with fail; go_roundw
       case rel => exact ⟨k + 1, by omega, by go_num, by rw [Hsu.out, Hst.out]; exact zdd ((zj5 hown hon).alloc _) nq, below_drewN (hbr.alloc hz _) nq⟩
       case measure => simp [intOf]; omega
      ·have Hst := Lib.hid (zj7 (zre (c := (la, false)) hon Hq2.out rfl (by simp)))
       go_wp2_with fail
       go_quiet (fail)
       rename_i nq
       go_wp2_with fail; go_roundw
       case rel => exact ⟨k + 1, by omega, by go_num, by rw [Hsu.out, Hst.out]; exact zdd ((zj5 hown hon).alloc _) nq, below_drewN (hbr.alloc hz _) nq⟩
       case measure => simp [intOf]; omega
      ·have Hst := Lib.hid (zez (zm7 (c := (la, true)) Hq2.out rfl))
       go_wp2_with fail
       go_quiet (fail)
       rename_i nq
       go_wp2_with (at_builtin; refine zaf _ rfl (.tmp 50) (.tmp 52) _ rfl w1.heap.size 82 i0 _ 2 16 Tryz.underlying33 hi0 hz0 hz1 hz2 rfl (by omega) _ out.length (out.flatMap zah) rfl (zdd ((hown.alloc _)) nq |>.alloc _) _ 1 [.int .i64 la, .bool true] rfl (zbz ((wr.alloc _).drewN nq) (wr.heap.size + 1) (by simp) #[.int .i64 la, .bool true] _ 2 1 rfl (by simp [maxLen])) (by simp [Value.oneCell']) (by simp [maxLen]; omega) (by omega) (by simp; omega) ?_; intro v2 w2 hown2 hgr2)
       have hb2 := zag ((zdd (hown.alloc _) nq).alloc _) hgr2 (by simp; omega)
       clear hgr2; go_wp2_with fail; go_roundw
       case rel => exact ⟨k + 1, by omega, by go_num, by rw [Hsu.out, Hst.out, List.length_append, List.flatMap_append]; exact hown2, ((below_drewN (hbr.alloc hz _) nq).alloc (by simp; omega) _).trans hb2⟩
       case measure => simp [intOf]; omega
     ·have hbe : (la == ca) = false := by rw [beq_eq_false_iff_ne]; exact hla
      have Hst := Lib.hid (zez (zt6 (c := (ca, cf)) Hq2.out hla)); clear hla; go_wp2_with fail
      go_quiet (fail)
      rename_i nq
      go_wp2_with (at_builtin; refine zaf _ rfl (.tmp 50) (.tmp 52) _ rfl w1.heap.size 82 i0 _ 2 16 Tryz.underlying33 hi0 hz0 hz1 hz2 rfl (by omega) _ out.length (out.flatMap zah) rfl (zdd ((hown.alloc _)) nq |>.alloc _) _ 1 [.int .i64 ca, .bool cf] rfl (zbz ((wr.alloc _).drewN nq) (wr.heap.size + 1) (by simp) #[.int .i64 ca, .bool cf] _ 2 1 rfl (by simp [maxLen])) (by simp [Value.oneCell']) (by simp [maxLen]; omega) (by omega) (by simp; omega) ?_; intro v2 w2 hown2 hgr2)
      have hb2 := zag ((zdd (hown.alloc _) nq).alloc _) hgr2 (by simp; omega)
      clear hgr2; go_wp2_with fail; go_roundw
      case rel => exact ⟨k + 1, by omega, by go_num, by rw [Hsu.out, Hst.out, List.length_append, List.flatMap_append]; exact hown2, ((below_drewN (hbr.alloc hz _) nq).alloc (by simp; omega) _).trans hb2⟩
      case measure => simp [intOf]; omega
   ·obtain rfl : k = cs.length := by omega
    rw [List.take_length] at hown; go_wp2_with fail; go_ret; refine ⟨_, rfl, ?_, hb.trans (hbr.mono hz1')⟩; rw [redL, if_pos hq.out]; exact zaj hown hz1'
 ·go_wp2_with fail
  go_ret
  refine ⟨_, rfl, ?_, hb⟩; rw [redL, if_neg (by rw [hq.out]; simp)]
  exact World.ownsRow_nil _ _ _ _
theorem zki (n : Int) (v : Value) (cs : List zad) (w : World) (h : RdL zah 2 w v cs) (hl : cs.length <= 1048576) :
  Calls Tryz.prog 132 #[.int .i64 n, v] w fun e w' => ∃ v', e = .returned v' /\ w'.ownsRow w.heap.size 82 2 v' (redL n cs).length ((redL n cs).flatMap zah) /\ Below w.heap.size w w' := by
 have h0 := h; have hcon := fun (W : World) (hW : RdL zah 2 W v cs) => zbs n v cs W hW
 obtain ⟨A, c, rfl, h1, h2⟩ := h.form; obtain ⟨i0, hi0, hz0, hz1, hz2⟩ := info_parts zco
 cases hcb : zax n cs
 ·rw [hcb] at hcon
  have Hcon := Lib.hid hcon; have Hcb := Lib.hid hcb; clear hcon hcb
  go_enter Tryz.func132, Tryz.ntmps132
  go_wp2_with fail
  go_loopw [5, 6] (fun q i wr => i = .int .i64 (0 : Nat) /\ wr.ownsRow w.heap.size 82 2 q 0 [] /\ Below w.heap.size w wr) (fun _ _ _ => 0)
  case atStart => exact ⟨rfl, World.ownsRow_made (size := 2) (e := 82) w #[] 0 (Nat.le_refl _) (by simp [maxLen]) rfl, bL⟩
  case round =>
   obtain ⟨rfl, hown, hbr⟩ := hrel; have hz := hbr.size; have hi00 : ((0 : Nat) : Int) = 0 := rfl
   by_cases hlt : 0 < cs.length
   ·go_wp2_with fail
    refine (Hcon.out _ (h0.below hbr)).mono ?_; rintro e w2 ⟨rfl, q2⟩; go_wp2_with fail; go_ret; refine ⟨_, rfl, ?_, hbr.trans (q2.mono hz)⟩; rw [redL, if_neg (by rw [Hcb.out]; simp)]
    exact zac hown q2
   ·go_wp2_with fail
    go_ret
    refine ⟨_, rfl, ?_, hbr⟩; rw [redL, if_neg (by rw [Hcb.out]; simp)]
    exact hown
 ·rw [hcb] at hcon
  have Hcon := Lib.hid hcon; have Hcb := Lib.hid hcb; clear hcon hcb; obtain ⟨w1, hw1e⟩ : ∃ w1, w1 = w := ⟨_, rfl⟩; have hb : Below w.heap.size w w1 := by rw [hw1e]; exact Below.refl _ _
  have hr := h0.below hb; have hz1' := hb.size; rw [<- hw1e]; clear hw1e
  go_enter Tryz.func132, Tryz.ntmps132
  go_wp2_with fail
  go_loopw [5, 6] (fun q i wr => ∃ k : Nat, k <= cs.length /\ i = .int .i64 k /\ wr.ownsRow w1.heap.size 82 2 q (redF (cs.take k)).length ((redF (cs.take k)).flatMap zah) /\ Below w1.heap.size w1 wr) (fun _ i _ => cs.length - (intOf i).toNat)
  case atStart => exact ⟨0, Nat.zero_le _, rfl, World.ownsRow_made (size := 2) (e := 82) w1 #[] 0 (Nat.le_refl _) (by simp [maxLen]) rfl, bL⟩
  case round =>
   obtain ⟨k, hk, rfl, hown, hbr⟩ := hrel; have hz := hbr.size
   by_cases hlt : k < cs.length
   ·have hol := zms cs k hk
    have Hsu := Lib.hid (zk2 cs hlt); generalize redF (cs.take k) = out at *
    go_wp2_with fail; refine (Hcon.out _ (hr.below hbr)).mono ?_; rintro e w2 ⟨rfl, q2⟩; have hb2' := hbr.trans (q2.mono hz); replace hown := zac hown q2; have hzz : w1.heap.size <= w2.heap.size := hb2'.size; clear hbr hz q2 wr; obtain ⟨g, off, rfl, hg, hc⟩ := (hr.below hb2').cell zby (by omega) hlt
    have k0 := hc 0 _ rfl; have k1 := hc 1 _ rfl
    simp only [Nat.add_zero] at k0 k1
    clear hc; generalize hcc : cs[k] = cc at *
    clear hcc; obtain ⟨ca, cf⟩ := cc
    by_cases hn : out.length = 0
    ·have Hst := Lib.hid (zez (c := (ca, cf)) (zq3 hn))
     have hd : decide (0 < (out.length : Int)) = false := decide_eq_false (by omega)
     have hd' : decide (0 < out.length) = false := decide_eq_false (by omega)
     have hnn : (out.length : Int) <= 0 := by omega
     obtain ⟨A1, cap1, rfl, _, _⟩ := (RdS.of_own hown).form; have Hn := Lib.hid hn; clear hn; go_wp2_with fail
     go_quiet (fail)
     rename_i nq
     go_wp2_with (at_builtin; refine zaf _ rfl (.tmp 56) (.tmp 61) _ rfl w1.heap.size 82 i0 _ 2 16 Tryz.underlying33 hi0 hz0 hz1 hz2 rfl (by omega) _ out.length (out.flatMap zah) rfl ((zdd hown nq).alloc _) _ 1 [.int .i64 ca, .bool cf] rfl (zbz (w2.drewN nq) w2.heap.size rfl #[.int .i64 ca, .bool cf] _ 2 1 rfl (by simp [maxLen])) (by simp [Value.oneCell']) (by simp [maxLen]; omega) (by omega) (by simp; omega) ?_; intro v2 w2 hown2 hgr2)
     have hb2 := zag ((zdd hown nq).alloc _) hgr2 (by simp; omega)
     clear hgr2; go_wp2_with fail; go_roundw
     case rel => exact ⟨k + 1, by omega, by go_num, by rw [Hsu.out, Hst.out, List.length_append, List.flatMap_append]; exact hown2, ((below_drewN hb2' nq).alloc (by simp; omega) _).trans hb2⟩
     case measure => simp [intOf]; omega
    ·have hon : 0 < out.length := by omega
     obtain ⟨g1, cap1, rfl⟩ := zce hown hon; have hcap : out.length <= cap1 := by obtain ⟨A', c', e, h1, _⟩ := (RdS.of_own hown).form; injection e with _ _ e3; omega
     have hrd : RdL zah 2 w2 (.slice (some ⟨g1, 0, none⟩) out.length cap1) out := RdS.of_own hown; obtain ⟨g', off', hAA, hg1, hc1⟩ := hrd.cell (k := out.length - 1) zby (by omega) (by omega)
     injection hAA with hAA
     injection hAA with e1 e2
     subst e1 e2; have j0 := hc1 0 _ rfl; have j1 := hc1 1 _ rfl
     simp only [Nat.add_zero, Nat.zero_add] at j0 j1
     clear hc1 hrd hn; have hlo := znw hon; rw [<- hlo] at j0 j1; clear hlo; obtain ⟨la, lf, hq2⟩ : ∃ la lf, zg2 out = (la, lf) := ⟨_, _, rfl⟩; rw [hq2] at j0 j1; have Hq2 := Lib.hid hq2; clear hq2; have hw1 : IntKind.i64.wrap ((out.length : Int) - 1) = (out.length : Int) - 1 := IntWalk.i64_in _ (by omega)
     have hw2 : (0 : Int) <= (out.length : Int) - 1 := by omega
     have hw2' : (1 : Int) <= (out.length : Int) := by omega
     have hw4 : (out.length : Int) - 1 < (out.length : Int) := by omega
     have hw3 : ((out.length : Int) - 1).toNat = out.length - 1 := by omega
     have hk0 : (0 : Int) <= (k : Int) := by omega
     have hkl : (k : Int) < (cs.length : Int) := by omega
     have hd : decide (0 < (out.length : Int)) = true := decide_eq_true (by omega)
     by_cases hla : la = ca
     ·subst hla
      have hbe : (la == la) = true := by simp
      cases lf <;> cases cf
      ·have Hst := Lib.hid (zez (zm7 (c := (la, false)) Hq2.out rfl))
       go_wp2_with fail
       go_quiet (fail)
       rename_i nq
       go_wp2_with (at_builtin; refine zaf _ rfl (.tmp 56) (.tmp 61) _ rfl w1.heap.size 82 i0 _ 2 16 Tryz.underlying33 hi0 hz0 hz1 hz2 rfl (by omega) _ out.length (out.flatMap zah) rfl ((zdd hown nq).alloc _) _ 1 [.int .i64 la, .bool false] rfl (zbz (w2.drewN nq) w2.heap.size rfl #[.int .i64 la, .bool false] _ 2 1 rfl (by simp [maxLen])) (by simp [Value.oneCell']) (by simp [maxLen]; omega) (by omega) (by simp; omega) ?_; intro v2 w2 hown2 hgr2)
       have hb2 := zag ((zdd hown nq).alloc _) hgr2 (by simp; omega)
       clear hgr2; go_wp2_with fail; go_roundw
       case rel => exact ⟨k + 1, by omega, by go_num, by rw [Hsu.out, Hst.out, List.length_append, List.flatMap_append]; exact hown2, ((below_drewN hb2' nq).alloc (by simp; omega) _).trans hb2⟩
       case measure => simp [intOf]; omega
      ·have Hst := Lib.hid (zj7 (zre (c := (la, true)) hon Hq2.out rfl (by simp)))
       go_wp2_with fail
       go_quiet (fail)
       rename_i nq
       go_wp2_with fail; go_roundw
       case rel => exact ⟨k + 1, by omega, by go_num, by rw [Hsu.out, Hst.out]; exact zdd (zj5 hown hon) nq, below_drewN hb2' nq⟩
       case measure => simp [intOf]; omega
      ·have Hst := Lib.hid (zj7 (zre (c := (la, false)) hon Hq2.out rfl (by simp)))
       go_wp2_with fail
       go_quiet (fail)
       rename_i nq
       go_wp2_with fail; go_roundw
       case rel => exact ⟨k + 1, by omega, by go_num, by rw [Hsu.out, Hst.out]; exact zdd (zj5 hown hon) nq, below_drewN hb2' nq⟩
       case measure => simp [intOf]; omega
      ·have Hst := Lib.hid (zez (zm7 (c := (la, true)) Hq2.out rfl))
       go_wp2_with fail
       go_quiet (fail)
       rename_i nq
       go_wp2_with (at_builtin; refine zaf _ rfl (.tmp 56) (.tmp 61) _ rfl w1.heap.size 82 i0 _ 2 16 Tryz.underlying33 hi0 hz0 hz1 hz2 rfl (by omega) _ out.length (out.flatMap zah) rfl ((zdd hown nq).alloc _) _ 1 [.int .i64 la, .bool true] rfl (zbz (w2.drewN nq) w2.heap.size rfl #[.int .i64 la, .bool true] _ 2 1 rfl (by simp [maxLen])) (by simp [Value.oneCell']) (by simp [maxLen]; omega) (by omega) (by simp; omega) ?_; intro v2 w2 hown2 hgr2)
       have hb2 := zag ((zdd hown nq).alloc _) hgr2 (by simp; omega)
       clear hgr2; go_wp2_with fail; go_roundw
       case rel => exact ⟨k + 1, by omega, by go_num, by rw [Hsu.out, Hst.out, List.length_append, List.flatMap_append]; exact hown2, ((below_drewN hb2' nq).alloc (by simp; omega) _).trans hb2⟩
       case measure => simp [intOf]; omega
     ·have hbe : (la == ca) = false := by rw [beq_eq_false_iff_ne]; exact hla
      have Hst := Lib.hid (zez (zt6 (c := (ca, cf)) Hq2.out hla)); clear hla; go_wp2_with fail
      go_quiet (fail)
      rename_i nq
      go_wp2_with (at_builtin; refine zaf _ rfl (.tmp 56) (.tmp 61) _ rfl w1.heap.size 82 i0 _ 2 16 Tryz.underlying33 hi0 hz0 hz1 hz2 rfl (by omega) _ out.length (out.flatMap zah) rfl ((zdd hown nq).alloc _) _ 1 [.int .i64 ca, .bool cf] rfl (zbz (w2.drewN nq) w2.heap.size rfl #[.int .i64 ca, .bool cf] _ 2 1 rfl (by simp [maxLen])) (by simp [Value.oneCell']) (by simp [maxLen]; omega) (by omega) (by simp; omega) ?_; intro v2 w2 hown2 hgr2)
      have hb2 := zag ((zdd hown nq).alloc _) hgr2 (by simp; omega)
      clear hgr2; go_wp2_with fail; go_roundw
      case rel => exact ⟨k + 1, by omega, by go_num, by rw [Hsu.out, Hst.out, List.length_append, List.flatMap_append]; exact hown2, ((below_drewN hb2' nq).alloc (by simp; omega) _).trans hb2⟩
      case measure => simp [intOf]; omega
   ·obtain rfl : k = cs.length := by omega
    rw [List.take_length] at hown; go_wp2_with fail; go_ret; refine ⟨_, rfl, ?_, hbr⟩; rw [redL, if_pos Hcb.out]; exact hown
def zmu (n : Int) (cs : List zad) (pl : List RPl) : List zad := if za7 n cs pl = true then redL n cs else cs
theorem zwx {n : Int} {cs : List zad} {pl : List RPl} {w w' : World} {e : Ending} (h : za7 n cs pl = false) (hr : zc4 n cs pl w e w') : zc4 n (zmu n cs pl) pl w e w' := by rw [zmu, h]; exact hr
theorem zxt {n : Int} {cs : List zad} {pl : List RPl} {w w' : World} {e : Ending} (h : za7 n cs pl = true) (hr : zc4 n (redL n cs) pl w e w') : zc4 n (zmu n cs pl) pl w e w' := by rw [zmu, h]; exact hr
theorem zn9 (n : Int) (v1 v2 : Value) (cs : List zad) (pl : List RPl) (w : World) (h : zaq w v1 v2 cs pl) (hsz : zam cs pl <= 1048576) :
  Calls Tryz.prog 121 #[.agg #[.int .i64 n, v1, v2]] w (zc4 n (zmu n cs pl) pl w) := by
 obtain ⟨⟨A1, n1, rfl⟩, ⟨A2, n2, rfl⟩⟩ := h.forms
 go_enter Tryz.func121, Tryz.ntmps121
 have hcl : cs.length <= 1048576 := by unfold zam at hsz; omega
 go_wp2_with fail; refine (zb5 n _ _ cs pl _ (h.below (bM)) hsz).mono ?_
 rintro e W1 ⟨x1, x2, S, rfl, ow, f1, q⟩; obtain ⟨⟨B1, k1, rfl⟩, ⟨B2, k2, rfl⟩⟩ := ow.rd.forms; have Lc : Loc W1 (w.heap.size) [.int .i64 n, .slice A1 cs.length n1, .slice A2 pl.length n2] := by have := ((Loc.new w #[.int .i64 n, .slice A1 cs.length n1, .slice A2 pl.length n2] 36).alloc _).below q; simpa using this
 have Lr : Loc W1 (w.heap.size + 1) [.int .i64 0, .slice none 0 0, .slice none 0 0] := by have := (Loc.new (w.alloc (.cells #[.int .i64 n, .slice A1 cs.length n1, .slice A2 pl.length n2] 36)) #[.int .i64 0, .slice none 0 0, .slice none 0 0] 36).below q; simpa using this
 have hb : Below w.heap.size w W1 := Below.trans (bM) (q.mono (by simp <;> omega))
 have hz0 : w.heap.size + 1 + 1 <= W1.heap.size := by have := q.size; simp at this; omega
 have hlow : w.heap.size + 1 + 1 <= (((w.alloc (.cells #[.int .i64 n, .slice A1 cs.length n1, .slice A2 pl.length n2] 36)).alloc (.cells #[.int .i64 0, .slice none 0 0, .slice none 0 0] 36))).heap.size := by first | exact Nat.le_refl _ | (simp; done) | (simp; omega) | omega
 have FK := Lib.hid (zaa f1 hlow (Nat.le_refl _)); have DK : Hid (∀ x ∈ S, x ∉ [w.heap.size, w.heap.size + 1]) := (fun x hx => by have := (FK.out.2 x hx).1; simp; omega)
 have OK := Lib.hid ow; clear ow f1 hlow; clear q
 go_upto_region 2 with (fail)
 replace Lc : Loc (W1.alloc (.cells #[.int .i64 n, .slice B1 cs.length k1, .slice B2 pl.length k2] 36)) (w.heap.size) [.int .i64 n, .slice A1 cs.length n1, .slice A2 pl.length n2] := Lc.alloc _; replace Lr : Loc (W1.alloc (.cells #[.int .i64 n, .slice B1 cs.length k1, .slice B2 pl.length k2] 36)) (w.heap.size + 1) [.int .i64 0, .slice none 0 0, .slice none 0 0] := Lr.alloc _; obtain ⟨go, hgo⟩ : ∃ g, W1.heap.size = g := ⟨_, rfl⟩; have Lo : Loc (W1.alloc (.cells #[.int .i64 n, .slice B1 cs.length k1, .slice B2 pl.length k2] 36)) W1.heap.size [.int .i64 n, .slice B1 cs.length k1, .slice B2 pl.length k2] := Loc.new W1 #[.int .i64 n, .slice B1 cs.length k1, .slice B2 pl.length k2] 36; rw [hgo] at Lo; replace OK := Lib.hid (OK.out.below (w' := (W1.alloc (.cells #[.int .i64 n, .slice B1 cs.length k1, .slice B2 pl.length k2] 36))) ((Below.refl _ _).alloc (Nat.le_refl _) _)); replace DK : Hid (∀ x ∈ S, x ∉ [w.heap.size, w.heap.size + 1, go]) := (fun x hx => by have := DK.out x hx; have := (FK.out.2 x hx).2; simp at *; omega)
 replace FK := Lib.hid (zaa (w' := (W1.alloc (.cells #[.int .i64 n, .slice B1 cs.length k1, .slice B2 pl.length k2] 36))) FK.out (Nat.le_refl _) (by simp))
 replace hb : Below w.heap.size w (W1.alloc (.cells #[.int .i64 n, .slice B1 cs.length k1, .slice B2 pl.length k2] 36)) := hb.alloc hb.size _; have hlto : go < (W1.alloc (.cells #[.int .i64 n, .slice B1 cs.length k1, .slice B2 pl.length k2] 36)).heap.size := by simp; omega
 have hne_c_o : w.heap.size < go := by omega
 have hne_r_o : w.heap.size + 1 < go := by omega
 generalize W1.alloc (.cells #[.int .i64 n, .slice B1 cs.length k1, .slice B2 pl.length k2] 36) = W2 at *
 rw [hgo]; clear hgo; obtain ⟨c0, c1, c2⟩ := Lc.a3; go_wp2_with fail; refine twoB (zch n _ _ cs pl _ (h.below hb)) (fun W3 hq q => ?_) (fun W3 hq q => ?_)
 ·skip
  clear c0 c1 c2; have hzq : W2.heap.size <= W3.heap.size := by have := q.size; (try simp at this); omega
  replace Lc := Lc.below q; replace Lr := Lr.below q; replace Lo := Lo.below q; replace OK := Lib.hid (OK.out.below q); replace FK := Lib.hid (zaa (w' := W3) FK.out (Nat.le_refl _) hzq); replace hb : Below w.heap.size w W3 := hb.trans (q.mono hb.size); clear q; obtain ⟨SK1, SK2, eK, oK, pK⟩ := OK.out; have FKx := FK.out; have DKx := DK.out; rw [eK] at FKx DKx; have OK1 := Lib.hid oK; have OK2 := Lib.hid pK; have FK1 := Lib.hid (zbp FKx); have FK2 := Lib.hid (za9 FKx); have DK1 : Hid (∀ x ∈ SK1, x ∉ [w.heap.size, w.heap.size + 1, go]) := (fun x hx => DKx x (List.mem_append_left _ hx))
  have DK2 : Hid (∀ x ∈ SK2, x ∉ [w.heap.size, w.heap.size + 1, go]) := (fun x hx => DKx x (List.mem_append_right _ hx))
  have JK : Hid (∀ x ∈ SK1, x ∉ SK2) := (zcm FKx.1).2.2.1; clear OK FK DK FKx DKx oK pK; have hU : ∀ x ∈ SK2, x < W3.heap.size := fun x hx => (FK2.out.2 x hx).2
  obtain ⟨c0, c1, c2⟩ := Lc.a3; go_wp2_with fail; refine (zlb n _ cs _ ((h.below hb).1) hcl).mono ?_; rintro e W4 ⟨x, rfl, own, q⟩; clear c0 c1 c2; obtain ⟨B3, k3, rfl, _, _⟩ := (RdS.of_own own).form; have f3 := zcz own; have o3 : OwL 82 zah 2 W4 _ (.slice B3 (redL n cs).length k3) (redL n cs) := OwL.mk_ own; obtain ⟨SN, hSN⟩ : ∃ T, (Value.slice B3 (redL n cs).length k3).ownBlock.toList = T := ⟨_, rfl⟩; rw [hSN] at o3 f3; clear hSN own; have hzq : W3.heap.size <= W4.heap.size := by have := q.size; (try simp at this); omega
  replace Lc := Lc.below q; replace Lr := Lr.below q; replace Lo := Lo.below q; replace OK1 := Lib.hid (OK1.out.below q); replace FK1 := Lib.hid (zaa (w' := W4) FK1.out (Nat.le_refl _) hzq); replace OK2 := Lib.hid (OK2.out.below q); replace FK2 := Lib.hid (zaa (w' := W4) FK2.out (Nat.le_refl _) hzq); replace hb : Below w.heap.size w W4 := hb.trans (q.mono hb.size); have hlow : W3.heap.size <= W3.heap.size := by first | exact Nat.le_refl _ | (simp; done) | (simp; omega) | omega
  have FN := Lib.hid (zaa f3 hlow (Nat.le_refl _)); have DN : Hid (∀ x ∈ SN, x ∉ [w.heap.size, w.heap.size + 1, go]) := (fun x hx => by have := (FN.out.2 x hx).1; simp; omega)
  have ON := Lib.hid o3; clear o3 f3 hlow; clear q; have hJ : ∀ x ∈ SN, x ∉ SK2 := fun x hx hx' => by have := (FN.out.2 x hx).1; have := hU x hx'; omega
  have HJ := Lib.hid hJ; clear hJ hU; have o1 := (Lo 1 _ rfl).1; have of1 := (Lo 1 _ rfl).2
  go_upto_region 4 with (fail)
  clear o1 of1; replace Lc := Lc.far (g := go) (i := 1) (u := .slice B3 (redL n cs).length k3) (by omega)
  replace Lr := Lr.far (g := go) (i := 1) (u := .slice B3 (redL n cs).length k3) (by omega)
  replace Lo : Loc (W4.setCell ⟨go, 1, none⟩ (.slice B3 (redL n cs).length k3)) (go) [.int .i64 n, .slice B3 (redL n cs).length k3, .slice B2 pl.length k2] := Lo.set (i := 1) (v := .slice B1 cs.length k1) rfl; have hch : Chg [go] W4 (W4.setCell ⟨go, 1, none⟩ (.slice B3 (redL n cs).length k3)) := zav (Chg.refl _ _) (by simp)
  replace OK1 := Lib.hid (OK1.out.chg hch (fun x hx hx' => DK1.out x hx (by simp at hx'; subst hx'; simp)))
  replace FK1 := Lib.hid (zaa (w' := (W4.setCell ⟨go, 1, none⟩ (.slice B3 (redL n cs).length k3))) FK1.out (Nat.le_refl _) hch.size); replace OK2 := Lib.hid (OK2.out.chg hch (fun x hx hx' => DK2.out x hx (by simp at hx'; subst hx'; simp)))
  replace FK2 := Lib.hid (zaa (w' := (W4.setCell ⟨go, 1, none⟩ (.slice B3 (redL n cs).length k3))) FK2.out (Nat.le_refl _) hch.size); replace ON := Lib.hid (ON.out.chg hch (fun x hx hx' => DN.out x hx (by simp at hx'; subst hx'; simp)))
  replace FN := Lib.hid (zaa (w' := (W4.setCell ⟨go, 1, none⟩ (.slice B3 (redL n cs).length k3))) FN.out (Nat.le_refl _) hch.size); replace hb : Below w.heap.size w (W4.setCell ⟨go, 1, none⟩ (.slice B3 (redL n cs).length k3)) := Below.chg hb hch hb.size (by simp; omega)
  have hzc := hch.size; clear hch; generalize W4.setCell ⟨go, 1, none⟩ (.slice B3 (redL n cs).length k3) = W5 at *
  clear OK1 FK1 DK1; have FK2' := Lib.hid (zaa (B' := w.heap.size + 1 + 1) FK2.out (by omega) (Nat.le_refl _))
  have FN' := Lib.hid (zaa (B' := w.heap.size + 1 + 1) FN.out (by omega) (Nat.le_refl _))
  clear FK2 FN; have FK2 := FK2'; have FN := FN'; clear FK2' FN'; have OP : za4 W5 (SN ++ SK2) (.slice B3 (redL n cs).length k3) (.slice B2 pl.length k2) (redL n cs) pl := ⟨_, _, rfl, ON.out, OK2.out⟩; have FQ := Lib.hid (zbf FN.out FK2.out (HJ.out)); have DQ : Hid (∀ x ∈ SN ++ SK2, x ∉ [w.heap.size, w.heap.size + 1, go]) := (fun x hx => (List.mem_append.1 hx).elim (DN.out x) (DK2.out x))
  have OQ := Lib.hid (OP); clear ON FN DN OK2 FK2 DK2; obtain ⟨SQ, hSQ⟩ : ∃ T, SN ++ SK2 = T := ⟨_, rfl⟩; rw [hSQ] at OQ FQ DQ; clear hSQ; clear OP; obtain ⟨o0, o1, o2⟩ := Lo.a3; obtain ⟨r0, r1, r2⟩ := Lr.a3; obtain ⟨rf0, rf1, rf2⟩ := Lr.b3; go_wp2_with fail; refine bodyPost_ret (v := .agg #[.int .i64 n, .slice B3 (redL n cs).length k3, .slice B2 pl.length k2]) (by simp [results, Tryz.results121, go_sem, *]) rfl (zxt hq.out ⟨_, _, SQ, rfl, ?_, ?_, ?_⟩)
  ·exact OQ.out.chg (T := [w.heap.size + 1]) (cS) (fun x hx hx' => DQ.out x hx (by simp at hx'; subst hx'; simp))
  ·exact zaa FQ.out (by omega) (by simp)
  ·exact Below.chg hb (S := [w.heap.size + 1]) (cS) hb.size (fun x hx => by simp at hx; omega)
 ·skip
  clear c0 c1 c2; have hzq : W2.heap.size <= W3.heap.size := by have := q.size; (try simp at this); omega
  replace Lc := Lc.below q; replace Lr := Lr.below q; replace Lo := Lo.below q; replace OK := Lib.hid (OK.out.below q); replace FK := Lib.hid (zaa (w' := W3) FK.out (Nat.le_refl _) hzq); replace hb : Below w.heap.size w W3 := hb.trans (q.mono hb.size); clear q; obtain ⟨o0, o1, o2⟩ := Lo.a3; obtain ⟨r0, r1, r2⟩ := Lr.a3; obtain ⟨rf0, rf1, rf2⟩ := Lr.b3; go_wp2_with fail; refine bodyPost_ret (v := .agg #[.int .i64 n, .slice B1 cs.length k1, .slice B2 pl.length k2]) (by simp [results, Tryz.results121, go_sem, *]) rfl (zwx hq.out ⟨_, _, S, rfl, ?_, ?_, ?_⟩)
  ·exact OK.out.chg (T := [w.heap.size + 1]) (cS) (fun x hx hx' => DK.out x hx (by simp at hx'; subst hx'; simp))
  ·exact zaa FK.out (by omega) (by simp)
  ·exact Below.chg hb (S := [w.heap.size + 1]) (cS) hb.size (fun x hx => by simp at hx; omega)
theorem zoz (n : Int) (v1 v2 : Value) (cs : List zad) (pl : List RPl) (w : World) (h : zaq w v1 v2 cs pl) (hsz : zam cs pl <= 1048576) :
  Calls Tryz.prog 99 #[.agg #[.int .i64 n, v1, v2]] w (zc4 n (zmu n cs pl) pl w) := by
 obtain ⟨⟨A1, n1, rfl⟩, ⟨A2, n2, rfl⟩⟩ := h.forms
 go_enter Tryz.func99, Tryz.ntmps99
 have hcl : cs.length <= 1048576 := by unfold zam at hsz; omega
 go_wp2_with fail; refine (zdt n _ _ cs pl _ (h.below (bM)) hsz).mono ?_
 rintro e W1 ⟨x1, x2, S, rfl, ow, f1, q⟩; obtain ⟨⟨B1, k1, rfl⟩, ⟨B2, k2, rfl⟩⟩ := ow.rd.forms; have Lc : Loc W1 (w.heap.size) [.int .i64 n, .slice A1 cs.length n1, .slice A2 pl.length n2] := by have := ((Loc.new w #[.int .i64 n, .slice A1 cs.length n1, .slice A2 pl.length n2] 36).alloc _).below q; simpa using this
 have Lr : Loc W1 (w.heap.size + 1) [.int .i64 0, .slice none 0 0, .slice none 0 0] := by have := (Loc.new (w.alloc (.cells #[.int .i64 n, .slice A1 cs.length n1, .slice A2 pl.length n2] 36)) #[.int .i64 0, .slice none 0 0, .slice none 0 0] 36).below q; simpa using this
 have hb : Below w.heap.size w W1 := Below.trans (bM) (q.mono (by simp <;> omega))
 have hz0 : w.heap.size + 1 + 1 <= W1.heap.size := by have := q.size; simp at this; omega
 have hlow : w.heap.size + 1 + 1 <= (((w.alloc (.cells #[.int .i64 n, .slice A1 cs.length n1, .slice A2 pl.length n2] 36)).alloc (.cells #[.int .i64 0, .slice none 0 0, .slice none 0 0] 36))).heap.size := by first | exact Nat.le_refl _ | (simp; done) | (simp; omega) | omega
 have FK := Lib.hid (zaa f1 hlow (Nat.le_refl _)); have DK : Hid (∀ x ∈ S, x ∉ [w.heap.size, w.heap.size + 1]) := (fun x hx => by have := (FK.out.2 x hx).1; simp; omega)
 have OK := Lib.hid ow; clear ow f1 hlow; clear q
 go_upto_region 2 with (fail)
 replace Lc : Loc (W1.alloc (.cells #[.int .i64 n, .slice B1 cs.length k1, .slice B2 pl.length k2] 36)) (w.heap.size) [.int .i64 n, .slice A1 cs.length n1, .slice A2 pl.length n2] := Lc.alloc _; replace Lr : Loc (W1.alloc (.cells #[.int .i64 n, .slice B1 cs.length k1, .slice B2 pl.length k2] 36)) (w.heap.size + 1) [.int .i64 0, .slice none 0 0, .slice none 0 0] := Lr.alloc _; obtain ⟨go, hgo⟩ : ∃ g, W1.heap.size = g := ⟨_, rfl⟩; have Lo : Loc (W1.alloc (.cells #[.int .i64 n, .slice B1 cs.length k1, .slice B2 pl.length k2] 36)) W1.heap.size [.int .i64 n, .slice B1 cs.length k1, .slice B2 pl.length k2] := Loc.new W1 #[.int .i64 n, .slice B1 cs.length k1, .slice B2 pl.length k2] 36; rw [hgo] at Lo; replace OK := Lib.hid (OK.out.below (w' := (W1.alloc (.cells #[.int .i64 n, .slice B1 cs.length k1, .slice B2 pl.length k2] 36))) ((Below.refl _ _).alloc (Nat.le_refl _) _)); replace DK : Hid (∀ x ∈ S, x ∉ [w.heap.size, w.heap.size + 1, go]) := (fun x hx => by have := DK.out x hx; have := (FK.out.2 x hx).2; simp at *; omega)
 replace FK := Lib.hid (zaa (w' := (W1.alloc (.cells #[.int .i64 n, .slice B1 cs.length k1, .slice B2 pl.length k2] 36))) FK.out (Nat.le_refl _) (by simp))
 replace hb : Below w.heap.size w (W1.alloc (.cells #[.int .i64 n, .slice B1 cs.length k1, .slice B2 pl.length k2] 36)) := hb.alloc hb.size _; have hlto : go < (W1.alloc (.cells #[.int .i64 n, .slice B1 cs.length k1, .slice B2 pl.length k2] 36)).heap.size := by simp; omega
 have hne_c_o : w.heap.size < go := by omega
 have hne_r_o : w.heap.size + 1 < go := by omega
 generalize W1.alloc (.cells #[.int .i64 n, .slice B1 cs.length k1, .slice B2 pl.length k2] 36) = W2 at *
 rw [hgo]; clear hgo; obtain ⟨c0, c1, c2⟩ := Lc.a3; go_wp2_with fail; refine twoB (zb4 n _ _ cs pl _ (h.below hb)) (fun W3 hq q => ?_) (fun W3 hq q => ?_)
 ·skip
  clear c0 c1 c2; have hzq : W2.heap.size <= W3.heap.size := by have := q.size; (try simp at this); omega
  replace Lc := Lc.below q; replace Lr := Lr.below q; replace Lo := Lo.below q; replace OK := Lib.hid (OK.out.below q); replace FK := Lib.hid (zaa (w' := W3) FK.out (Nat.le_refl _) hzq); replace hb : Below w.heap.size w W3 := hb.trans (q.mono hb.size); clear q; obtain ⟨SK1, SK2, eK, oK, pK⟩ := OK.out; have FKx := FK.out; have DKx := DK.out; rw [eK] at FKx DKx; have OK1 := Lib.hid oK; have OK2 := Lib.hid pK; have FK1 := Lib.hid (zbp FKx); have FK2 := Lib.hid (za9 FKx); have DK1 : Hid (∀ x ∈ SK1, x ∉ [w.heap.size, w.heap.size + 1, go]) := (fun x hx => DKx x (List.mem_append_left _ hx))
  have DK2 : Hid (∀ x ∈ SK2, x ∉ [w.heap.size, w.heap.size + 1, go]) := (fun x hx => DKx x (List.mem_append_right _ hx))
  have JK : Hid (∀ x ∈ SK1, x ∉ SK2) := (zcm FKx.1).2.2.1; clear OK FK DK FKx DKx oK pK; have hU : ∀ x ∈ SK2, x < W3.heap.size := fun x hx => (FK2.out.2 x hx).2
  obtain ⟨c0, c1, c2⟩ := Lc.a3; go_wp2_with fail; refine (zki n _ cs _ ((h.below hb).1) hcl).mono ?_; rintro e W4 ⟨x, rfl, own, q⟩; clear c0 c1 c2; obtain ⟨B3, k3, rfl, _, _⟩ := (RdS.of_own own).form; have f3 := zcz own; have o3 : OwL 82 zah 2 W4 _ (.slice B3 (redL n cs).length k3) (redL n cs) := OwL.mk_ own; obtain ⟨SN, hSN⟩ : ∃ T, (Value.slice B3 (redL n cs).length k3).ownBlock.toList = T := ⟨_, rfl⟩; rw [hSN] at o3 f3; clear hSN own; have hzq : W3.heap.size <= W4.heap.size := by have := q.size; (try simp at this); omega
  replace Lc := Lc.below q; replace Lr := Lr.below q; replace Lo := Lo.below q; replace OK1 := Lib.hid (OK1.out.below q); replace FK1 := Lib.hid (zaa (w' := W4) FK1.out (Nat.le_refl _) hzq); replace OK2 := Lib.hid (OK2.out.below q); replace FK2 := Lib.hid (zaa (w' := W4) FK2.out (Nat.le_refl _) hzq); replace hb : Below w.heap.size w W4 := hb.trans (q.mono hb.size); have hlow : W3.heap.size <= W3.heap.size := by first | exact Nat.le_refl _ | (simp; done) | (simp; omega) | omega
  have FN := Lib.hid (zaa f3 hlow (Nat.le_refl _)); have DN : Hid (∀ x ∈ SN, x ∉ [w.heap.size, w.heap.size + 1, go]) := (fun x hx => by have := (FN.out.2 x hx).1; simp; omega)
  have ON := Lib.hid o3; clear o3 f3 hlow; clear q; have hJ : ∀ x ∈ SN, x ∉ SK2 := fun x hx hx' => by have := (FN.out.2 x hx).1; have := hU x hx'; omega
  have HJ := Lib.hid hJ; clear hJ hU; have o1 := (Lo 1 _ rfl).1; have of1 := (Lo 1 _ rfl).2
  go_upto_region 4 with (fail)
  clear o1 of1; replace Lc := Lc.far (g := go) (i := 1) (u := .slice B3 (redL n cs).length k3) (by omega)
  replace Lr := Lr.far (g := go) (i := 1) (u := .slice B3 (redL n cs).length k3) (by omega)
  replace Lo : Loc (W4.setCell ⟨go, 1, none⟩ (.slice B3 (redL n cs).length k3)) (go) [.int .i64 n, .slice B3 (redL n cs).length k3, .slice B2 pl.length k2] := Lo.set (i := 1) (v := .slice B1 cs.length k1) rfl; have hch : Chg [go] W4 (W4.setCell ⟨go, 1, none⟩ (.slice B3 (redL n cs).length k3)) := zav (Chg.refl _ _) (by simp)
  replace OK1 := Lib.hid (OK1.out.chg hch (fun x hx hx' => DK1.out x hx (by simp at hx'; subst hx'; simp)))
  replace FK1 := Lib.hid (zaa (w' := (W4.setCell ⟨go, 1, none⟩ (.slice B3 (redL n cs).length k3))) FK1.out (Nat.le_refl _) hch.size); replace OK2 := Lib.hid (OK2.out.chg hch (fun x hx hx' => DK2.out x hx (by simp at hx'; subst hx'; simp)))
  replace FK2 := Lib.hid (zaa (w' := (W4.setCell ⟨go, 1, none⟩ (.slice B3 (redL n cs).length k3))) FK2.out (Nat.le_refl _) hch.size); replace ON := Lib.hid (ON.out.chg hch (fun x hx hx' => DN.out x hx (by simp at hx'; subst hx'; simp)))
  replace FN := Lib.hid (zaa (w' := (W4.setCell ⟨go, 1, none⟩ (.slice B3 (redL n cs).length k3))) FN.out (Nat.le_refl _) hch.size); replace hb : Below w.heap.size w (W4.setCell ⟨go, 1, none⟩ (.slice B3 (redL n cs).length k3)) := Below.chg hb hch hb.size (by simp; omega)
  have hzc := hch.size; clear hch; generalize W4.setCell ⟨go, 1, none⟩ (.slice B3 (redL n cs).length k3) = W5 at *
  clear OK1 FK1 DK1; have FK2' := Lib.hid (zaa (B' := w.heap.size + 1 + 1) FK2.out (by omega) (Nat.le_refl _))
  have FN' := Lib.hid (zaa (B' := w.heap.size + 1 + 1) FN.out (by omega) (Nat.le_refl _))
  clear FK2 FN; have FK2 := FK2'; have FN := FN'; clear FK2' FN'; have OP : za4 W5 (SN ++ SK2) (.slice B3 (redL n cs).length k3) (.slice B2 pl.length k2) (redL n cs) pl := ⟨_, _, rfl, ON.out, OK2.out⟩; have FQ := Lib.hid (zbf FN.out FK2.out (HJ.out)); have DQ : Hid (∀ x ∈ SN ++ SK2, x ∉ [w.heap.size, w.heap.size + 1, go]) := (fun x hx => (List.mem_append.1 hx).elim (DN.out x) (DK2.out x))
  have OQ := Lib.hid (OP); clear ON FN DN OK2 FK2 DK2; obtain ⟨SQ, hSQ⟩ : ∃ T, SN ++ SK2 = T := ⟨_, rfl⟩; rw [hSQ] at OQ FQ DQ; clear hSQ; clear OP; obtain ⟨o0, o1, o2⟩ := Lo.a3; obtain ⟨r0, r1, r2⟩ := Lr.a3; obtain ⟨rf0, rf1, rf2⟩ := Lr.b3; go_wp2_with fail; refine bodyPost_ret (v := .agg #[.int .i64 n, .slice B3 (redL n cs).length k3, .slice B2 pl.length k2]) (by simp [results, Tryz.results99, go_sem, *]) rfl (zxt hq.out ⟨_, _, SQ, rfl, ?_, ?_, ?_⟩)
  ·exact OQ.out.chg (T := [w.heap.size + 1]) (cS) (fun x hx hx' => DQ.out x hx (by simp at hx'; subst hx'; simp))
  ·exact zaa FQ.out (by omega) (by simp)
  ·exact Below.chg hb (S := [w.heap.size + 1]) (cS) hb.size (fun x hx => by simp at hx; omega)
 ·skip
  clear c0 c1 c2; have hzq : W2.heap.size <= W3.heap.size := by have := q.size; (try simp at this); omega
  replace Lc := Lc.below q; replace Lr := Lr.below q; replace Lo := Lo.below q; replace OK := Lib.hid (OK.out.below q); replace FK := Lib.hid (zaa (w' := W3) FK.out (Nat.le_refl _) hzq); replace hb : Below w.heap.size w W3 := hb.trans (q.mono hb.size); clear q; obtain ⟨o0, o1, o2⟩ := Lo.a3; obtain ⟨r0, r1, r2⟩ := Lr.a3; obtain ⟨rf0, rf1, rf2⟩ := Lr.b3; go_wp2_with fail; refine bodyPost_ret (v := .agg #[.int .i64 n, .slice B1 cs.length k1, .slice B2 pl.length k2]) (by simp [results, Tryz.results99, go_sem, *]) rfl (zwx hq.out ⟨_, _, S, rfl, ?_, ?_, ?_⟩)
  ·exact OK.out.chg (T := [w.heap.size + 1]) (cS) (fun x hx hx' => DK.out x hx (by simp at hx'; subst hx'; simp))
  ·exact zaa FK.out (by omega) (by simp)
  ·exact Below.chg hb (S := [w.heap.size + 1]) (cS) hb.size (fun x hx => by simp at hx; omega)
def atF (n : Int) : List Int -> Nat
 | [] => 0
 | x :: l => if x < n then atF n l + 1 else 0
theorem zxe {n : Int} : ∀ (l : List Int) (k : Nat), k <= l.length -> (∀ j (h : j < l.length), j < k -> l[j] < n) -> (∀ h : k < l.length, ¬ l[k] < n) -> atF n l = k := by
 intro l
 induction l with
 | nil => intro k hk _ _; simp at hk; subst hk; rfl
 | cons x l ih =>
  intro k hk h1 h2
  cases k with
  | zero => have := h2 (by simp); simp only [List.getElem_cons_zero] at this; unfold atF; rw [if_neg this]
  | succ k =>
   have h0 := h1 0 (by simp) (by omega)
   simp only [List.getElem_cons_zero] at h0
   unfold atF; rw [if_pos h0, ih k (by simpa using hk) (fun j hj hjk => by have := h1 (j + 1) (by simpa using hj) (by omega); simpa using this) (fun hk' => by have := h2 (by simpa using hk'); simpa using this)]
theorem zy2 (n : Int) (l : List Int) : putF n l = l.take (atF n l) ++ [n] ++ l.drop (atF n l) := by
 induction l with
 | nil => rfl
 | cons x l ih =>
  unfold putF atF
  by_cases h : x < n
  ·rw [if_pos h, if_neg (show ¬ n <= x by omega), ih]; simp
  ·rw [if_neg h, if_pos (show n <= x by omega)]; rfl
theorem zfl (n : Int) (l : List Int) : ((l.take (atF n l)).flatMap cInt ++ [.int .i64 n]) ++ (l.drop (atF n l)).flatMap cInt = (putF n l).flatMap cInt := by
 rw [zy2, List.flatMap_append, List.flatMap_append]; rfl
/- days -/
def addF (l : List Int) (d : Int) : List Int × Bool := if zct l = true /\ zct (putF d l) = true then (putF d l, true) else (l, false)
theorem zrr {l : List Int} {d : Int} (h1 : zct l = true) (h2 : zct (putF d l) = true) : addF l d = (putF d l, true) := if_pos ⟨h1, h2⟩
theorem zs5 {l : List Int} {d : Int} (h : zct l = false) : addF l d = (l, false) := if_neg (by rw [h]; simp)
theorem zm9 {l : List Int} {d : Int} (h : zct (putF d l) = false) : addF l d = (l, false) := if_neg (by rw [h]; simp)
/- players -/
def zd4 (p : RPl) (x : Int) : Bool := p.1.any (fun y => decide (y = x))
def zef (pl : List RPl) (k p : Int) : Bool := ((zbt pl && inB k 0 (pl.length - 1)) && inB p 0 6) && !zd4 (pl.getD k.toNat ([], 0)) p
def zek (pl : List RPl) (k p : Int) : List RPl × Bool := if zef pl k p = true then (pl.set k.toNat (putF p (pl.getD k.toNat ([], 0)).1, (pl.getD k.toNat ([], 0)).2), true) else (pl, false)
theorem zqz {pl : List RPl} {k : Nat} {p : Int} (hk : k < pl.length) (h : zef pl k p = true) : zek pl k p = (pl.set k (putF p pl[k].1, pl[k].2), true) := by
 rw [zek, if_pos h, show ((k : Int)).toNat = k from rfl, List.getD_eq_getElem?_getD, List.getElem?_eq_getElem hk]; rfl
theorem ze0 {pl : List RPl} {k p : Int} (h : zef pl k p = false) : zek pl k p = (pl, false) := if_neg (by rw [h]; simp)
theorem zrf {pl : List RPl} {k p : Int} (h : zbt pl = false) : zef pl k p = false := by rw [zef, h]; rfl
theorem zq4 {pl : List RPl} {k p : Int} (h : inB k 0 (pl.length - 1) = false) : zef pl k p = false := by rw [zef, h, Bool.and_false]; rfl
theorem zq6 {pl : List RPl} {k p : Int} (h : inB p 0 6 = false) : zef pl k p = false := by rw [zef, h, Bool.and_false]; rfl
theorem zte {pl : List RPl} {k : Nat} {p : Int} (hk : k < pl.length) (h1 : zbt pl = true) (h2 : inB k 0 (pl.length - 1) = true) (h3 : inB p 0 6 = true) : zef pl k p = !zd4 pl[k] p := by
 rw [zef, h1, h2, h3, show ((k : Int)).toNat = k from rfl, List.getD_eq_getElem?_getD, List.getElem?_eq_getElem hk]; rfl
def zgc (t : Th) (k p : Int) : Th × Bool := becF t ⟨t.n, wrap64 (t.m - 4), t.cs, (zek t.pl k p).1, t.ds⟩ (zek t.pl k p).2
theorem zjp (u : Value) (r : List Int) (fr x : Int) (w : World) (h : RdL cInt 1 w u r) :
  Calls Tryz.prog 128 #[.agg #[u, .int .i64 fr], .int .i64 x] w fun e w' => e = .returned (.bool (zd4 (r, fr) x)) /\ Below w.heap.size w w' := by
 obtain ⟨A, c, rfl, h1, h2⟩ := h.form
 go_enter Tryz.func128, Tryz.ntmps128
 go_upto_region 1 with (fail)
 have hbW : Below w.heap.size w (w.alloc (.cells #[.slice A r.length c, .int .i64 fr] 60)) := bM
 have Lb : Loc (w.alloc (.cells #[.slice A r.length c, .int .i64 fr] 60)) w.heap.size [.slice A r.length c, .int .i64 fr] := Loc.new w #[.slice A r.length c, .int .i64 fr] 60; generalize w.alloc (.cells #[.slice A r.length c, .int .i64 fr] 60) = W at *
 have hW : RdL cInt 1 W (.slice A r.length c) r := h.below hbW; have b0 := (Lb 0 _ rfl).1; go_wp2_with fail
 go_loop [5] (fun i => ∃ k : Nat, k <= r.length /\ i = .int .i64 k /\ Hid ((r.take k).any (fun y => decide (y = x)) = false)) (fun i => r.length - (intOf i).toNat)
 case atStart => exact ⟨0, Nat.zero_le _, rfl, by rfl⟩
 case round =>
  obtain ⟨k, hk, rfl, hall⟩ := hrel
  by_cases hlt : k < r.length
  ·obtain ⟨g, off, rfl, hg, hc⟩ := hW.cell zat (by omega) hlt
   have k0 := hc 0 _ rfl
   simp only [Nat.add_zero, Nat.mul_one] at k0
   clear hc
   by_cases he : r[k] = x
   ·have he' : (r[k] == x) = true := by rw [beq_iff_eq]; exact he
    have He := Lib.hid he; clear he; go_wp2_with fail; go_ret; exact ⟨zal (zqq hlt (decide_eq_true He.out)).symm, hbW⟩
   ·have he' : (r[k] == x) = false := by rw [beq_eq_false_iff_ne]; exact he
    have He := Lib.hid he; clear he; go_wp2_with fail; go_round
    case rel => exact ⟨k + 1, by omega, by go_num, zm1 hlt hall.out (decide_eq_false He.out)⟩
    case measure => simp [intOf]; omega
  ·go_wp2_with fail
   go_ret
   exact ⟨zal (zo4 hlt hall.out).symm, hbW⟩
theorem zj6 {w : World} {A : Option Addr} {c : Nat} {xs : List Value} (hx : xs = []) (hc : c <= maxLen) : RdS w 1 (.slice A 0 c) 0 xs := ⟨by subst hx; rfl, A, c, rfl, Nat.zero_le _, hc, fun h => absurd h (by omega)⟩
theorem zic {w : World} {g off n c p : Nat} {xs : List Value} (h : RdS w 1 (.slice (some ⟨g, off, none⟩) n c) n xs) (hp : p <= n) : RdS w 1 (.slice (some (if p = c then ⟨g, off, none⟩ else ⟨g, off + p, none⟩)) (n - p) (c - p)) (n - p) (xs.drop p) := by
  split
  · rename_i e
    obtain ⟨h1, A, c', he, h3, h4, h5⟩ := h
    injection he with _ _ e3
    subst e3 e; have : n = p := by omega
    subst this; exact ⟨by rw [List.length_drop, h1]; omega, _, _, rfl, by omega, by omega, fun hpos => by omega⟩
  · exact zh9 h hp
def zp3 (r : List Int × Bool) (w : World) (e : Ending) (w' : World) : Prop := ∃ v S, e = .returned (.tuple #[v, .bool r.2]) /\ OwL 3 cInt 1 w' S v r.1 /\ zbc w.heap.size w' S /\ Below w.heap.size w w'
theorem zcr {r : List Int × Bool} {l : List Int} {b : Bool} {w w' : World} {v : Value} {B : Nat} (hr : r = (l, b)) (hown : w'.ownsRow B 3 1 v l.length (l.flatMap cInt)) (hB : w.heap.size <= B) (hb : Below w.heap.size w w') : zp3 r w (.returned (.tuple #[v, .bool b])) w' := by
  subst hr; exact ⟨v, _, rfl, ⟨zaj hown (Nat.zero_le _), rfl⟩, zcz (zaj hown hB), hb⟩
theorem zko (v : Value) (l : List Int) (d : Int) (w : World) (h : RdL cInt 1 w v l) (hl : l.length <= 1048576) :
    Calls Tryz.prog 122 #[v, .int .i64 d] w (zp3 (addF l d) w) := by
  have h0 := h; obtain ⟨A, c, rfl, h1, h2⟩ := h.form
  go_enter Tryz.func122, Tryz.ntmps122
  go_wp2_with fail; refine (zpj _ l d _ h0 (by omega)).mono ?_
  rintro e w1 ⟨v1, rfl, hown1, hb1⟩; have h3 := h0.below hb1; obtain ⟨A1, c1, rfl, _, _⟩ := (RdS.of_own hown1).form; go_wp2_with fail; refine twoB (zc5 _ l _ h3) (fun w2 hq hb2 => ?_) (fun w2 hq hb2 => ?_)
  · have hown2 := zac hown1 hb2
    have h4 := h3.below hb2; have hbb := zab hb1 hb2; go_wp2_with fail; refine twoB (zc5 _ (putF d l) _ (RdS.of_own hown2)) (fun w3 hq3 hb3 => ?_) (fun w3 hq3 hb3 => ?_)
    · go_wp2_with fail
      go_ret2
      exact zcr (zrr hq.out hq3.out) (zac hown2 hb3) (Nat.le_refl _) (zab hbb hb3)
    · go_wp2_with fail
      refine (zec _ l _ (h4.below hb3) (by omega)).mono ?_
      rintro e w4 ⟨v4, rfl, hown4, hb4⟩; obtain ⟨A4, c4, rfl, _, _⟩ := (RdS.of_own hown4).form; have hz := (zab hbb hb3).size; go_wp2_with fail; go_ret2; exact zcr (zm9 hq3.out) hown4 hz (zab (zab hbb hb3) hb4)
  · have hbb := zab hb1 hb2
    have h4 := h3.below hb2; have hz := hbb.size; go_wp2_with fail; refine (zec _ l _ h4 (by omega)).mono ?_
    rintro e w4 ⟨v4, rfl, hown4, hb4⟩; obtain ⟨A4, c4, rfl, _, _⟩ := (RdS.of_own hown4).form; go_wp2_with fail; go_ret2; exact zcr (zs5 hq.out) hown4 hz (zab hbb hb4)
theorem zio {a : Act} (h : a.tmps.size = 47) (hd : a.defers = []) : ∃ x0 x1 x2 x3 x4 x5 x6 x7 x8 x9 x10 x11 x12 x13 x14 x15 x16 x17 x18 x19 x20 x21 x22 x23 x24 x25 x26 x27 x28 x29 x30 x31 x32 x33 x34 x35 x36 x37 x38 x39 x40 x41 x42 x43 x44 x45 x46 : Value, a = ⟨#[x0, x1, x2, x3, x4, x5, x6, x7, x8, x9, x10, x11, x12, x13, x14, x15, x16, x17, x18, x19, x20, x21, x22, x23, x24, x25, x26, x27, x28, x29, x30, x31, x32, x33, x34, x35, x36, x37, x38, x39, x40, x41, x42, x43, x44, x45, x46], []⟩ := by
  obtain ⟨⟨l⟩, d⟩ := a; subst hd
  match l, h with
  | x0 :: x1 :: x2 :: x3 :: x4 :: x5 :: x6 :: x7 :: x8 :: x9 :: x10 :: x11 :: x12 :: x13 :: x14 :: x15 :: x16 :: x17 :: x18 :: x19 :: x20 :: x21 :: x22 :: x23 :: x24 :: x25 :: x26 :: x27 :: x28 :: x29 :: x30 :: x31 :: x32 :: x33 :: x34 :: x35 :: x36 :: x37 :: x38 :: x39 :: x40 :: x41 :: x42 :: x43 :: x44 :: x45 :: x46 :: [], _ => exact ⟨x0, x1, x2, x3, x4, x5, x6, x7, x8, x9, x10, x11, x12, x13, x14, x15, x16, x17, x18, x19, x20, x21, x22, x23, x24, x25, x26, x27, x28, x29, x30, x31, x32, x33, x34, x35, x36, x37, x38, x39, x40, x41, x42, x43, x44, x45, x46, rfl⟩
def asgP (W : World) (xv : Value) (p m : Nat) (kk : Int) (L1 L2 : List Value) (i : Nat) (v : Value) (_ : Nat -> Nat) (w : World) : Prop :=
  match i with
  | 0 => ∃ g, v = .slice (some ⟨g, 0, none⟩) 0 0 /\ w.ownsRow W.heap.size 3 1 v 0 ([])
  | 1 => v = xv
  | 2 => v = .int .i64 p
  | 3 => RdS W 1 v p L1
  | 4 => w.ownsRow W.heap.size 3 1 v p (L1)
  | 5 => v = .int .i64 kk
  | 6 => RdS w 1 v 1 [Value.int .i64 kk]
  | 7 => w.ownsRow W.heap.size 3 1 v (p + 1) (L1 ++ [Value.int .i64 kk])
  | 8 => v = xv
  | 9 => v = .int .i64 p
  | 10 => RdS W 1 v m L2
  | 11 => w.ownsRow W.heap.size 3 1 v (p + 1 + m) ((L1 ++ [Value.int .i64 kk]) ++ L2)
  | _ => True
def zp2 (k : Nat) : List Nat := if k = 3 then [1, 2] else if k = 4 then [0, 3] else if k = 6 then [5] else if k = 7 then [4, 6] else if k = 10 then [8, 9] else if k = 11 then [7, 10] else []
def zu7 (k : Nat) : List Nat := if k = 3 then [1, 2] else if k = 4 then [0, 3, 1, 2] else if k = 6 then [5] else if k = 7 then [4, 0, 3, 1, 2, 6, 5] else if k = 10 then [8, 9] else if k = 11 then [7, 4, 0, 3, 1, 2, 6, 5, 10, 8, 9] else []
def asgR (k : Nat) (_ : Nat -> Nat) (w w' : World) : Prop := k = 7 ∨ k = 11 ∨  Below w.heap.size w w'
theorem zkt (v : Value) (l : List Int) (dy : Int) (w : World) (h : RdL cInt 1 w v l) (hl : l.length <= 1048576) :
    Calls Tryz.prog 100 #[v, .int .i64 dy] w (zp3 (addF l dy) w) := by
  have h0 := h; obtain ⟨A, c, rfl, h1, h2⟩ := h.form; obtain ⟨iI, hiI, hzI0, hzI1, hzI2⟩ := info_parts zcd; have hown0 := World.ownsRow_made (size := 1) (e := 3) w #[] 0 (Nat.le_refl _) (by simp [maxLen]) rfl
  go_enter Tryz.func100, Tryz.ntmps100
  go_wp2_with (at_builtin; refine zan _ rfl (.tmp 9) (.tmp 10) _ rfl w.heap.size 3 iI _ 1 8 Tryz.underlying37 hiI hzI0 hzI1 hzI2 rfl (by omega) w.heap.size rfl hown0 _ l.length (l.flatMap cInt) rfl (RdS.below h0 ((Below.refl _ _).alloc (Nat.le_refl _) _)) (zar zbx l) (by simp [maxLen] <;> omega) (by omega) (by simp) ?_; intro v1 w1 own1 b1 at1)
  have hb1 : Below w.heap.size w w1 := zbe b1; obtain ⟨A1, c1, rfl, _, _⟩ := (RdS.of_own own1).form; have h3 := h0.below hb1; go_wp2_with fail; refine twoB (zcb _ l _ h3) (fun w2 hq hb2 => ?_) (fun w2 hq hb2 => ?_)
  · have own2 := zac own1 hb2
    have h4 := h3.below hb2; have hbb := zab hb1 hb2; have hz2 := hbb.size; have hl60 := (zgh hq.out).1; clear h3 own1 hb1 b1 hb2; go_wp2_with fail
    go_loop [7] (fun i => ∃ k : Nat, k <= l.length /\ i = .int .i64 k /\ Hid (∀ j (hj : j < l.length), j < k -> l[j] < dy)) (fun i => l.length - (intOf i).toNat)
    case atStart => exact ⟨0, Nat.zero_le _, rfl, fun j _ hj => absurd hj (by omega)⟩
    case round =>
      obtain ⟨k, hk, rfl, hall⟩ := hrel; have hstop : ∀ W : World, RdL cInt 1 W (.slice A l.length c) l -> (k = l.length ∨ (∃ hk : k < l.length, ¬ l[k] < dy)) -> atF dy l = k := fun _ _ hh => zxe l k hk hall.out (fun hk' => by rcases hh with h | ⟨_, h⟩; omega; exact h)
      have Hstop := Lib.hid hstop; clear hstop
      by_cases hlt : k < l.length
      · obtain ⟨g, off, rfl, hg, hc⟩ := h4.cell zat (by omega) hlt
        have k0 := hc 0 _ rfl
        simp only [Nat.add_zero, Nat.mul_one] at k0
        clear hc
        by_cases hx : l[k] < dy
        · have Hx := Lib.hid hx
          go_wp2_with fail; go_round
          case rel => exact ⟨k + 1, by omega, by go_num, (fun j hj hjk => by
            rcases Nat.lt_succ_iff_lt_or_eq.1 hjk with h | rfl
            · exact hall.out j hj h
            · exact Hx.out)⟩
          case measure => simp [intOf]; omega
        · have hat := Hstop.out _ h4 (.inr ⟨hlt, hx⟩)
          have hkl : k <= l.length := by omega
          have hlW := h4; obtain ⟨L1, hL1⟩ : ∃ L1, (l.take k).flatMap cInt = L1 := ⟨_, rfl⟩; obtain ⟨L2, hL2⟩ : ∃ L2, (l.drop k).flatMap cInt = L2 := ⟨_, rfl⟩; have hone1 : ∀ y ∈ L1, y.oneCell' = true := by rw [<- hL1]; exact zar zbx _
          have hone2 : ∀ y ∈ L2, y.oneCell' = true := by rw [<- hL2]; exact zar zbx _
          have hs1 : RdS w2 1 (.slice (some ⟨g, off, none⟩) k c) k L1 := by rw [<- hL1, zgp]; exact zkf h4 hkl
          have hs2 : ∀ j, RdS w2 1 (.slice (some ⟨g, off + k, none⟩) j (c - k)) j L2 ∨ True := fun _ => .inr trivial
          have hd2 : RdS w2 1 (.slice (some ⟨g, off + k, none⟩) (l.length - k) (c - k)) (l.length - k) L2 := by rw [<- hL2, zda]; exact zh9 h4 hkl
          have hd3 : RdS w2 1 (.slice (some (if k = c then ⟨g, off, none⟩ else ⟨g, off + k, none⟩)) (l.length - k) (c - k)) (l.length - k) L2 := by rw [<- hL2, zda]; exact zic h4 hkl
          have hfl := zfl dy l; rw [hat, hL1, hL2] at hfl; have Hfl := Lib.hid hfl; have hlen := zgz dy l; have Hlen := Lib.hid hlen; clear hfl hlen
          go_upto_region 7 with (fail)
          refine zdc (n := 47) 12 (by kernel_rfl) rfl (by kernel_rfl) zu7 zp2 [11] (by kernel_rfl) asgR (fun _ w' => Below w2.heap.size w2 w') (fun _ => 0) (asgP w2 (.slice (some ⟨g, off, none⟩) l.length c) k (l.length - k) dy L1 L2) ((Below.refl _ _).drew) ?_ ?_ ?_
          · intro i k v gh gh' w1 w2 hal hp hJ hR hg
            match i, hp, hal with
            | 0, ho, hal =>
              rcases hR with rfl | rfl | hb
              · exact absurd hal (by decide)
              · exact absurd hal (by decide)
              · obtain ⟨g, h1, h2⟩ := ho; exact ⟨g, h1, zac h2 hb⟩
            | 1, hp, _ => exact hp
            | 2, hp, _ => exact hp
            | 3, hp, _ => exact hp
            | 4, ho, hal =>
              rcases hR with rfl | rfl | hb
              · exact absurd hal (by decide)
              · exact absurd hal (by decide)
              · exact zac ho hb
            | 5, hp, _ => exact hp
            | 6, ho, hal =>
              rcases hR with rfl | rfl | hb
              · exact absurd hal (by decide)
              · exact absurd hal (by decide)
              · exact RdS.below ho hb
            | 7, ho, hal =>
              rcases hR with rfl | rfl | hb
              · exact absurd hal (by decide)
              · exact absurd hal (by decide)
              · exact zac ho hb
            | 8, hp, _ => exact hp
            | 9, hp, _ => exact hp
            | 10, hp, _ => exact hp
            | 11, ho, hal =>
              rcases hR with rfl | rfl | hb
              · exact absurd hal (by decide)
              · exact absurd hal (by decide)
              · exact zac ho hb
            | _ + 12, _, _ => trivial
          · refine ⟨?_, ?_, ?_, ?_, ?_, ?_, ?_, ?_, ?_, ?_, ?_, ?_, trivial⟩
            all_goals
              intro a gh wr d hag hdi hcl hJ hd; obtain ⟨x0, x1, x2, x3, x4, x5, x6, x7, x8, x9, x10, x11, x12, x13, x14, x15, x16, x17, x18, x19, x20, x21, x22, x23, x24, x25, x26, x27, x28, x29, x30, x31, x32, x33, x34, x35, x36, x37, x38, x39, x40, x41, x42, x43, x44, x45, x46, rfl⟩ := zio hag.size hag.defers; have ag0 : x0 = .slice (some ⟨g, off, none⟩) l.length c := hag.k 0
              have ag1 : x1 = .int .i64 dy := hag.k 1
              have ag6 : x6 = .slice A1 l.length c1 := hag.k 6
              have ag7 : x7 = .int .i64 (k : Nat) := hag.k 7
              clear hag; subst ag0 ag1 ag6 ag7
            · go_wp2_with fail
              exact ⟨rfl, _, rfl, ⟨wr.heap.size, rfl, World.ownsRow_made (size := 1) (e := 3) wr #[] 0 hJ.size (by simp [maxLen]) rfl⟩, hJ.alloc hJ.size _, .inr (.inr ((Below.refl _ _).alloc (Nat.le_refl _) _))⟩
            · go_wp2_with fail
              exact ⟨rfl, _, rfl, rfl, hJ, .inr (.inr (Below.refl _ _))⟩
            · go_wp2_with fail
              exact ⟨rfl, _, rfl, rfl, hJ, .inr (.inr (Below.refl _ _))⟩
            · have e1 : x31 = .slice (some ⟨g, off, none⟩) l.length c := hd 1 (by kernel_rfl) _ rfl
              have e2 : x32 = .int .i64 (k) := hd 2 (by kernel_rfl) _ rfl
              subst e1 e2; go_wp2_with fail
              all_goals
                refine ⟨rfl, _, rfl, ?_, hJ, .inr (.inr (Below.refl _ _))⟩
                first | exact hs1 | (simp; exact hs1) | (simp at hs1; exact hs1)
            · obtain ⟨g1, e1, og⟩ : ∃ g, x30 = Value.slice (some ⟨g, 0, none⟩) 0 0 /\ wr.ownsRow w2.heap.size 3 1 x30 0 ([]) := hd 0 (by kernel_rfl) _ rfl
              have hs1 : RdS w2 1 x33 (k) L1 := hd 3 (by kernel_rfl) _ rfl
              subst e1
              go_wp2_with (at_builtin; refine zan _ rfl (.tmp 30) (.tmp 33) _ rfl w2.heap.size 3 iI _ 1 8 Tryz.underlying37 hiI hzI0 hzI1 hzI2 rfl (by omega) g1 rfl og _ (k) L1 rfl (hs1.below hJ) hone1 (by simp [maxLen] <;> omega) (by omega) hJ.size ?_; intro v3 w3 own3 b3 at3)
              exact ⟨rfl, _, rfl, own3, hJ.trans (b3.mono hJ.size), .inr (.inr (b3))⟩
            · go_wp2_with fail
              exact ⟨rfl, _, rfl, rfl, hJ, .inr (.inr (Below.refl _ _))⟩
            · have e1 : x35 = .int .i64 dy := hd 5 (by kernel_rfl) _ rfl
              subst e1; go_wp2_with fail; exact ⟨rfl, _, rfl, zap wr #[.int .i64 dy] _ 1 1 rfl (by simp [maxLen]), hJ.alloc hJ.size _, .inr (.inr ((Below.refl _ _).alloc (Nat.le_refl _) _))⟩
            · have og : wr.ownsRow w2.heap.size 3 1 x34 (k) (L1) := hd 4 (by kernel_rfl) _ rfl
              have ok : RdS wr 1 x36 1 [Value.int .i64 dy] := hd 6 (by kernel_rfl) _ rfl
              obtain ⟨Aa, ca, e0, _, _⟩ := (RdS.of_own og).form
              go_wp2_with (at_builtin; refine zae _ rfl (.tmp 34) (.tmp 36) _ rfl w2.heap.size 3 iI _ 1 8 Tryz.underlying37 hiI hzI0 hzI1 hzI2 rfl (by omega) x34 (k) (L1) rfl og _ 1 _ rfl ok (by simp [Value.oneCell']) (by simp [maxLen] <;> omega) (by omega) hJ.size ?_; intro v3 w3 own3 gr3 at3)
              exact ⟨rfl, _, rfl, own3, hJ.trans (zag og gr3 hJ.size), .inl rfl⟩
            · go_wp2_with fail
              exact ⟨rfl, _, rfl, rfl, hJ, .inr (.inr (Below.refl _ _))⟩
            · go_wp2_with fail
              exact ⟨rfl, _, rfl, rfl, hJ, .inr (.inr (Below.refl _ _))⟩
            · have e1 : x38 = .slice (some ⟨g, off, none⟩) l.length c := hd 8 (by kernel_rfl) _ rfl
              have e2 : x39 = .int .i64 (k) := hd 9 (by kernel_rfl) _ rfl
              subst e1 e2; go_wp2_with fail
              all_goals
                refine ⟨rfl, _, rfl, ?_, hJ, .inr (.inr (Below.refl _ _))⟩
                first | exact hd2 | (rw [if_pos (show k = c by omega), show c - k = 0 by omega] at hd3; exact hd3) | (simp at hd3 ⊢; exact hd3)
            · have og : wr.ownsRow w2.heap.size 3 1 x37 (k + 1) (L1 ++ [Value.int .i64 dy]) := hd 7 (by kernel_rfl) _ rfl
              have hs2 : RdS w2 1 x40 (l.length - k) L2 := hd 10 (by kernel_rfl) _ rfl
              obtain ⟨Aa, ca, e0, _, _⟩ := (RdS.of_own og).form
              go_wp2_with (at_builtin; refine zae _ rfl (.tmp 37) (.tmp 40) _ rfl w2.heap.size 3 iI _ 1 8 Tryz.underlying37 hiI hzI0 hzI1 hzI2 rfl (by omega) x37 (k + 1) (L1 ++ [Value.int .i64 dy]) rfl og _ (l.length - k) _ rfl (hs2.below hJ) hone2 (by simp [maxLen] <;> omega) (by omega) hJ.size ?_; intro v3 w3 own3 gr3 at3)
              exact ⟨rfl, _, rfl, own3, hJ.trans (zag og gr3 hJ.size), .inr (.inl rfl)⟩
          · intro a gh wr d hag hall hJ hd
            obtain ⟨x0, x1, x2, x3, x4, x5, x6, x7, x8, x9, x10, x11, x12, x13, x14, x15, x16, x17, x18, x19, x20, x21, x22, x23, x24, x25, x26, x27, x28, x29, x30, x31, x32, x33, x34, x35, x36, x37, x38, x39, x40, x41, x42, x43, x44, x45, x46, rfl⟩ := zio hag.size hag.defers; have ag0 : x0 = .slice (some ⟨g, off, none⟩) l.length c := hag.k 0
            have ag1 : x1 = .int .i64 dy := hag.k 1
            have ag6 : x6 = .slice A1 l.length c1 := hag.k 6
            have ag7 : x7 = .int .i64 (k : Nat) := hag.k 7
            clear hag; subst ag0 ag1 ag6 ag7; have hown : wr.ownsRow w2.heap.size 3 1 x41 (k + 1 + (l.length - k)) ((L1 ++ [Value.int .i64 dy]) ++ L2) := hd 11 (by kernel_rfl) _ rfl
            clear hd; rw [Hfl.out, show k + 1 + (l.length - k) = (putF dy l).length by rw [Hlen.out]; omega] at hown
            obtain ⟨A9, c9, e9, _, _⟩ := (RdS.of_own hown).form; subst e9; have hbr := hJ; have h9 := h4.below hbr; have own3 := zac own2 hbr; have hb9 := zab hbb hbr; change wpList _ _ _ [_] _ _; go_wp2_with fail; refine twoB (zcb _ (putF dy l) _ (RdS.of_own hown)) (fun w5 hq5 hb5 => ?_) (fun w5 hq5 hb5 => ?_)
            · go_wp2_with fail
              go_ret2
              exact zcr (zrr hq.out hq5.out) (zac hown hb5) hz2 (zab hb9 hb5)
            · go_wp2_with fail
              go_ret2
              exact zcr (zm9 hq5.out) (zac own3 hb5) (Nat.le_refl _) (zab hb9 hb5)
      · have hat := Hstop.out _ h4 (.inl (by omega))
        by_cases h00 : 0 < l.length
        · obtain ⟨g, off, rfl, hg, hc⟩ := h4.cell (k := 0) zat (by omega) h00
          clear hc; have hkl : k <= l.length := by omega
          have hlW := h4; obtain ⟨L1, hL1⟩ : ∃ L1, (l.take k).flatMap cInt = L1 := ⟨_, rfl⟩; obtain ⟨L2, hL2⟩ : ∃ L2, (l.drop k).flatMap cInt = L2 := ⟨_, rfl⟩; have hone1 : ∀ y ∈ L1, y.oneCell' = true := by rw [<- hL1]; exact zar zbx _
          have hone2 : ∀ y ∈ L2, y.oneCell' = true := by rw [<- hL2]; exact zar zbx _
          have hs1 : RdS w2 1 (.slice (some ⟨g, off, none⟩) k c) k L1 := by rw [<- hL1, zgp]; exact zkf h4 hkl
          have hs2 : ∀ j, RdS w2 1 (.slice (some ⟨g, off + k, none⟩) j (c - k)) j L2 ∨ True := fun _ => .inr trivial
          have hd2 : RdS w2 1 (.slice (some ⟨g, off + k, none⟩) (l.length - k) (c - k)) (l.length - k) L2 := by rw [<- hL2, zda]; exact zh9 h4 hkl
          have hd3 : RdS w2 1 (.slice (some (if k = c then ⟨g, off, none⟩ else ⟨g, off + k, none⟩)) (l.length - k) (c - k)) (l.length - k) L2 := by rw [<- hL2, zda]; exact zic h4 hkl
          have hfl := zfl dy l; rw [hat, hL1, hL2] at hfl; have Hfl := Lib.hid hfl; have hlen := zgz dy l; have Hlen := Lib.hid hlen; clear hfl hlen
          go_upto_region 7 with (fail)
          refine zdc (n := 47) 12 (by kernel_rfl) rfl (by kernel_rfl) zu7 zp2 [11] (by kernel_rfl) asgR (fun _ w' => Below w2.heap.size w2 w') (fun _ => 0) (asgP w2 (.slice (some ⟨g, off, none⟩) l.length c) k (l.length - k) dy L1 L2) ((Below.refl _ _).drew) ?_ ?_ ?_
          · intro i k v gh gh' w1 w2 hal hp hJ hR hg
            match i, hp, hal with
            | 0, ho, hal =>
              rcases hR with rfl | rfl | hb
              · exact absurd hal (by decide)
              · exact absurd hal (by decide)
              · obtain ⟨g, h1, h2⟩ := ho; exact ⟨g, h1, zac h2 hb⟩
            | 1, hp, _ => exact hp
            | 2, hp, _ => exact hp
            | 3, hp, _ => exact hp
            | 4, ho, hal =>
              rcases hR with rfl | rfl | hb
              · exact absurd hal (by decide)
              · exact absurd hal (by decide)
              · exact zac ho hb
            | 5, hp, _ => exact hp
            | 6, ho, hal =>
              rcases hR with rfl | rfl | hb
              · exact absurd hal (by decide)
              · exact absurd hal (by decide)
              · exact RdS.below ho hb
            | 7, ho, hal =>
              rcases hR with rfl | rfl | hb
              · exact absurd hal (by decide)
              · exact absurd hal (by decide)
              · exact zac ho hb
            | 8, hp, _ => exact hp
            | 9, hp, _ => exact hp
            | 10, hp, _ => exact hp
            | 11, ho, hal =>
              rcases hR with rfl | rfl | hb
              · exact absurd hal (by decide)
              · exact absurd hal (by decide)
              · exact zac ho hb
            | _ + 12, _, _ => trivial
          · refine ⟨?_, ?_, ?_, ?_, ?_, ?_, ?_, ?_, ?_, ?_, ?_, ?_, trivial⟩
            all_goals
              intro a gh wr d hag hdi hcl hJ hd; obtain ⟨x0, x1, x2, x3, x4, x5, x6, x7, x8, x9, x10, x11, x12, x13, x14, x15, x16, x17, x18, x19, x20, x21, x22, x23, x24, x25, x26, x27, x28, x29, x30, x31, x32, x33, x34, x35, x36, x37, x38, x39, x40, x41, x42, x43, x44, x45, x46, rfl⟩ := zio hag.size hag.defers; have ag0 : x0 = .slice (some ⟨g, off, none⟩) l.length c := hag.k 0
              have ag1 : x1 = .int .i64 dy := hag.k 1
              have ag6 : x6 = .slice A1 l.length c1 := hag.k 6
              have ag7 : x7 = .int .i64 (k : Nat) := hag.k 7
              clear hag; subst ag0 ag1 ag6 ag7
            · go_wp2_with fail
              exact ⟨rfl, _, rfl, ⟨wr.heap.size, rfl, World.ownsRow_made (size := 1) (e := 3) wr #[] 0 hJ.size (by simp [maxLen]) rfl⟩, hJ.alloc hJ.size _, .inr (.inr ((Below.refl _ _).alloc (Nat.le_refl _) _))⟩
            · go_wp2_with fail
              exact ⟨rfl, _, rfl, rfl, hJ, .inr (.inr (Below.refl _ _))⟩
            · go_wp2_with fail
              exact ⟨rfl, _, rfl, rfl, hJ, .inr (.inr (Below.refl _ _))⟩
            · have e1 : x31 = .slice (some ⟨g, off, none⟩) l.length c := hd 1 (by kernel_rfl) _ rfl
              have e2 : x32 = .int .i64 (k) := hd 2 (by kernel_rfl) _ rfl
              subst e1 e2; go_wp2_with fail
              all_goals
                refine ⟨rfl, _, rfl, ?_, hJ, .inr (.inr (Below.refl _ _))⟩
                first | exact hs1 | (simp; exact hs1) | (simp at hs1; exact hs1)
            · obtain ⟨g1, e1, og⟩ : ∃ g, x30 = Value.slice (some ⟨g, 0, none⟩) 0 0 /\ wr.ownsRow w2.heap.size 3 1 x30 0 ([]) := hd 0 (by kernel_rfl) _ rfl
              have hs1 : RdS w2 1 x33 (k) L1 := hd 3 (by kernel_rfl) _ rfl
              subst e1
              go_wp2_with (at_builtin; refine zan _ rfl (.tmp 30) (.tmp 33) _ rfl w2.heap.size 3 iI _ 1 8 Tryz.underlying37 hiI hzI0 hzI1 hzI2 rfl (by omega) g1 rfl og _ (k) L1 rfl (hs1.below hJ) hone1 (by simp [maxLen] <;> omega) (by omega) hJ.size ?_; intro v3 w3 own3 b3 at3)
              exact ⟨rfl, _, rfl, own3, hJ.trans (b3.mono hJ.size), .inr (.inr (b3))⟩
            · go_wp2_with fail
              exact ⟨rfl, _, rfl, rfl, hJ, .inr (.inr (Below.refl _ _))⟩
            · have e1 : x35 = .int .i64 dy := hd 5 (by kernel_rfl) _ rfl
              subst e1; go_wp2_with fail; exact ⟨rfl, _, rfl, zap wr #[.int .i64 dy] _ 1 1 rfl (by simp [maxLen]), hJ.alloc hJ.size _, .inr (.inr ((Below.refl _ _).alloc (Nat.le_refl _) _))⟩
            · have og : wr.ownsRow w2.heap.size 3 1 x34 (k) (L1) := hd 4 (by kernel_rfl) _ rfl
              have ok : RdS wr 1 x36 1 [Value.int .i64 dy] := hd 6 (by kernel_rfl) _ rfl
              obtain ⟨Aa, ca, e0, _, _⟩ := (RdS.of_own og).form
              go_wp2_with (at_builtin; refine zae _ rfl (.tmp 34) (.tmp 36) _ rfl w2.heap.size 3 iI _ 1 8 Tryz.underlying37 hiI hzI0 hzI1 hzI2 rfl (by omega) x34 (k) (L1) rfl og _ 1 _ rfl ok (by simp [Value.oneCell']) (by simp [maxLen] <;> omega) (by omega) hJ.size ?_; intro v3 w3 own3 gr3 at3)
              exact ⟨rfl, _, rfl, own3, hJ.trans (zag og gr3 hJ.size), .inl rfl⟩
            · go_wp2_with fail
              exact ⟨rfl, _, rfl, rfl, hJ, .inr (.inr (Below.refl _ _))⟩
            · go_wp2_with fail
              exact ⟨rfl, _, rfl, rfl, hJ, .inr (.inr (Below.refl _ _))⟩
            · have e1 : x38 = .slice (some ⟨g, off, none⟩) l.length c := hd 8 (by kernel_rfl) _ rfl
              have e2 : x39 = .int .i64 (k) := hd 9 (by kernel_rfl) _ rfl
              subst e1 e2; go_wp2_with fail
              all_goals
                refine ⟨rfl, _, rfl, ?_, hJ, .inr (.inr (Below.refl _ _))⟩
                first | exact hd2 | (rw [if_pos (show k = c by omega), show c - k = 0 by omega] at hd3; exact hd3) | (simp at hd3 ⊢; exact hd3)
            · have og : wr.ownsRow w2.heap.size 3 1 x37 (k + 1) (L1 ++ [Value.int .i64 dy]) := hd 7 (by kernel_rfl) _ rfl
              have hs2 : RdS w2 1 x40 (l.length - k) L2 := hd 10 (by kernel_rfl) _ rfl
              obtain ⟨Aa, ca, e0, _, _⟩ := (RdS.of_own og).form
              go_wp2_with (at_builtin; refine zae _ rfl (.tmp 37) (.tmp 40) _ rfl w2.heap.size 3 iI _ 1 8 Tryz.underlying37 hiI hzI0 hzI1 hzI2 rfl (by omega) x37 (k + 1) (L1 ++ [Value.int .i64 dy]) rfl og _ (l.length - k) _ rfl (hs2.below hJ) hone2 (by simp [maxLen] <;> omega) (by omega) hJ.size ?_; intro v3 w3 own3 gr3 at3)
              exact ⟨rfl, _, rfl, own3, hJ.trans (zag og gr3 hJ.size), .inr (.inl rfl)⟩
          · intro a gh wr d hag hall hJ hd
            obtain ⟨x0, x1, x2, x3, x4, x5, x6, x7, x8, x9, x10, x11, x12, x13, x14, x15, x16, x17, x18, x19, x20, x21, x22, x23, x24, x25, x26, x27, x28, x29, x30, x31, x32, x33, x34, x35, x36, x37, x38, x39, x40, x41, x42, x43, x44, x45, x46, rfl⟩ := zio hag.size hag.defers; have ag0 : x0 = .slice (some ⟨g, off, none⟩) l.length c := hag.k 0
            have ag1 : x1 = .int .i64 dy := hag.k 1
            have ag6 : x6 = .slice A1 l.length c1 := hag.k 6
            have ag7 : x7 = .int .i64 (k : Nat) := hag.k 7
            clear hag; subst ag0 ag1 ag6 ag7; have hown : wr.ownsRow w2.heap.size 3 1 x41 (k + 1 + (l.length - k)) ((L1 ++ [Value.int .i64 dy]) ++ L2) := hd 11 (by kernel_rfl) _ rfl
            clear hd; rw [Hfl.out, show k + 1 + (l.length - k) = (putF dy l).length by rw [Hlen.out]; omega] at hown
            obtain ⟨A9, c9, e9, _, _⟩ := (RdS.of_own hown).form; subst e9; have hbr := hJ; have h9 := h4.below hbr; have own3 := zac own2 hbr; have hb9 := zab hbb hbr; change wpList _ _ _ [_] _ _; go_wp2_with fail; refine twoB (zcb _ (putF dy l) _ (RdS.of_own hown)) (fun w5 hq5 hb5 => ?_) (fun w5 hq5 hb5 => ?_)
            · go_wp2_with fail
              go_ret2
              exact zcr (zrr hq.out hq5.out) (zac hown hb5) hz2 (zab hb9 hb5)
            · go_wp2_with fail
              go_ret2
              exact zcr (zm9 hq5.out) (zac own3 hb5) (Nat.le_refl _) (zab hb9 hb5)
        · obtain rfl : l = [] := List.eq_nil_of_length_eq_zero (by omega)
          simp only [List.length_nil] at *
          obtain rfl : k = 0 := by omega
          have hkl : 0 <= 0 := by omega
          have hlW := h4; obtain ⟨L1, hL1⟩ : ∃ L1, (([] : List Int).take 0).flatMap cInt = L1 := ⟨_, rfl⟩; obtain ⟨L2, hL2⟩ : ∃ L2, (([] : List Int).drop 0).flatMap cInt = L2 := ⟨_, rfl⟩; have hone1 : ∀ y ∈ L1, y.oneCell' = true := by rw [<- hL1]; exact zar zbx _
          have hone2 : ∀ y ∈ L2, y.oneCell' = true := by rw [<- hL2]; exact zar zbx _
          have hs1 : RdS w2 1 (.slice A 0 c) 0 L1 := zj6 (by rw [<- hL1]; rfl) (by simp [maxLen] <;> omega)
          have hd2 : RdS w2 1 (.slice A 0 c) 0 L2 := zj6 (by rw [<- hL2]; rfl) (by simp [maxLen] <;> omega)
          have hfl := zfl dy ([] : List Int); rw [hat, hL1, hL2] at hfl; have Hfl := Lib.hid hfl; have hlen := zgz dy ([] : List Int); have Hlen := Lib.hid hlen; clear hfl hlen
          go_upto_region 7 with (fail)
          refine zdc (n := 47) 12 (by kernel_rfl) rfl (by kernel_rfl) zu7 zp2 [11] (by kernel_rfl) asgR (fun _ w' => Below w2.heap.size w2 w') (fun _ => 0) (asgP w2 (.slice A 0 c) 0 (0) dy L1 L2) ((Below.refl _ _).drew) ?_ ?_ ?_
          · intro i k v gh gh' w1 w2 hal hp hJ hR hg
            match i, hp, hal with
            | 0, ho, hal =>
              rcases hR with rfl | rfl | hb
              · exact absurd hal (by decide)
              · exact absurd hal (by decide)
              · obtain ⟨g, h1, h2⟩ := ho; exact ⟨g, h1, zac h2 hb⟩
            | 1, hp, _ => exact hp
            | 2, hp, _ => exact hp
            | 3, hp, _ => exact hp
            | 4, ho, hal =>
              rcases hR with rfl | rfl | hb
              · exact absurd hal (by decide)
              · exact absurd hal (by decide)
              · exact zac ho hb
            | 5, hp, _ => exact hp
            | 6, ho, hal =>
              rcases hR with rfl | rfl | hb
              · exact absurd hal (by decide)
              · exact absurd hal (by decide)
              · exact RdS.below ho hb
            | 7, ho, hal =>
              rcases hR with rfl | rfl | hb
              · exact absurd hal (by decide)
              · exact absurd hal (by decide)
              · exact zac ho hb
            | 8, hp, _ => exact hp
            | 9, hp, _ => exact hp
            | 10, hp, _ => exact hp
            | 11, ho, hal =>
              rcases hR with rfl | rfl | hb
              · exact absurd hal (by decide)
              · exact absurd hal (by decide)
              · exact zac ho hb
            | _ + 12, _, _ => trivial
          · refine ⟨?_, ?_, ?_, ?_, ?_, ?_, ?_, ?_, ?_, ?_, ?_, ?_, trivial⟩
            all_goals
              intro a gh wr d hag hdi hcl hJ hd; obtain ⟨x0, x1, x2, x3, x4, x5, x6, x7, x8, x9, x10, x11, x12, x13, x14, x15, x16, x17, x18, x19, x20, x21, x22, x23, x24, x25, x26, x27, x28, x29, x30, x31, x32, x33, x34, x35, x36, x37, x38, x39, x40, x41, x42, x43, x44, x45, x46, rfl⟩ := zio hag.size hag.defers; have ag0 : x0 = .slice A 0 c := hag.k 0
              have ag1 : x1 = .int .i64 dy := hag.k 1
              have ag6 : x6 = .slice A1 0 c1 := hag.k 6
              have ag7 : x7 = .int .i64 (0 : Nat) := hag.k 7
              clear hag; subst ag0 ag1 ag6 ag7
            · go_wp2_with fail
              exact ⟨rfl, _, rfl, ⟨wr.heap.size, rfl, World.ownsRow_made (size := 1) (e := 3) wr #[] 0 hJ.size (by simp [maxLen]) rfl⟩, hJ.alloc hJ.size _, .inr (.inr ((Below.refl _ _).alloc (Nat.le_refl _) _))⟩
            · go_wp2_with fail
              exact ⟨rfl, _, rfl, rfl, hJ, .inr (.inr (Below.refl _ _))⟩
            · go_wp2_with fail
              exact ⟨rfl, _, rfl, rfl, hJ, .inr (.inr (Below.refl _ _))⟩
            · have e1 : x31 = .slice A 0 c := hd 1 (by kernel_rfl) _ rfl
              have e2 : x32 = .int .i64 (0) := hd 2 (by kernel_rfl) _ rfl
              subst e1 e2; go_wp2_with fail
              all_goals
                refine ⟨rfl, _, rfl, ?_, hJ, .inr (.inr (Below.refl _ _))⟩; exact hs1
            · obtain ⟨g1, e1, og⟩ : ∃ g, x30 = Value.slice (some ⟨g, 0, none⟩) 0 0 /\ wr.ownsRow w2.heap.size 3 1 x30 0 ([]) := hd 0 (by kernel_rfl) _ rfl
              have hs1 : RdS w2 1 x33 (0) L1 := hd 3 (by kernel_rfl) _ rfl
              subst e1
              go_wp2_with (at_builtin; refine zan _ rfl (.tmp 30) (.tmp 33) _ rfl w2.heap.size 3 iI _ 1 8 Tryz.underlying37 hiI hzI0 hzI1 hzI2 rfl (by omega) g1 rfl og _ (0) L1 rfl (hs1.below hJ) hone1 (by simp [maxLen] <;> omega) (by omega) hJ.size ?_; intro v3 w3 own3 b3 at3)
              exact ⟨rfl, _, rfl, own3, hJ.trans (b3.mono hJ.size), .inr (.inr (b3))⟩
            · go_wp2_with fail
              exact ⟨rfl, _, rfl, rfl, hJ, .inr (.inr (Below.refl _ _))⟩
            · have e1 : x35 = .int .i64 dy := hd 5 (by kernel_rfl) _ rfl
              subst e1; go_wp2_with fail; exact ⟨rfl, _, rfl, zap wr #[.int .i64 dy] _ 1 1 rfl (by simp [maxLen]), hJ.alloc hJ.size _, .inr (.inr ((Below.refl _ _).alloc (Nat.le_refl _) _))⟩
            · have og : wr.ownsRow w2.heap.size 3 1 x34 (0) (L1) := hd 4 (by kernel_rfl) _ rfl
              have ok : RdS wr 1 x36 1 [Value.int .i64 dy] := hd 6 (by kernel_rfl) _ rfl
              obtain ⟨Aa, ca, e0, _, _⟩ := (RdS.of_own og).form
              go_wp2_with (at_builtin; refine zae _ rfl (.tmp 34) (.tmp 36) _ rfl w2.heap.size 3 iI _ 1 8 Tryz.underlying37 hiI hzI0 hzI1 hzI2 rfl (by omega) x34 (0) (L1) rfl og _ 1 _ rfl ok (by simp [Value.oneCell']) (by simp [maxLen] <;> omega) (by omega) hJ.size ?_; intro v3 w3 own3 gr3 at3)
              exact ⟨rfl, _, rfl, own3, hJ.trans (zag og gr3 hJ.size), .inl rfl⟩
            · go_wp2_with fail
              exact ⟨rfl, _, rfl, rfl, hJ, .inr (.inr (Below.refl _ _))⟩
            · go_wp2_with fail
              exact ⟨rfl, _, rfl, rfl, hJ, .inr (.inr (Below.refl _ _))⟩
            · have e1 : x38 = .slice A 0 c := hd 8 (by kernel_rfl) _ rfl
              have e2 : x39 = .int .i64 (0) := hd 9 (by kernel_rfl) _ rfl
              subst e1 e2; go_wp2_with fail
              all_goals
                refine ⟨rfl, _, rfl, ?_, hJ, .inr (.inr (Below.refl _ _))⟩; exact hd2
            · have og : wr.ownsRow w2.heap.size 3 1 x37 (0 + 1) (L1 ++ [Value.int .i64 dy]) := hd 7 (by kernel_rfl) _ rfl
              have hs2 : RdS w2 1 x40 (0) L2 := hd 10 (by kernel_rfl) _ rfl
              obtain ⟨Aa, ca, e0, _, _⟩ := (RdS.of_own og).form
              go_wp2_with (at_builtin; refine zae _ rfl (.tmp 37) (.tmp 40) _ rfl w2.heap.size 3 iI _ 1 8 Tryz.underlying37 hiI hzI0 hzI1 hzI2 rfl (by omega) x37 (0 + 1) (L1 ++ [Value.int .i64 dy]) rfl og _ (0) _ rfl (hs2.below hJ) hone2 (by simp [maxLen] <;> omega) (by omega) hJ.size ?_; intro v3 w3 own3 gr3 at3)
              exact ⟨rfl, _, rfl, own3, hJ.trans (zag og gr3 hJ.size), .inr (.inl rfl)⟩
          · intro a gh wr d hag hall hJ hd
            obtain ⟨x0, x1, x2, x3, x4, x5, x6, x7, x8, x9, x10, x11, x12, x13, x14, x15, x16, x17, x18, x19, x20, x21, x22, x23, x24, x25, x26, x27, x28, x29, x30, x31, x32, x33, x34, x35, x36, x37, x38, x39, x40, x41, x42, x43, x44, x45, x46, rfl⟩ := zio hag.size hag.defers; have ag0 : x0 = .slice A 0 c := hag.k 0
            have ag1 : x1 = .int .i64 dy := hag.k 1
            have ag6 : x6 = .slice A1 0 c1 := hag.k 6
            have ag7 : x7 = .int .i64 (0 : Nat) := hag.k 7
            clear hag; subst ag0 ag1 ag6 ag7; have hown : wr.ownsRow w2.heap.size 3 1 x41 (0 + 1 + (0)) ((L1 ++ [Value.int .i64 dy]) ++ L2) := hd 11 (by kernel_rfl) _ rfl
            clear hd; rw [Hfl.out, show 0 + 1 + (0) = (putF dy ([] : List Int)).length by rw [Hlen.out]; rfl] at hown
            obtain ⟨A9, c9, e9, _, _⟩ := (RdS.of_own hown).form; subst e9; have hbr := hJ; have h9 := h4.below hbr; have own3 := zac own2 hbr; have hb9 := zab hbb hbr; change wpList _ _ _ [_] _ _; go_wp2_with fail; refine twoB (zcb _ (putF dy ([] : List Int)) _ (RdS.of_own hown)) (fun w5 hq5 hb5 => ?_) (fun w5 hq5 hb5 => ?_)
            · go_wp2_with fail
              go_ret2
              exact zcr (zrr hq.out hq5.out) (zac hown hb5) hz2 (zab hb9 hb5)
            · go_wp2_with fail
              go_ret2
              exact zcr (zm9 hq5.out) (zac own3 hb5) (Nat.le_refl _) (zab hb9 hb5)
  · have hbb := zab hb1 hb2
    have own2 := zac own1 hb2; go_wp2_with fail; go_ret2; exact zcr (zs5 hq.out) own2 (Nat.le_refl _) hbb
theorem zvb (r : List Int) (x : Int) : zd4 (r, 0) x = true ↔ 0 <= idxF r x := by
 unfold zd4; rw [List.any_eq_true]
 constructor
 ·rintro ⟨y, hy, e⟩
  have := of_decide_eq_true e; subst this; rw [zrs hy]; omega
 ·intro h
  apply Classical.byContradiction
  intro hno; have : idxF r x = -1 := zla (List.all_eq_true.2 (fun y hy => zyh (fun e => hno ⟨y, hy, decide_eq_true e⟩)))
  omega
theorem zoq (p : RPl) (x : Int) : zd4 p x = zd4 (p.1, 0) x := rfl
theorem zjn (a b : List (Value × Int)) : zaw (a ++ b) = zaw a ++ zaw b := by unfold zaw zbd; rw [List.map_append, List.flatMap_append]
theorem zif (p : Value × Int) (b : List (Value × Int)) : zaw (p :: b) = p.1.ownBlock.toList ++ zaw b := by unfold zaw zbd; rw [List.map_cons, List.flatMap_cons]
theorem zg9 {vs : List (Value × Int)} {k : Nat} (hk : k < vs.length) : zaw vs = zaw (vs.take k) ++ (vs[k].1.ownBlock.toList ++ zaw (vs.drop (k + 1))) := by
 rw [<- zif, <- zjn, <- List.drop_eq_getElem_cons hk, List.take_append_drop]
theorem zjk {vs : List (Value × Int)} {k : Nat} (p : Value × Int) (hk : k < vs.length) : zaw (vs.set k p) = zaw (vs.take k) ++ (p.1.ownBlock.toList ++ zaw (vs.drop (k + 1))) := by
 rw [<- zif, <- zjn, List.set_eq_take_append_cons_drop, if_pos hk]
theorem zyd {w : World} {B : Nat} {vs : List (Value × Int)} {ll : List RPl} {g c : Nat} {u : Value} {r : List Int} {Sk : List Nat} {k : Nat} (hl : vs.length = ll.length)
  (hown : w.ownsRow 0 60 2 (.slice (some ⟨g, 0, none⟩) vs.length c) vs.length (vs.flatMap cPl)) (hrows : zno w vs ll) (hf : zbc B w (g :: zaw vs)) (hk : OwL 3 cInt 1 w Sk u r) (hfk : zbc B w Sk)
  (hd : ∀ b ∈ g :: zaw vs, b ∉ Sk) (hkl : k < ll.length) :
  zcv (w.setCell ⟨g, k * 2, none⟩ u) (g :: zaw (vs.set k (u, (ll[k]).2))) (.slice (some ⟨g, 0, none⟩) vs.length c) (ll.set k (r, (ll[k]).2)) /\ zbc B (w.setCell ⟨g, k * 2, none⟩ u) (g :: zaw (vs.set k (u, (ll[k]).2))) := by
 have hkv : k < vs.length := by omega
 have hch : Chg [g] w (w.setCell ⟨g, k * 2, none⟩ u) := zav (Chg.refl _ _) (by simp)
 have hSk := hk.2; subst hSk; obtain ⟨e2, _⟩ := hrows k vs[k] ll[k] (List.getElem?_eq_getElem hkv) (List.getElem?_eq_getElem hkl); have hnd := List.nodup_cons.1 hf.1; have hsz := hch.size; refine ⟨⟨vs.set k (u, (ll[k]).2), by simp [hl], ?_, ?_, ?_⟩, ?_, ?_⟩
 ·have h1 := (hown.stored (k * 2) u).1
  have h2 := zv0 (f := cPl) (size := 2) zto vs k hkv 0 (by omega) u (u, (ll[k]).2) (by rw [<- e2]; rfl)
  rw [Nat.add_zero] at h2; rw [h2] at h1; rw [List.length_set]; exact h1
 ·intro i p r' hp hr'
  by_cases hi : k = i
  ·subst hi
   rw [List.getElem?_set_self hkv] at hp; rw [List.getElem?_set_self hkl] at hr'
   cases hp; cases hr'
   exact ⟨rfl, za0 hk.1 hch (fun b hb hb' => by simp at hb'; subst hb'; exact hd b List.mem_cons_self hb)⟩
  ·rw [List.getElem?_set_ne hi] at hp
   rw [List.getElem?_set_ne hi] at hr'; obtain ⟨h1, h2⟩ := hrows i p r' hp hr'; exact ⟨h1, za0 h2 hch (fun b hb hb' => by simp at hb'; subst hb'; exact hnd.1 (zeu hp b hb))⟩
 ·simp [Value.ownBlock]
 ·rw [zjk _ hkv]
  rw [zg9 hkv] at hnd hd; obtain ⟨n1, n2, d1, d2⟩ := zcm hnd.2; obtain ⟨n3, n4, d3, d4⟩ := zcm n2; rw [List.nodup_cons]; refine ⟨fun hm => ?_, List.nodup_append.2 ⟨n1, List.nodup_append.2 ⟨hfk.1, n4, fun b hb b' hb' e => ?_⟩, fun b hb b' hb' e => ?_⟩⟩
  ·rcases List.mem_append.1 hm with hm | hm
   ·exact hnd.1 (List.mem_append_left _ hm)
   ·rcases List.mem_append.1 hm with hm | hm
    ·exact hd g List.mem_cons_self hm
    ·exact hnd.1 (List.mem_append_right _ (List.mem_append_right _ hm))
  ·subst e
   exact hd b (List.mem_cons_of_mem _ (List.mem_append_right _ (List.mem_append_right _ hb'))) hb
  ·subst e
   rcases List.mem_append.1 hb' with hb' | hb'
   ·exact hd b (List.mem_cons_of_mem _ (List.mem_append_left _ hb)) hb'
   ·exact d1 b hb (List.mem_append_right _ hb')
 ·intro b hb
  rw [zjk _ hkv] at hb
  have hsub : b ∈ g :: zaw vs ∨ b ∈ u.ownBlock.toList := by
   rw [zg9 hkv]
   rcases List.mem_cons.1 hb with rfl | hb
   ·exact .inl List.mem_cons_self
   ·rcases List.mem_append.1 hb with hb | hb
    ·exact .inl (List.mem_cons_of_mem _ (List.mem_append_left _ hb))
    ·rcases List.mem_append.1 hb with hb | hb
     ·exact .inr hb
     ·exact .inl (List.mem_cons_of_mem _ (List.mem_append_right _ (List.mem_append_right _ hb)))
  rcases hsub with h | h
  ·have := hf.2 b h; omega
  ·have := hfk.2 b h; omega
theorem zra {w : World} {B n : Nat} {vs : List (Value × Int)} {ll : List RPl} {g c : Nat} {u : Value} {r : List Int} {Sk : List Nat} {k : Nat} (hn : n = vs.length) (hl : vs.length = ll.length)
  (hown : w.ownsRow 0 60 2 (.slice (some ⟨g, 0, none⟩) n c) n (vs.flatMap cPl)) (hrows : zno w vs ll) (hf : zbc B w (g :: zaw vs)) (hk : OwL 3 cInt 1 w Sk u r) (hfk : zbc B w Sk)
  (hd : ∀ b ∈ g :: zaw vs, b ∉ Sk) (hkl : k < ll.length) :
  zcv (w.setCell ⟨g, k * 2, none⟩ u) (g :: zaw (vs.set k (u, (ll[k]).2))) (.slice (some ⟨g, 0, none⟩) n c) (ll.set k (r, (ll[k]).2)) /\ zbc B (w.setCell ⟨g, k * 2, none⟩ u) (g :: zaw (vs.set k (u, (ll[k]).2))) := by
 subst hn; exact zyd hl hown hrows hf hk hfk hd hkl
def zuq (r : List RPl × Bool) (w : World) (e : Ending) (w' : World) : Prop := ∃ v S, e = .returned (.tuple #[v, .bool r.2]) /\ zcv w' S v r.1 /\ zbc w.heap.size w' S /\ Below w.heap.size w w'
theorem zcp {r : List RPl × Bool} {l : List RPl} {b : Bool} {w w' : World} {v : Value} {S : List Nat} {B : Nat} (hr : r = (l, b)) (hown : zcv w' S v l) (hf : zbc B w' S) (hB : w.heap.size <= B) (hb : Below w.heap.size w w') : zuq r w (.returned (.tuple #[v, .bool b])) w' := by
 subst hr; exact ⟨v, S, rfl, hown, zaa hf hB (Nat.le_refl _), hb⟩
theorem zn4 (pl : List RPl) (k p : Int) : (zek pl k p).1.length = pl.length := by unfold zek; split <;> simp
theorem zhh (v : Value) (pl : List RPl) (k p : Int) (w : World) (h : zel w v pl) (hl : zdy pl <= 1048576) :
  Calls Tryz.prog 117 #[v, .int .i64 k, .int .i64 p] w (zuq (zek pl k p) w) := by
 have h0 := h; obtain ⟨A, c, rfl, h1, h2⟩ := h.form; have hpl : pl.length <= 1048576 := by unfold zdy at hl; omega
 go_enter Tryz.func117, Tryz.ntmps117
 go_wp2_with fail; refine (zf2 _ pl _ h0 hl).mono ?_; rintro e w1 ⟨v1, S, rfl, ow, f1, hb1⟩; have h3 := h0.below hb1; obtain ⟨A1, c1, rfl, hlc1, _⟩ := ow.rd.form; have Ow := Lib.hid ow; clear ow h; go_wp2_with fail; refine twoB (zdn _ pl _ h3) (fun w2 hq hb2 => ?_) (fun w2 hq hb2 => ?_)
 ·have hbb := zab hb1 hb2
  have h4 := h3.below hb2; have f2 := zaa f1 (Nat.le_refl _) hb2.size; have ow2 := Lib.hid (Ow.out.below hb2); clear h3 f1 Ow hb1 hb2; go_wp2_with fail; refine two (zbo _ _ _ _) (fun hk => ?_) (fun hk => ?_)
  ·have hkb := zbg.1 hk.out
   obtain ⟨n, rfl⟩ := Int.eq_ofNat_of_zero_le hkb.1; have hn : n < pl.length := by omega
   go_wp2_with fail; refine two (zbo _ _ _ _) (fun hp => ?_) (fun hp => ?_)
   ·have hpb := zbg.1 hp.out
    obtain ⟨g, off, u, rfl, hg, k0, k1, hru⟩ := h4.cell hn; have htv := zte (p := p) hn hq.out hk.out hp.out; have hkn := zvb pl[n].1 p
    have hsr : pl[n].1.length <= 16777216 := by
     have hqq := hq.out; rw [zbt, Bool.and_eq_true, List.all_eq_true] at hqq; have := hqq.1 _ (List.getElem_mem hn); rw [zc1, Bool.and_eq_true] at this; have := zed (m := 6) this.1
     omega
    obtain ⟨Au, cu, rfl, _, _⟩ := hru.form; have hcon := fun (W : World) (hr : RdL cInt 1 W (.slice Au pl[n].1.length cu) pl[n].1) => zkv (.slice Au pl[n].1.length cu) pl[n].1 p W hr
    go_wp2_with fail; refine (hcon _ hru).mono ?_; rintro e w3 ⟨rfl, rfl⟩
    by_cases hkk : 0 <= idxF pl[n].1 p
    ·have hte : zef pl n p = false := by rw [htv, zoq, hkn.2 hkk]; rfl
     have Hte := Lib.hid hte; clear htv hkn hte hcon; generalize idxF pl[n].1 p = ix at *
     go_wp2_with fail; go_ret2; exact zcp (ze0 Hte.out) ow2.out f2 (Nat.le_refl _) hbb
    ·have hte : zef pl n p = true := by
      rw [htv, zoq]
      cases e : zd4 (pl[n].1, 0) p
      ·rfl
      ·exact absurd (hkn.1 e) hkk
     have Hte := Lib.hid (zqz hn hte); have hkk' : idxF pl[n].1 p < 0 := by omega
     clear htv hkn hte hcon; generalize idxF pl[n].1 p = ix at *
     go_wp2_with fail; refine (zpj _ pl[n].1 p _ hru hsr).mono ?_; rintro e w4 ⟨v4, rfl, hown4, hb4⟩; obtain ⟨vs, hvl, hown, hrows, eS⟩ := ow2.out.below hb4; have f4 := zaa f2 (Nat.le_refl _) hb4.size; obtain ⟨g1, cap1, e1⟩ := zce hown (by omega)
     injection e1 with e11 e12 e13
     subst e11 e13; rw [<- e12] at hown; have hgs : S = g1 :: zaw vs := eS; have hlow := f2.2; rw [hgs] at f4 hlow; have hk4 : OwL 3 cInt 1 w4 v4.ownBlock.toList v4 (putF p pl[n].1) := ⟨zaj hown4 (Nat.zero_le _), rfl⟩; have hw2 := hbb.size; have hf4 : zbc w.heap.size w4 v4.ownBlock.toList := zaa (zcz hown4) hw2 (Nat.le_refl _); have hset := zra e12 hvl hown hrows f4 hk4 hf4 (fun b hb hb' => by have := (hlow b hb).2; have := (hown4.lt b (by simpa using hb')).1; omega) hn
     have hxl := hown.1; obtain ⟨u0, k9⟩ : ∃ u, w4.cell? ⟨g1, n * 2, none⟩ = some u := ⟨_, (hown.cellAt (n * 2) (by omega)).trans (List.getElem?_eq_getElem (by omega))⟩
     have f9 := hown.frozenAt (n * 2); have hb9 : Below w.heap.size w (w4.setCell ⟨g1, n * 2, none⟩ v4) := (zab hbb hb4).setCell (by have := (hlow g1 List.mem_cons_self).1; omega) _
     have Hset := Lib.hid hset; obtain ⟨A4, c4, rfl, _, _⟩ := (RdS.of_own hown4).form; clear hset hown hrows f4 hk4 hf4 hlow eS hxl hown4 e12 hvl; go_wp2_with fail; go_ret2; exact zcp Hte.out Hset.out.1 Hset.out.2 (Nat.le_refl _) hb9
   ·have Hte := Lib.hid (zq6 (pl := pl) (k := n) hp.out)
    go_wp2_with fail; go_ret2; exact zcp (ze0 Hte.out) ow2.out f2 (Nat.le_refl _) hbb
  ·have Hte := Lib.hid (zq4 (p := p) hk.out)
   go_wp2_with fail; go_ret2; exact zcp (ze0 Hte.out) ow2.out f2 (Nat.le_refl _) hbb
 ·have Hte := Lib.hid (zrf (k := k) (p := p) hq.out)
  go_wp2_with fail; go_ret2; exact zcp (ze0 Hte.out) (Ow.out.below hb2) (zaa f1 (Nat.le_refl _) hb2.size) (Nat.le_refl _) (zab hb1 hb2)
def zit (pl : List RPl) (x : Int) (ld : List Int) (p : Nat) : Bool := decide (ld.getD p 0 < (pl.getD p ([], 0)).2) && zd4 (pl.getD p ([], 0)) x
def bump (ld : List Int) (p : Nat) : List Int := ld.set p (ld.getD p 0 + 1)
def canS (pl : List RPl) : List Int -> List Int -> Bool
 | [], _ => true
 | x :: ps, ld => (List.range pl.length).any (fun p => zit pl x ld p && canS pl ps (bump ld p))
theorem zh3 (ld : List Int) (p : Nat) : (bump ld p).length = ld.length := by simp [bump]
def zi7 (n : Nat) : List Int := List.replicate n 0
def canF (pl : List RPl) (ps : List Int) : Bool := (zbt pl && zbn ps 0 6) && canS pl ps (zi7 pl.length)
theorem ztl {pl : List RPl} {ps : List Int} (h : zbt pl = false) : canF pl ps = false := by rw [canF, h]; rfl
theorem zt9 {pl : List RPl} {ps : List Int} (h : zbn ps 0 6 = false) : canF pl ps = false := by rw [canF, h, Bool.and_false]; rfl
theorem zxh {pl : List RPl} {ps : List Int} (h1 : zbt pl = true) (h2 : zbn ps 0 6 = true) : canF pl ps = canS pl ps (zi7 pl.length) := by rw [canF, h1, h2]; rfl
theorem zxs {pl : List RPl} {x : Int} {ps ld : List Int} {p : Nat} (hp : p < pl.length) (h1 : zit pl x ld p = true) (h2 : canS pl ps (bump ld p) = true) : canS pl (x :: ps) ld = true := by
 rw [canS, List.any_eq_true]; exact ⟨p, List.mem_range.2 hp, by rw [h1, h2]; rfl⟩
def zew (pl : List RPl) (x : Int) (ps ld : List Int) (k : Nat) : Prop := ∀ p, p < k -> (zit pl x ld p && canS pl ps (bump ld p)) = false
theorem zew.zero (pl : List RPl) (x : Int) (ps ld : List Int) : zew pl x ps ld 0 := fun p h => absurd h (by omega)
theorem zew.no {pl : List RPl} {x : Int} {ps ld : List Int} {k : Nat} (h : zew pl x ps ld k) (h1 : zit pl x ld k = false) : zew pl x ps ld (k + 1) := fun p hp => by
 rcases Nat.lt_succ_iff_lt_or_eq.1 hp with h2 | rfl
 ·exact h p h2
 ·rw [h1]; rfl
theorem zew.sub {pl : List RPl} {x : Int} {ps ld : List Int} {k : Nat} (h : zew pl x ps ld k) (h1 : canS pl ps (bump ld k) = false) : zew pl x ps ld (k + 1) := fun p hp => by
 rcases Nat.lt_succ_iff_lt_or_eq.1 hp with h2 | rfl
 ·exact h p h2
 ·rw [h1, Bool.and_false]
theorem zew.end_ {pl : List RPl} {x : Int} {ps ld : List Int} (h : zew pl x ps ld pl.length) : canS pl (x :: ps) ld = false := by
 rw [canS]
 exact Bool.eq_false_iff.2 (fun h2 => by
  obtain ⟨p, hp, h3⟩ := List.any_eq_true.1 h2; rw [h p (List.mem_range.1 hp)] at h3; exact absurd h3 (by simp))
theorem zrl {pl : List RPl} {x : Int} {ld : List Int} {p : Nat} (hp : p < pl.length) (hl : p < ld.length) : zit pl x ld p = (decide (ld[p] < pl[p].2) && zd4 pl[p] x) := by
 unfold zit; rw [List.getD_eq_getElem?_getD, List.getElem?_eq_getElem hl, List.getD_eq_getElem?_getD, List.getElem?_eq_getElem hp]; rfl
theorem zqi {ld : List Int} {p : Nat} (hl : p < ld.length) : bump ld p = ld.set p (ld[p] + 1) := by
 unfold bump; rw [List.getD_eq_getElem?_getD, List.getElem?_eq_getElem hl]; rfl
theorem zzs {ld : List Int} {p : Nat} (hl : p < ld.length) : (bump ld p).set p ld[p] = ld := by
 rw [zqi hl, List.set_set, List.set_getElem_self]
def whyF (n : Int) (cs : List zad) (pl : List RPl) : Int :=
 if za7 n cs pl = true then (if zao n.toNat cs = upN n.toNat then (if zbk n.toNat cs = [] then (if canF pl (upN n.toNat) = true then 0 else 3) else 2) else 1) else -1
theorem zxx {n : Int} {cs : List zad} {pl : List RPl} (h : za7 n cs pl = false) : whyF n cs pl = -1 := if_neg (by rw [h]; simp)
theorem zxg {n : Int} {cs : List zad} {pl : List RPl} (h : za7 n cs pl = true) (h1 : ¬ zao n.toNat cs = upN n.toNat) : whyF n cs pl = 1 := by rw [whyF, if_pos h, if_neg h1]
theorem zxp {n : Int} {cs : List zad} {pl : List RPl} (h : za7 n cs pl = true) (h1 : zao n.toNat cs = upN n.toNat) (h2 : ¬ zbk n.toNat cs = []) : whyF n cs pl = 2 := by rw [whyF, if_pos h, if_pos h1, if_neg h2]
theorem zxb {n : Int} {cs : List zad} {pl : List RPl} (h : za7 n cs pl = true) (h1 : zao n.toNat cs = upN n.toNat) (h2 : zbk n.toNat cs = []) (h3 : canF pl (upN n.toNat) = false) : whyF n cs pl = 3 := by rw [whyF, if_pos h, if_pos h1, if_pos h2, if_neg (by rw [h3]; simp)]
theorem zw4 {n : Int} {cs : List zad} {pl : List RPl} (h : za7 n cs pl = true) (h1 : zao n.toNat cs = upN n.toNat) (h2 : zbk n.toNat cs = []) (h3 : canF pl (upN n.toNat) = true) : whyF n cs pl = 0 := by rw [whyF, if_pos h, if_pos h1, if_pos h2, if_pos h3]
theorem zpp : ∀ (l : List Int) (k : Nat), k + 1 < l.length -> zcg (zcg l k) k = l := by
 intro l
 induction l with
 | nil => intro k h; simp at h
 | cons a l ih =>
  intro k h
  cases k with
  | zero =>
   match l, h with
   | b :: l, _ => rw [zg0, zg0]
  | succ k => rw [zgx, zgx, ih k (by simpa using h)]
theorem zmp {l : List Int} {k : Nat} (h : k + 1 < l.length) : (zcg l k).getD k 0 = l.getD (k + 1) 0 := by
 unfold zcg
 simp only [List.getD_eq_getElem?_getD, List.getElem?_set, List.length_set]
 rw [if_neg (show ¬ k + 1 = k by omega)]
 simp only [if_true]
 rw [if_pos (show k < l.length by omega), Option.getD_some]
theorem zid {l : List Int} {k : Nat} (h : k + 1 < l.length) : (zcg l k).getD (k + 1) 0 = l.getD k 0 := by
 unfold zcg
 simp only [List.getD_eq_getElem?_getD, List.getElem?_set, List.length_set]
 simp only [if_true]
 rw [if_pos h, Option.getD_some]
theorem zj9 {l : List Int} {k j : Nat} (h1 : j ≠ k) (h2 : j ≠ k + 1) : (zcg l k).getD j 0 = l.getD j 0 := by
 unfold zcg
 simp only [List.getD_eq_getElem?_getD, List.getElem?_set, List.length_set]
 rw [if_neg (fun e => h2 e.symm), if_neg (fun e => h1 e.symm)]
theorem zrp {n i : Nat} (h : i < n) : (upN n).getD i 0 = (i : Int) := by
 unfold upN; rw [List.getD_eq_getElem?_getD, List.getElem?_map, List.getElem?_range h]; rfl
theorem zr1 {n : Nat} {o : List Int} (h : zcf n o) {i j x y : Nat} (hi : i < n) (hj : j < n) (hij : i ≠ j) (hx : o.getD i 0 = (x : Int)) (hy : o.getD j 0 = (y : Int)) : x ≠ y := by
 have hl := h.len; have h1 : i < o.length := by omega
 have h2 : j < o.length := by omega
 have := h.ne h1 h2 hij; rw [List.getD_eq_getElem?_getD, List.getElem?_eq_getElem h1, Option.getD_some] at hx; rw [List.getD_eq_getElem?_getD, List.getElem?_eq_getElem h2, Option.getD_some] at hy; intro e; subst e; exact this (by rw [hx, hy])
structure Adds (n : Nat) (t t' : List (List Int)) (x y : Nat) (d : Int) : Prop where
 sq : Sq n t'
 cell : ∀ i j, cellT t' i j = if (i = x /\ j = y) ∨ (i = y /\ j = x) then cellT t i j + d else cellT t i j
theorem Adds.st {n : Nat} {o : List Int} {t t' : List (List Int)} {x y : Nat} {d : Int} (h : IsSt n (o, t)) (ha : Adds n t t' x y d) : IsSt n (o, t') := by
 refine ⟨h.ord, ha.sq, fun i j => ?_⟩
 show cellT t' i j = cellT t' j i
 have hs : cellT t i j = cellT t j i := h.sym i j; rw [ha.cell, ha.cell, hs]
 by_cases h1 : (i = x /\ j = y) ∨ (i = y /\ j = x)
 ·rw [if_pos h1, if_pos (h1.symm.imp (fun e => ⟨e.2, e.1⟩) (fun e => ⟨e.2, e.1⟩))]
 ·rw [if_neg h1, if_neg (fun e => h1 (e.symm.imp (fun e => ⟨e.2, e.1⟩) (fun e => ⟨e.2, e.1⟩)))]
theorem zp6 {n : Nat} {o : List Int} {t : List (List Int)} (h : IsSt n (o, t)) {k : Nat} (hk : k + 1 < n) (f : Bool) {x y : Nat} (hx : o.getD k 0 = (x : Int)) (hy : o.getD (k + 1) 0 = (y : Int)) :
  x < n /\ y < n /\ x ≠ y /\ ∃ t', zdv (o, t) ((k : Int), f) = (zcg o k, t') /\ Adds n t t' x y (zfa f) /\ IsSt n (zcg o k, t') := by
 obtain ⟨x', y', hx', hy', hne, e1, e2, e3, e4⟩ := zil h.ord hk; have ex : x = x' := by have := hx.symm.trans e1; omega
 have ey : y = y' := by have := hy.symm.trans e2; omega
 subst ex ey; have hst := h.step (c := ((k : Int), f)) ⟨by simp, by simp; omega⟩
 rw [zoa (_n := n) (c := ((k : Int), f)) e3 e4] at hst ⊢; exact ⟨hx', hy', hne, _, rfl, ⟨hst.sq, fun i j => zfc h.sq hx' hy' hne _ i j⟩, hst⟩
def zmt (n : Nat) (st : List Int × List (List Int)) : Prop := ∀ p q : Nat, p < q -> q < n -> ∀ a b : Nat, st.1.getD p 0 = (a : Int) -> st.1.getD q 0 = (b : Int) -> cellT st.2 a b % 2 = if b < a then 1 else 0
theorem zmt.start (n : Nat) : zmt n (upN n, zhu n) := by
 intro p q hpq hq a b ha hb; have ha : (upN n).getD p 0 = (a : Int) := ha; have hb : (upN n).getD q 0 = (b : Int) := hb; rw [zrp (by omega)] at ha
 rw [zrp (by omega)] at hb
 show cellT (zhu n) a b % 2 = _
 rw [zgv, if_neg (by omega)]; rfl
theorem zmt.step {n : Nat} {o : List Int} {t : List (List Int)} (h : IsSt n (o, t)) (hp : zmt n (o, t)) {k : Nat} (hk : k + 1 < n) (f : Bool) : zmt n (zdv (o, t) ((k : Int), f)) := by
 have hl : o.length = n := h.ord.len; obtain ⟨x, y, _, _, _, ex, ey, _, _⟩ := zil h.ord hk; obtain ⟨hx, hy, hne, t', e, ad, s'⟩ := zp6 h hk f ex ey; rw [e]
 have other : ∀ p q a b : Nat, p < q -> q < n -> ¬ (p = k /\ q = k + 1) -> o.getD p 0 = (a : Int) -> o.getD q 0 = (b : Int) -> cellT t' a b % 2 = if b < a then 1 else 0 := by
  intro p q a b hpq hq hno ha hb; rw [ad.cell, if_neg, ]
  ·exact hp p q hpq hq a b ha hb
  ·rintro (⟨rfl, rfl⟩ | ⟨rfl, rfl⟩)
   ·have h1 : p = k := Classical.byContradiction fun hn => zr1 h.ord (show p < n by omega) (show k < n by omega) hn ha ex rfl
    have h2 : q = k + 1 := Classical.byContradiction fun hn => zr1 h.ord hq hk hn hb ey rfl
    exact hno ⟨h1, h2⟩
   ·have h1 : p = k + 1 := Classical.byContradiction fun hn => zr1 h.ord (show p < n by omega) hk hn ha ey rfl
    have h2 : q = k := Classical.byContradiction fun hn => zr1 h.ord hq (show k < n by omega) hn hb ex rfl
    omega
 intro p q hpq hq a b ha hb; have ga : (zcg o k).getD p 0 = (a : Int) := ha; have gb : (zcg o k).getD q 0 = (b : Int) := hb; clear ha hb
 show cellT t' a b % 2 = _
 by_cases h1 : p = k
 ·subst h1
  rw [zmp (by omega)] at ga
  by_cases h2 : q = p + 1
  ·subst h2
   rw [zid (by omega)] at gb
   have ea : a = y := by have := ga.symm.trans ey; omega
   have eb : b = x := by have := gb.symm.trans ex; omega
   subst ea eb; have h3 : cellT t b a % 2 = if a < b then 1 else 0 := hp p (p + 1) (by omega) hq b a ex ey
   have h4 : cellT t a b = cellT t b a := h.sym a b; rw [ad.cell, if_pos (.inr ⟨rfl, rfl⟩), h4]; have hs : zfa f = 1 ∨ zfa f = -1 := by cases f; exact .inr rfl; exact .inl rfl
   by_cases h5 : a < b
   ·rw [if_pos h5] at h3
    rw [if_neg (by omega)]
    omega
   ·rw [if_neg h5] at h3
    rw [if_pos (by omega)]
    omega
  ·rw [zj9 (by omega) h2] at gb
   exact other (p + 1) q a b (by omega) hq (by omega) ga gb
 ·by_cases h2 : p = k + 1
  ·subst h2
   rw [zid (by omega)] at ga
   rw [zj9 (by omega) (by omega)] at gb
   exact other k q a b (by omega) hq (by omega) ga gb
  ·rw [zj9 h1 h2] at ga
   by_cases h3 : q = k
   ·subst h3
    rw [zmp (by omega)] at gb
    exact other p (q + 1) a b (by omega) hk (by omega) ga gb
   ·by_cases h4 : q = k + 1
    ·subst h4
     rw [zid (by omega)] at gb
     exact other p k a b (by omega) (by omega) (by omega) ga gb
    ·rw [zj9 h3 h4] at gb
     exact other p q a b hpq hq (by omega) ga gb
theorem zo1 {n : Nat} {c : zad} (h : 0 <= c.1 /\ c.1 <= (n : Int) - 2) : ∃ k : Nat, c = ((k : Int), c.2) /\ k + 1 < n := ⟨c.1.toNat, by rw [show ((c.1.toNat : Nat) : Int) = c.1 by omega], by omega⟩
theorem zmt.fold {n : Nat} : ∀ (cs : List zad) {st : List Int × List (List Int)}, IsSt n st -> zmt n st -> (∀ c ∈ cs, 0 <= c.1 /\ c.1 <= (n : Int) - 2) -> zmt n (cs.foldl zdv st) := by
 intro cs
 induction cs with
 | nil => intro st _ h _; exact h
 | cons c cs ih =>
  intro st h hp hc; rw [List.foldl_cons]; have hb := hc c List.mem_cons_self; refine ih (h.step hb) ?_ (fun x hx => hc x (List.mem_cons_of_mem _ hx))
  obtain ⟨k, e, hk⟩ := zo1 hb; rw [e]; exact zmt.step (o := st.1) (t := st.2) h hp hk _
theorem zqv (n : Nat) (a b : List zad) : twSt n (a ++ b) = b.foldl zdv (twSt n a) := by unfold twSt; rw [List.foldl_append]
/- reduced crossings -/
theorem zzt {n : Nat} {st : List Int × List (List Int)} (h : IsSt n st) {l c : zad} (hb : 0 <= l.1 /\ l.1 <= (n : Int) - 2) (h1 : l.1 = c.1) (h2 : l.2 ≠ c.2) : zdv (zdv st l) c = st := by
 obtain ⟨o, t⟩ := st; have hl : o.length = n := h.ord.len; obtain ⟨k, e, hk⟩ := zo1 hb; have ec : c = ((k : Int), c.2) := by rw [show c = (c.1, c.2) from rfl, <- h1, e]
 rw [e, ec]; obtain ⟨x, y, _, _, _, ex, ey, _, _⟩ := zil h.ord hk; obtain ⟨_, _, hne, t1, e1, a1, s1⟩ := zp6 h hk l.2 ex ey; obtain ⟨_, _, _, t2, e2, a2, s2⟩ := zp6 s1 hk c.2 ((zmp (by omega)).trans ey) ((zid (by omega)).trans ex)
 rw [e1, e2, zpp o k (by omega)]
 have : t2 = t := by
  refine zww a2.sq h.sq (fun i j _ _ => ?_)
  rw [a2.cell, a1.cell]
  have hs : zfa l.2 + zfa c.2 = 0 := by
   cases hl2 : l.2 <;> cases hc2 : c.2 <;> simp [hl2, hc2] at h2 <;> rfl
  by_cases h1 : (i = x /\ j = y) ∨ (i = y /\ j = x)
  ·rw [if_pos h1, if_pos h1.symm]; show _ = cellT t i j; omega
  ·rw [if_neg h1, if_neg (fun e => h1 e.symm)]
 rw [this]
theorem zva {out : List zad} (h : 0 < out.length) : out = out.take (out.length - 1) ++ [zg2 out] := by
 unfold zg2; rw [List.getD_eq_getElem?_getD, List.getElem?_eq_getElem (show out.length - 1 < out.length by omega), Option.getD_some]
 have := zbm out (show out.length - 1 < out.length by omega)
 rw [show out.length - 1 + 1 = out.length by omega, List.take_length] at this
 exact this
theorem zpu {n : Nat} {out : List zad} {c : zad} (h : ∀ c ∈ out, 0 <= c.1 /\ c.1 <= (n : Int) - 2) (hc : 0 <= c.1 /\ c.1 <= (n : Int) - 2) : twSt n (zdm out c) = zdv (twSt n out) c /\ ∀ x ∈ zdm out c, 0 <= x.1 /\ x.1 <= (n : Int) - 2 := by
 unfold zdm
 by_cases hu : zjb out c = true
 ·rw [if_pos hu]
  unfold zjb at hu; rw [Bool.and_eq_true, Bool.and_eq_true, decide_eq_true_eq, decide_eq_true_eq] at hu; obtain ⟨h0, h1, h2⟩ := hu; have hsp := zva h0; have h2 : (zg2 out).2 ≠ c.2 := by simpa using h2
  refine ⟨?_, fun x hx => h x (List.mem_of_mem_take hx)⟩
  have e1 : twSt n out = zdv (twSt n (out.take (out.length - 1))) (zg2 out) := by
   conv => lhs; rw [hsp]
   rw [zqv]; rfl
  rw [e1]
  have hm : zg2 out ∈ out := by
   have : zg2 out ∈ out.take (out.length - 1) ++ [zg2 out] := by simp
   rwa [<- hsp] at this
  exact (zzt (IsSt.tw (fun x hx => h x (List.mem_of_mem_take hx))) (h _ hm) h1 h2).symm
 ·rw [if_neg hu, zqv]
  exact ⟨rfl, fun x hx => (List.mem_append.1 hx).elim (h x) (fun e => by rw [List.mem_singleton.1 e]; exact hc)⟩
theorem zt8 {n : Nat} : ∀ (cs out : List zad), (∀ c ∈ out, 0 <= c.1 /\ c.1 <= (n : Int) - 2) -> (∀ c ∈ cs, 0 <= c.1 /\ c.1 <= (n : Int) - 2) -> twSt n (cs.foldl zdm out) = cs.foldl zdv (twSt n out) /\ ∀ x ∈ cs.foldl zdm out, 0 <= x.1 /\ x.1 <= (n : Int) - 2 := by
 intro cs
 induction cs with
 | nil => intro out h _; exact ⟨rfl, h⟩
 | cons c cs ih =>
  intro out h hc; rw [List.foldl_cons, List.foldl_cons]; obtain ⟨e1, e2⟩ := zpu h (hc c List.mem_cons_self); rw [<- e1]; exact ih _ e2 (fun x hx => hc x (List.mem_cons_of_mem _ hx))
theorem zr9 {n : Nat} {cs : List zad} (h : ∀ c ∈ cs, 0 <= c.1 /\ c.1 <= (n : Int) - 2) : twSt n (redF cs) = twSt n cs /\ ∀ x ∈ redF cs, 0 <= x.1 /\ x.1 <= (n : Int) - 2 := zt8 cs [] (fun _ hx => by simp at hx) h
theorem zsx {n : Nat} {cs : List zad} (h : zax n cs = true) : zax n (redF cs) = true := by
 obtain ⟨h1, h2, h3⟩ := za2 h; have h4 := (zr9 h3).2; have h5 := zwi cs; refine zkq (zbg.2 h1) (by omega) ?_
 rw [List.all_eq_true]; intro c hc; exact zbg.2 (h4 c hc)
/- going home -/
end Go.Proofs.YtkbacoadejglkaaGreatDoor
