/- Several texts in one: Contracts: distances. Contracts: companies that grow: with, CrossOver, TakeBack. Written by a program (gen_k7.py). Contracts: theatres that become others: becomes, HirePlayer, MovePuppet. Written by a program (gen_k10.py). Contracts: HirePlayer. Written by a program (gen_k10.py). Contracts: Reduced, Tidy. Written by a program (gen_k8.py). Contracts: Tidy. Written by a program (gen_k8.py). Plain laws: a number put into a list, as the reference puts it; days added; puppets taught. No program in sight. Contract: whether a player knows a puppet (of the reference). Contracts: AddShow, TeachPuppet. Written by a program (gen_t3.py). Contracts: TeachPuppet of the program; the words for a player that is changed. Contracts: TeachPuppet of the reference. Written by a program (gen_t5.py). Contracts: TeachPlayer. Written by a program (gen_k15.py). Contracts: has and sameInts of the laws; ControlOk, PullsOf, JointsHeld at controls as they are drawn. The drawing of crossings and of players. Written by a program (gen_w7.py). The drawing of seasons: ascending days; as many shows as possible. Castings in plain words: players who know a puppet and have a free hand; why a company does not play. No program in sight. Crossings in plain words: full turns, even twists at home, unwinding leaves none; reduced crossings lead to the same. No program in sight. Contracts: the exchanges that sort, the way home, of the reference. -/
import Derived.Deep.DeepCutAuto
import Derived.Deep.QuietTactic
import Derived.BigQuiet
import Derived.IntWalk
import Derived.StillTailTactics
import Derived.Test.YteidpejjjphecaaGreatDoorBdA1x10
import Derived.Test.YteidpejjjphecaaGreatDoorBdC1x9
import Derived.Test.YteidpejjjphecaaGreatDoorBdK3x9
import Derived.Test.YteidpejjjphecaaGreatDoorBdI7x14
import Derived.Test.YteidpejjjphecaaGreatDoorBdM7x3
import Derived.Test.YteidpejjjphecaaGreatDoorBdK1x7
import Derived.Test.YteidpejjjphecaaGreatDoorBdCPControlx2
import Derived.Test.YteidpejjjphecaaGreatDoorBdM5x8
import Derived.Test.YteidpejjjphecaaGreatDoorKC
import Derived.Test.YteidpejjjphecaaGreatDoorBdW1x3
import Derived.Test.YteidpejjjphecaaGreatDoorU3
import Derived.Test.YteidpejjjphecaaGreatDoorY2
namespace Go.Proofs.YteidpejjjphecaaGreatDoor
open Go.RowKit
/- the step, case by case -/
open Go.RowKit
def RetCompany (n : Int) (ok : Bool) (d1 : List RCross) (d2 : List RPl) (w : World) (e : Ending) (w' : World) : Prop :=
 ∃ x1 x2 S, e = .returned (.tuple #[.agg #[.int .i64 n, x1, x2], .bool ok]) ∧ OwCompany w' S x1 x2 d1 d2 ∧ Fresh w.heap.size w' S ∧ Below w.heap.size w w'
def withB (n : Int) (cs : List RCross) (pl : List RPl) (l : List RCross) : Bool := companyB n cs pl && companyB n (cs ++ l) pl
def withC (n : Int) (cs : List RCross) (pl : List RPl) (l : List RCross) : List RCross := if withB n cs pl l = true then cs ++ l else cs
theorem with_sz (n : Int) (cs : List RCross) (pl : List RPl) (l : List RCross) : szCompany (withC n cs pl l) pl ≤ szCompany cs pl ∨ szCompany (withC n cs pl l) pl ≤ 1000 := by
 unfold withC
 split
 ·rename_i h
  rw [withB, Bool.and_eq_true] at h
  have := companyB_sz h.2
  omega
 ·exact .inl (Nat.le_refl _)
theorem with_f {n : Int} {cs l : List RCross} {pl : List RPl} {w w' : World} {e : Ending} (h : withB n cs pl l = false) (hr : RetCompany n false cs pl w e w') : RetCompany n (withB n cs pl l) (withC n cs pl l) pl w e w' := by rw [withC, h]; exact hr
theorem with_t {n : Int} {cs l : List RCross} {pl : List RPl} {w w' : World} {e : Ending} (h : withB n cs pl l = true) (hr : RetCompany n true (cs ++ l) pl w e w') : RetCompany n (withB n cs pl l) (withC n cs pl l) pl w e w' := by rw [withC, h]; exact hr
set_option maxHeartbeats 8000000 in
set_option maxRecDepth 100000 in
theorem implWith_any (n : Int) (v1 v2 vl : Value) (cs : List RCross) (pl : List RPl) (l : List RCross) (w : World) (h : RdCompany w v1 v2 cs pl) (hv : RdL cCross 2 w vl l) (hll : l.length ≤ 100000) (hsz : szCompany cs pl ≤ 1048576) :
  Calls Tryz.prog 81 #[.agg #[.int .i64 n, v1, v2], vl] w (RetCompany n (withB n cs pl l) (withC n cs pl l) pl w) := by
 obtain ⟨⟨A1, n1, rfl⟩, ⟨A2, n2, rfl⟩⟩ := h.forms
 go_enter Tryz.func81, Tryz.ntmps81
 go_wp2_with fail
 refine (companyCopied_any n _ _ cs pl _ (h.below (by (repeat' (with_reducible first | exact Below.refl _ _ | assumption | refine qS ?_ _ | refine qA ?_ _ | refine qD ?_ | refine qN ?_ _)))) hsz).mono ?_
 rintro e w1 ⟨x1, x2, S, rfl, ow, f1, q1⟩
 obtain ⟨⟨B1, k1, rfl⟩, ⟨B2, k2, rfl⟩⟩ := ow.rd.forms
 have z1 := q1.size
 simp at z1
 have hb : Below w.heap.size w w1 := Below.trans (by (repeat' (with_reducible first | exact Below.refl _ _ | assumption | refine qS ?_ _ | refine qA ?_ _ | refine qD ?_ | refine qN ?_ _))) (q1.mono (by simp <;> omega))
 replace f1 := fresh_mono (B' := w.heap.size + 1 + 1) f1 (by simp) (Nat.le_refl _)
 have Lc : Loc w1 (w.heap.size) [.int .i64 n, .slice A1 cs.length n1, .slice A2 pl.length n2] := ((Loc.new w #[.int .i64 n, .slice A1 cs.length n1, .slice A2 pl.length n2] 27).alloc _).below q1
 have Lr : Loc w1 (w.heap.size + 1) [.int .i64 0, .slice none 0 0, .slice none 0 0] := by
  have := (Loc.new (w.alloc (.cells #[.int .i64 n, .slice A1 cs.length n1, .slice A2 pl.length n2] 27)) #[.int .i64 0, .slice none 0 0, .slice none 0 0] 27).below q1
  simpa using this
 go_upto_region 2 with (fail)
 obtain ⟨g, hgz⟩ : ∃ g, w1.heap.size = g := ⟨_, rfl⟩
 replace Lc : Loc (w1.alloc (.cells #[.int .i64 n, .slice B1 cs.length k1, .slice B2 pl.length k2] 27)) (w.heap.size) [.int .i64 n, .slice A1 cs.length n1, .slice A2 pl.length n2] := Lc.alloc _
 replace Lr : Loc (w1.alloc (.cells #[.int .i64 n, .slice B1 cs.length k1, .slice B2 pl.length k2] 27)) (w.heap.size + 1) [.int .i64 0, .slice none 0 0, .slice none 0 0] := Lr.alloc _
 have Lo : Loc (w1.alloc (.cells #[.int .i64 n, .slice B1 cs.length k1, .slice B2 pl.length k2] 27)) (w1.heap.size) [.int .i64 n, .slice B1 cs.length k1, .slice B2 pl.length k2] := Loc.new w1 #[.int .i64 n, .slice B1 cs.length k1, .slice B2 pl.length k2] 27
 replace hb : Below w.heap.size w (w1.alloc (.cells #[.int .i64 n, .slice B1 cs.length k1, .slice B2 pl.length k2] 27)) := by (repeat' (with_reducible first | exact Below.refl _ _ | assumption | refine qS ?_ _ | refine qA ?_ _ | refine qD ?_ | refine qN ?_ _))
 replace ow := ow.below (w' := (w1.alloc (.cells #[.int .i64 n, .slice B1 cs.length k1, .slice B2 pl.length k2] 27))) (by (repeat' (with_reducible first | exact Below.refl _ _ | assumption | refine qS ?_ _ | refine qA ?_ _ | refine qD ?_ | refine qN ?_ _)))
 have hS : ∀ b ∈ S, b < g := fun b hb => by have := (f1.2 b hb).2; omega
 replace f1 := fresh_mono (w' := (w1.alloc (.cells #[.int .i64 n, .slice B1 cs.length k1, .slice B2 pl.length k2] 27))) f1 (Nat.le_refl _) (by simp)
 have hgW : g < (w1.alloc (.cells #[.int .i64 n, .slice B1 cs.length k1, .slice B2 pl.length k2] 27)).heap.size := by simp; omega
 have hg2 : w.heap.size + 1 + 1 ≤ g := by omega
 clear q1
 generalize w1.alloc (.cells #[.int .i64 n, .slice B1 cs.length k1, .slice B2 pl.length k2] 27) = W at *
 rw [hgz] at Lo ⊢
 clear hgz z1 w1
 have hcl : cs.length ≤ 1048576 := by unfold szCompany at hsz; omega
 obtain ⟨S1, S2, rfl, o1, o2⟩ := ow
 have hv' := hv.below hb
 obtain ⟨Av, cv, rfl, _, _⟩ := hv.form
 obtain ⟨i0, hi0, hz0, hz1, hz2⟩ := info_parts infoCross
 have e1 := o1.2
 subst e1
 have hown : W.ownsRow (w.heap.size + 1 + 1) 79 2 (.slice B1 cs.length k1) cs.length (cs.flatMap cCross) := own_up o1.1 (fun b hb => f1.2 b (List.mem_append_left _ hb))
 have Hf := Lib.hid f1
 have HS := Lib.hid hS
 have O2 := Lib.hid o2
 have Hown := Lib.hid hown
 clear f1 hS o2 hown o1
 have o0 := (Lo 0 _ rfl).1
 have o1 := (Lo 1 _ rfl).1
 have o2 := (Lo 2 _ rfl).1
 have of1 := (Lo 1 _ rfl).2
 go_upto_region 3 with (at_builtin; refine wpList_appendB _ rfl (.tmp 10) (.tmp 11) _ rfl (w.heap.size + 1 + 1) 79 i0 _ 2 16 Tryz.underlying24 hi0 hz0 hz1 hz2 rfl (by omega) _ cs.length (cs.flatMap cCross) rfl Hown.out _ l.length (l.flatMap cCross) rfl hv' (oneCell_flat cCross_one l) (by simp [maxLen]; omega) (by omega) (by omega) ?_; intro v3 w3 own3 gr3 at3; obtain ⟨B3, k3, rfl, _, _⟩ := (RdS.of_own own3).form; have hch := Chg.of_grown gr3; have ho1 := carryChg hch o1 (fun hm => Nat.lt_irrefl _ (HS.out _ (List.mem_append_left _ hm))); have hof1 := carryChgF hch o1 of1 (fun hm => Nat.lt_irrefl _ (HS.out _ (List.mem_append_left _ hm))); clear o0 o1 o2 of1 hv')
 have hc0 : w.heap.size ∉ (Value.slice B1 cs.length k1).ownBlock.toList := fun hm => by have := (Hf.out.2 _ (List.mem_append_left _ hm)).1; omega
 have hc1 : w.heap.size + 1 ∉ (Value.slice B1 cs.length k1).ownBlock.toList := fun hm => by have := (Hf.out.2 _ (List.mem_append_left _ hm)).1; omega
 have hcg : g ∉ (Value.slice B1 cs.length k1).ownBlock.toList := fun hm => Nat.lt_irrefl _ (HS.out _ (List.mem_append_left _ hm))
 replace Lc := (Lc.chg hch hc0).far (g := g) (i := 1) (u := .slice B3 (cs.length + l.length) k3) (by omega)
 replace Lr := (Lr.chg hch hc1).far (g := g) (i := 1) (u := .slice B3 (cs.length + l.length) k3) (by omega)
 replace Lo : Loc (w3.setCell ⟨g, 1, none⟩ (.slice B3 (cs.length + l.length) k3)) (g) [.int .i64 n, .slice B3 (cs.length + l.length) k3, .slice B2 pl.length k2] := (Lo.chg hch hcg).set (i := 1) (v := .slice B1 cs.length k1) rfl
 obtain ⟨_, _, hdj, hdj'⟩ := nodup2 Hf.out.1
 obtain ⟨f3, hd3⟩ := fresh_app own3 at3 (T := S2) (fun b hb => ⟨(Hf.out.2 b (List.mem_append_right _ hb)).2, hdj' b hb⟩)
 have hs3 := gr3.size
 have f2 := fresh_mono (w' := w3) (fresh_right Hf.out) (Nat.le_refl _) hs3
 have fj := fresh_join f3 f2 hd3
 have hgn : ∀ b ∈ (Value.slice B3 (cs.length + l.length) k3).ownBlock.toList ++ S2, b ≠ g := by
  intro b hb e
  subst e
  rcases List.mem_append.1 hb with hb | hb
  ·rcases at3 with h3 | h3
   ·rw [h3] at hb; exact hcg hb
   ·rw [h3] at hb; simp at hb; omega
  ·exact Nat.lt_irrefl _ (HS.out _ (List.mem_append_right _ hb))
 have o3 : OwL 79 cCross 2 w3 (Value.slice B3 (cs.length + l.length) k3).ownBlock.toList (.slice B3 (cs.length + l.length) k3) (cs ++ l) := ⟨by rw [List.length_append, List.flatMap_append]; exact own_mono own3 (Nat.zero_le _), rfl⟩
 have ow3 : OwCompany w3 ((Value.slice B3 (cs.length + l.length) k3).ownBlock.toList ++ S2) (.slice B3 (cs.length + l.length) k3) (.slice B2 pl.length k2) (cs ++ l) pl := ⟨_, _, rfl, o3, O2.out.chg hch hdj'⟩
 have hset : Chg [g] w3 (w3.setCell ⟨g, 1, none⟩ (.slice B3 (cs.length + l.length) k3)) := by repeat' (with_reducible first | exact Chg.refl _ _ | refine qC ?_)
 have ow4 := ow3.chg hset (fun b hb => by have := hgn b hb; simpa using this)
 have f4 := fresh_mono (w' := (w3.setCell ⟨g, 1, none⟩ (.slice B3 (cs.length + l.length) k3))) fj (Nat.le_refl _) hset.size
 have hb3 : Below w.heap.size w (w3.setCell ⟨g, 1, none⟩ (.slice B3 (cs.length + l.length) k3)) := Below.chg (Below.chg hb hch hb.size (fun b hm => by have := (Hf.out.2 b (List.mem_append_left _ hm)).1; omega)) hset (by have := hb.size; omega) (by simp; omega)
 have hgW3 : g < (w3.setCell ⟨g, 1, none⟩ (.slice B3 (cs.length + l.length) k3)).heap.size := by rw [World.size_setCell]; omega
 clear hc0 hc1 hcg hdj hdj' f3 hd3 hs3 f2 fj o3 ow3 hset Hf HS O2 Hown own3 gr3 at3 hch ho1 hof1 hb hgW
 generalize w3.setCell ⟨g, 1, none⟩ (.slice B3 (cs.length + l.length) k3) = W3 at *
 obtain ⟨S3, hS3⟩ : ∃ S3, (Value.slice B3 (cs.length + l.length) k3).ownBlock.toList ++ S2 = S3 := ⟨_, rfl⟩
 rw [hS3] at ow4 f4 hgn
 clear hS3
 have OW := Lib.hid ow4
 have FW := Lib.hid f4
 have HG := Lib.hid hgn
 clear ow4 f4 hgn
 have c0 := (Lc 0 _ rfl).1
 have c1 := (Lc 1 _ rfl).1
 have c2 := (Lc 2 _ rfl).1
 have o0 := (Lo 0 _ rfl).1
 have o1 := (Lo 1 _ rfl).1
 have o2 := (Lo 2 _ rfl).1
 go_wp2_with fail
 refine twoB (implCompanyOk_any n _ _ cs pl _ (h.below hb3)) (fun w4 hq q4 => ?_) (fun w4 hq q4 => ?_)
 ·have z4 := q4.size
  replace Lc := Lc.below q4
  replace Lr := Lr.below q4
  replace Lo := Lo.below q4
  have hb4 : Below w.heap.size w w4 := hb3.trans (q4.mono (by have := hb3.size; omega))
  have OW4 := Lib.hid (OW.out.below q4)
  clear c0 c1 c2 o0 o1 o2
  have o0 := (Lo 0 _ rfl).1
  have o1 := (Lo 1 _ rfl).1
  have o2 := (Lo 2 _ rfl).1
  go_wp2_with fail
  refine twoB (implCompanyOk_any n _ _ (cs ++ l) pl _ (OW4.out.rd)) (fun w5 hq' q5 => ?_) (fun w5 hq' q5 => ?_)
  ·have z5 := q5.size
   replace Lr := Lr.below q5
   replace Lo := Lo.below q5
   have hb5 : Below w.heap.size w w5 := hb4.trans (q5.mono (by have := hb4.size; omega))
   have OW5 := Lib.hid (OW4.out.below q5)
   clear o0 o1 o2
   have o0 := (Lo 0 _ rfl).1
   have o1 := (Lo 1 _ rfl).1
   have o2 := (Lo 2 _ rfl).1
   have r0 := (Lr 0 _ rfl).1
   have rf0 := (Lr 0 _ rfl).2
   have r1 := (Lr 1 _ rfl).1
   have rf1 := (Lr 1 _ rfl).2
   have r2 := (Lr 2 _ rfl).1
   have rf2 := (Lr 2 _ rfl).2
   go_wp2_with fail
   refine bodyPost_ret (v := .tuple #[.agg #[.int .i64 n, .slice B3 (cs.length + l.length) k3, .slice B2 pl.length k2], .bool true]) (by simp [results, Tryz.results81, go_sem, *]) rfl (with_t (by rw [withB, hq.out, hq'.out]; rfl) ⟨_, _, S3, rfl, ?_, ?_, ?_⟩)
   ·exact OW5.out.chg (T := [w.heap.size + 1]) (by repeat' (with_reducible first | exact Chg.refl _ _ | refine qC ?_)) (fun b hb => by have := FW.out.2 b hb; simp; omega)
   ·exact fresh_mono FW.out (by omega) (by simp; omega)
   ·exact Below.chg hb5 (S := [w.heap.size + 1]) (by repeat' (with_reducible first | exact Chg.refl _ _ | refine qC ?_)) hb5.size (by simp)
  ·have z5 := q5.size
   replace Lc := Lc.below q5
   replace Lr := Lr.below q5
   have hb5 : Below w.heap.size w w5 := hb4.trans (q5.mono (by have := hb4.size; omega))
   clear o0 o1 o2
   have c0 := (Lc 0 _ rfl).1
   have c1 := (Lc 1 _ rfl).1
   have c2 := (Lc 2 _ rfl).1
   go_wp2_with fail
   refine (companyCopied_any n _ _ cs pl _ (h.below hb5) hsz).mono ?_
   rintro e w6 ⟨y1, y2, T, rfl, ow6, f6, q6⟩
   obtain ⟨⟨D1, m1, rfl⟩, ⟨D2, m2, rfl⟩⟩ := ow6.rd.forms
   have Lr6 := Lr.below q6
   have z6 := q6.size
   have zb := hb5.size
   have hb6 : Below w.heap.size w w6 := hb5.trans (q6.mono (by omega))
   replace f6 := fresh_mono (B' := w.heap.size + 1 + 1) f6 (by omega) (Nat.le_refl _)
   clear c0 c1 c2
   have r0 := (Lr6 0 _ rfl).1
   have rf0 := (Lr6 0 _ rfl).2
   have r1 := (Lr6 1 _ rfl).1
   have rf1 := (Lr6 1 _ rfl).2
   have r2 := (Lr6 2 _ rfl).1
   have rf2 := (Lr6 2 _ rfl).2
   have OW6 := Lib.hid ow6
   have F6 := Lib.hid f6
   clear ow6 f6
   go_wp2_with fail
   refine bodyPost_ret (v := .tuple #[.agg #[.int .i64 n, .slice D1 cs.length m1, .slice D2 pl.length m2], .bool false]) (by simp [results, Tryz.results81, go_sem, *]) rfl (with_f (by rw [withB, hq'.out, Bool.and_false]) ⟨_, _, T, rfl, ?_, ?_, ?_⟩)
   ·exact OW6.out.chg (T := [w.heap.size + 1]) (by repeat' (with_reducible first | exact Chg.refl _ _ | refine qC ?_)) (fun b hb => by have := F6.out.2 b hb; simp; omega)
   ·exact fresh_mono F6.out (by omega) (by simp)
   ·exact Below.chg hb6 (S := [w.heap.size + 1]) (by repeat' (with_reducible first | exact Chg.refl _ _ | refine qC ?_)) hb6.size (by simp)
 ·have z4 := q4.size
  replace Lc := Lc.below q4
  replace Lr := Lr.below q4
  have hb4 : Below w.heap.size w w4 := hb3.trans (q4.mono (by have := hb3.size; omega))
  clear c0 c1 c2 o0 o1 o2
  have c0 := (Lc 0 _ rfl).1
  have c1 := (Lc 1 _ rfl).1
  have c2 := (Lc 2 _ rfl).1
  go_wp2_with fail
  refine (companyCopied_any n _ _ cs pl _ (h.below hb4) hsz).mono ?_
  rintro e w6 ⟨y1, y2, T, rfl, ow6, f6, q6⟩
  obtain ⟨⟨D1, m1, rfl⟩, ⟨D2, m2, rfl⟩⟩ := ow6.rd.forms
  have Lr6 := Lr.below q6
  have z6 := q6.size
  have zb := hb4.size
  have hb6 : Below w.heap.size w w6 := hb4.trans (q6.mono (by omega))
  replace f6 := fresh_mono (B' := w.heap.size + 1 + 1) f6 (by omega) (Nat.le_refl _)
  clear c0 c1 c2
  have r0 := (Lr6 0 _ rfl).1
  have rf0 := (Lr6 0 _ rfl).2
  have r1 := (Lr6 1 _ rfl).1
  have rf1 := (Lr6 1 _ rfl).2
  have r2 := (Lr6 2 _ rfl).1
  have rf2 := (Lr6 2 _ rfl).2
  have OW6 := Lib.hid ow6
  have F6 := Lib.hid f6
  clear ow6 f6
  go_wp2_with fail
  refine bodyPost_ret (v := .tuple #[.agg #[.int .i64 n, .slice D1 cs.length m1, .slice D2 pl.length m2], .bool false]) (by simp [results, Tryz.results81, go_sem, *]) rfl (with_f (by rw [withB, hq.out]; rfl) ⟨_, _, T, rfl, ?_, ?_, ?_⟩)
  ·exact OW6.out.chg (T := [w.heap.size + 1]) (by repeat' (with_reducible first | exact Chg.refl _ _ | refine qC ?_)) (fun b hb => by have := F6.out.2 b hb; simp; omega)
  ·exact fresh_mono F6.out (by omega) (by simp)
  ·exact Below.chg hb6 (S := [w.heap.size + 1]) (by repeat' (with_reducible first | exact Chg.refl _ _ | refine qC ?_)) hb6.size (by simp)
set_option maxHeartbeats 8000000 in
set_option maxRecDepth 100000 in
theorem l37Add_any (n : Int) (v1 v2 vl : Value) (cs : List RCross) (pl : List RPl) (l : List RCross) (w : World) (h : RdCompany w v1 v2 cs pl) (hv : RdL cCross 2 w vl l) (hll : l.length ≤ 100000) (hsz : szCompany cs pl ≤ 1048576) :
  Calls Tryz.prog 95 #[.agg #[.int .i64 n, v1, v2], vl] w (RetCompany n (withB n cs pl l) (withC n cs pl l) pl w) := by
 obtain ⟨⟨A1, n1, rfl⟩, ⟨A2, n2, rfl⟩⟩ := h.forms
 go_enter Tryz.func95, Tryz.ntmps95
 go_wp2_with fail
 refine (l37Copy_any n _ _ cs pl _ (h.below (by (repeat' (with_reducible first | exact Below.refl _ _ | assumption | refine qS ?_ _ | refine qA ?_ _ | refine qD ?_ | refine qN ?_ _)))) hsz).mono ?_
 rintro e w1 ⟨x1, x2, S, rfl, ow, f1, q1⟩
 obtain ⟨⟨B1, k1, rfl⟩, ⟨B2, k2, rfl⟩⟩ := ow.rd.forms
 have z1 := q1.size
 simp at z1
 have hb : Below w.heap.size w w1 := Below.trans (by (repeat' (with_reducible first | exact Below.refl _ _ | assumption | refine qS ?_ _ | refine qA ?_ _ | refine qD ?_ | refine qN ?_ _))) (q1.mono (by simp <;> omega))
 replace f1 := fresh_mono (B' := w.heap.size + 1 + 1) f1 (by simp) (Nat.le_refl _)
 have Lc : Loc w1 (w.heap.size) [.int .i64 n, .slice A1 cs.length n1, .slice A2 pl.length n2] := ((Loc.new w #[.int .i64 n, .slice A1 cs.length n1, .slice A2 pl.length n2] 27).alloc _).below q1
 have Lr : Loc w1 (w.heap.size + 1) [.int .i64 0, .slice none 0 0, .slice none 0 0] := by
  have := (Loc.new (w.alloc (.cells #[.int .i64 n, .slice A1 cs.length n1, .slice A2 pl.length n2] 27)) #[.int .i64 0, .slice none 0 0, .slice none 0 0] 27).below q1
  simpa using this
 go_upto_region 2 with (fail)
 obtain ⟨g, hgz⟩ : ∃ g, w1.heap.size = g := ⟨_, rfl⟩
 replace Lc : Loc (w1.alloc (.cells #[.int .i64 n, .slice B1 cs.length k1, .slice B2 pl.length k2] 27)) (w.heap.size) [.int .i64 n, .slice A1 cs.length n1, .slice A2 pl.length n2] := Lc.alloc _
 replace Lr : Loc (w1.alloc (.cells #[.int .i64 n, .slice B1 cs.length k1, .slice B2 pl.length k2] 27)) (w.heap.size + 1) [.int .i64 0, .slice none 0 0, .slice none 0 0] := Lr.alloc _
 have Lo : Loc (w1.alloc (.cells #[.int .i64 n, .slice B1 cs.length k1, .slice B2 pl.length k2] 27)) (w1.heap.size) [.int .i64 n, .slice B1 cs.length k1, .slice B2 pl.length k2] := Loc.new w1 #[.int .i64 n, .slice B1 cs.length k1, .slice B2 pl.length k2] 27
 replace hb : Below w.heap.size w (w1.alloc (.cells #[.int .i64 n, .slice B1 cs.length k1, .slice B2 pl.length k2] 27)) := by (repeat' (with_reducible first | exact Below.refl _ _ | assumption | refine qS ?_ _ | refine qA ?_ _ | refine qD ?_ | refine qN ?_ _))
 replace ow := ow.below (w' := (w1.alloc (.cells #[.int .i64 n, .slice B1 cs.length k1, .slice B2 pl.length k2] 27))) (by (repeat' (with_reducible first | exact Below.refl _ _ | assumption | refine qS ?_ _ | refine qA ?_ _ | refine qD ?_ | refine qN ?_ _)))
 have hS : ∀ b ∈ S, b < g := fun b hb => by have := (f1.2 b hb).2; omega
 replace f1 := fresh_mono (w' := (w1.alloc (.cells #[.int .i64 n, .slice B1 cs.length k1, .slice B2 pl.length k2] 27))) f1 (Nat.le_refl _) (by simp)
 have hgW : g < (w1.alloc (.cells #[.int .i64 n, .slice B1 cs.length k1, .slice B2 pl.length k2] 27)).heap.size := by simp; omega
 have hg2 : w.heap.size + 1 + 1 ≤ g := by omega
 clear q1
 generalize w1.alloc (.cells #[.int .i64 n, .slice B1 cs.length k1, .slice B2 pl.length k2] 27) = W at *
 rw [hgz] at Lo ⊢
 clear hgz z1 w1
 have hcl : cs.length ≤ 1048576 := by unfold szCompany at hsz; omega
 obtain ⟨S1, S2, rfl, o1, o2⟩ := ow
 have hv' := hv.below hb
 obtain ⟨Av, cv, rfl, _, _⟩ := hv.form
 obtain ⟨i0, hi0, hz0, hz1, hz2⟩ := info_parts infoCross
 have e1 := o1.2
 subst e1
 have hown : W.ownsRow (w.heap.size + 1 + 1) 79 2 (.slice B1 cs.length k1) cs.length (cs.flatMap cCross) := own_up o1.1 (fun b hb => f1.2 b (List.mem_append_left _ hb))
 have Hf := Lib.hid f1
 have HS := Lib.hid hS
 have O2 := Lib.hid o2
 have Hown := Lib.hid hown
 clear f1 hS o2 hown o1
 have o0 := (Lo 0 _ rfl).1
 have o1 := (Lo 1 _ rfl).1
 have o2 := (Lo 2 _ rfl).1
 have of1 := (Lo 1 _ rfl).2
 go_upto_region 3 with (at_builtin; refine wpList_appendB _ rfl (.tmp 10) (.tmp 11) _ rfl (w.heap.size + 1 + 1) 79 i0 _ 2 16 Tryz.underlying24 hi0 hz0 hz1 hz2 rfl (by omega) _ cs.length (cs.flatMap cCross) rfl Hown.out _ l.length (l.flatMap cCross) rfl hv' (oneCell_flat cCross_one l) (by simp [maxLen]; omega) (by omega) (by omega) ?_; intro v3 w3 own3 gr3 at3; obtain ⟨B3, k3, rfl, _, _⟩ := (RdS.of_own own3).form; have hch := Chg.of_grown gr3; have ho1 := carryChg hch o1 (fun hm => Nat.lt_irrefl _ (HS.out _ (List.mem_append_left _ hm))); have hof1 := carryChgF hch o1 of1 (fun hm => Nat.lt_irrefl _ (HS.out _ (List.mem_append_left _ hm))); clear o0 o1 o2 of1 hv')
 have hc0 : w.heap.size ∉ (Value.slice B1 cs.length k1).ownBlock.toList := fun hm => by have := (Hf.out.2 _ (List.mem_append_left _ hm)).1; omega
 have hc1 : w.heap.size + 1 ∉ (Value.slice B1 cs.length k1).ownBlock.toList := fun hm => by have := (Hf.out.2 _ (List.mem_append_left _ hm)).1; omega
 have hcg : g ∉ (Value.slice B1 cs.length k1).ownBlock.toList := fun hm => Nat.lt_irrefl _ (HS.out _ (List.mem_append_left _ hm))
 replace Lc := (Lc.chg hch hc0).far (g := g) (i := 1) (u := .slice B3 (cs.length + l.length) k3) (by omega)
 replace Lr := (Lr.chg hch hc1).far (g := g) (i := 1) (u := .slice B3 (cs.length + l.length) k3) (by omega)
 replace Lo : Loc (w3.setCell ⟨g, 1, none⟩ (.slice B3 (cs.length + l.length) k3)) (g) [.int .i64 n, .slice B3 (cs.length + l.length) k3, .slice B2 pl.length k2] := (Lo.chg hch hcg).set (i := 1) (v := .slice B1 cs.length k1) rfl
 obtain ⟨_, _, hdj, hdj'⟩ := nodup2 Hf.out.1
 obtain ⟨f3, hd3⟩ := fresh_app own3 at3 (T := S2) (fun b hb => ⟨(Hf.out.2 b (List.mem_append_right _ hb)).2, hdj' b hb⟩)
 have hs3 := gr3.size
 have f2 := fresh_mono (w' := w3) (fresh_right Hf.out) (Nat.le_refl _) hs3
 have fj := fresh_join f3 f2 hd3
 have hgn : ∀ b ∈ (Value.slice B3 (cs.length + l.length) k3).ownBlock.toList ++ S2, b ≠ g := by
  intro b hb e
  subst e
  rcases List.mem_append.1 hb with hb | hb
  ·rcases at3 with h3 | h3
   ·rw [h3] at hb; exact hcg hb
   ·rw [h3] at hb; simp at hb; omega
  ·exact Nat.lt_irrefl _ (HS.out _ (List.mem_append_right _ hb))
 have o3 : OwL 79 cCross 2 w3 (Value.slice B3 (cs.length + l.length) k3).ownBlock.toList (.slice B3 (cs.length + l.length) k3) (cs ++ l) := ⟨by rw [List.length_append, List.flatMap_append]; exact own_mono own3 (Nat.zero_le _), rfl⟩
 have ow3 : OwCompany w3 ((Value.slice B3 (cs.length + l.length) k3).ownBlock.toList ++ S2) (.slice B3 (cs.length + l.length) k3) (.slice B2 pl.length k2) (cs ++ l) pl := ⟨_, _, rfl, o3, O2.out.chg hch hdj'⟩
 have hset : Chg [g] w3 (w3.setCell ⟨g, 1, none⟩ (.slice B3 (cs.length + l.length) k3)) := by repeat' (with_reducible first | exact Chg.refl _ _ | refine qC ?_)
 have ow4 := ow3.chg hset (fun b hb => by have := hgn b hb; simpa using this)
 have f4 := fresh_mono (w' := (w3.setCell ⟨g, 1, none⟩ (.slice B3 (cs.length + l.length) k3))) fj (Nat.le_refl _) hset.size
 have hb3 : Below w.heap.size w (w3.setCell ⟨g, 1, none⟩ (.slice B3 (cs.length + l.length) k3)) := Below.chg (Below.chg hb hch hb.size (fun b hm => by have := (Hf.out.2 b (List.mem_append_left _ hm)).1; omega)) hset (by have := hb.size; omega) (by simp; omega)
 have hgW3 : g < (w3.setCell ⟨g, 1, none⟩ (.slice B3 (cs.length + l.length) k3)).heap.size := by rw [World.size_setCell]; omega
 clear hc0 hc1 hcg hdj hdj' f3 hd3 hs3 f2 fj o3 ow3 hset Hf HS O2 Hown own3 gr3 at3 hch ho1 hof1 hb hgW
 generalize w3.setCell ⟨g, 1, none⟩ (.slice B3 (cs.length + l.length) k3) = W3 at *
 obtain ⟨S3, hS3⟩ : ∃ S3, (Value.slice B3 (cs.length + l.length) k3).ownBlock.toList ++ S2 = S3 := ⟨_, rfl⟩
 rw [hS3] at ow4 f4 hgn
 clear hS3
 have OW := Lib.hid ow4
 have FW := Lib.hid f4
 have HG := Lib.hid hgn
 clear ow4 f4 hgn
 have c0 := (Lc 0 _ rfl).1
 have c1 := (Lc 1 _ rfl).1
 have c2 := (Lc 2 _ rfl).1
 have o0 := (Lo 0 _ rfl).1
 have o1 := (Lo 1 _ rfl).1
 have o2 := (Lo 2 _ rfl).1
 go_wp2_with fail
 refine twoB (specCompanyOk_any n _ _ cs pl _ (h.below hb3)) (fun w4 hq q4 => ?_) (fun w4 hq q4 => ?_)
 ·have z4 := q4.size
  replace Lc := Lc.below q4
  replace Lr := Lr.below q4
  replace Lo := Lo.below q4
  have hb4 : Below w.heap.size w w4 := hb3.trans (q4.mono (by have := hb3.size; omega))
  have OW4 := Lib.hid (OW.out.below q4)
  clear c0 c1 c2 o0 o1 o2
  have o0 := (Lo 0 _ rfl).1
  have o1 := (Lo 1 _ rfl).1
  have o2 := (Lo 2 _ rfl).1
  go_wp2_with fail
  refine twoB (specCompanyOk_any n _ _ (cs ++ l) pl _ (OW4.out.rd)) (fun w5 hq' q5 => ?_) (fun w5 hq' q5 => ?_)
  ·have z5 := q5.size
   replace Lr := Lr.below q5
   replace Lo := Lo.below q5
   have hb5 : Below w.heap.size w w5 := hb4.trans (q5.mono (by have := hb4.size; omega))
   have OW5 := Lib.hid (OW4.out.below q5)
   clear o0 o1 o2
   have o0 := (Lo 0 _ rfl).1
   have o1 := (Lo 1 _ rfl).1
   have o2 := (Lo 2 _ rfl).1
   have r0 := (Lr 0 _ rfl).1
   have rf0 := (Lr 0 _ rfl).2
   have r1 := (Lr 1 _ rfl).1
   have rf1 := (Lr 1 _ rfl).2
   have r2 := (Lr 2 _ rfl).1
   have rf2 := (Lr 2 _ rfl).2
   go_wp2_with fail
   refine bodyPost_ret (v := .tuple #[.agg #[.int .i64 n, .slice B3 (cs.length + l.length) k3, .slice B2 pl.length k2], .bool true]) (by simp [results, Tryz.results95, go_sem, *]) rfl (with_t (by rw [withB, hq.out, hq'.out]; rfl) ⟨_, _, S3, rfl, ?_, ?_, ?_⟩)
   ·exact OW5.out.chg (T := [w.heap.size + 1]) (by repeat' (with_reducible first | exact Chg.refl _ _ | refine qC ?_)) (fun b hb => by have := FW.out.2 b hb; simp; omega)
   ·exact fresh_mono FW.out (by omega) (by simp; omega)
   ·exact Below.chg hb5 (S := [w.heap.size + 1]) (by repeat' (with_reducible first | exact Chg.refl _ _ | refine qC ?_)) hb5.size (by simp)
  ·have z5 := q5.size
   replace Lc := Lc.below q5
   replace Lr := Lr.below q5
   have hb5 : Below w.heap.size w w5 := hb4.trans (q5.mono (by have := hb4.size; omega))
   clear o0 o1 o2
   have c0 := (Lc 0 _ rfl).1
   have c1 := (Lc 1 _ rfl).1
   have c2 := (Lc 2 _ rfl).1
   go_wp2_with fail
   refine (l37Copy_any n _ _ cs pl _ (h.below hb5) hsz).mono ?_
   rintro e w6 ⟨y1, y2, T, rfl, ow6, f6, q6⟩
   obtain ⟨⟨D1, m1, rfl⟩, ⟨D2, m2, rfl⟩⟩ := ow6.rd.forms
   have Lr6 := Lr.below q6
   have z6 := q6.size
   have zb := hb5.size
   have hb6 : Below w.heap.size w w6 := hb5.trans (q6.mono (by omega))
   replace f6 := fresh_mono (B' := w.heap.size + 1 + 1) f6 (by omega) (Nat.le_refl _)
   clear c0 c1 c2
   have r0 := (Lr6 0 _ rfl).1
   have rf0 := (Lr6 0 _ rfl).2
   have r1 := (Lr6 1 _ rfl).1
   have rf1 := (Lr6 1 _ rfl).2
   have r2 := (Lr6 2 _ rfl).1
   have rf2 := (Lr6 2 _ rfl).2
   have OW6 := Lib.hid ow6
   have F6 := Lib.hid f6
   clear ow6 f6
   go_wp2_with fail
   refine bodyPost_ret (v := .tuple #[.agg #[.int .i64 n, .slice D1 cs.length m1, .slice D2 pl.length m2], .bool false]) (by simp [results, Tryz.results95, go_sem, *]) rfl (with_f (by rw [withB, hq'.out, Bool.and_false]) ⟨_, _, T, rfl, ?_, ?_, ?_⟩)
   ·exact OW6.out.chg (T := [w.heap.size + 1]) (by repeat' (with_reducible first | exact Chg.refl _ _ | refine qC ?_)) (fun b hb => by have := F6.out.2 b hb; simp; omega)
   ·exact fresh_mono F6.out (by omega) (by simp)
   ·exact Below.chg hb6 (S := [w.heap.size + 1]) (by repeat' (with_reducible first | exact Chg.refl _ _ | refine qC ?_)) hb6.size (by simp)
 ·have z4 := q4.size
  replace Lc := Lc.below q4
  replace Lr := Lr.below q4
  have hb4 : Below w.heap.size w w4 := hb3.trans (q4.mono (by have := hb3.size; omega))
  clear c0 c1 c2 o0 o1 o2
  have c0 := (Lc 0 _ rfl).1
  have c1 := (Lc 1 _ rfl).1
  have c2 := (Lc 2 _ rfl).1
  go_wp2_with fail
  refine (l37Copy_any n _ _ cs pl _ (h.below hb4) hsz).mono ?_
  rintro e w6 ⟨y1, y2, T, rfl, ow6, f6, q6⟩
  obtain ⟨⟨D1, m1, rfl⟩, ⟨D2, m2, rfl⟩⟩ := ow6.rd.forms
  have Lr6 := Lr.below q6
  have z6 := q6.size
  have zb := hb4.size
  have hb6 : Below w.heap.size w w6 := hb4.trans (q6.mono (by omega))
  replace f6 := fresh_mono (B' := w.heap.size + 1 + 1) f6 (by omega) (Nat.le_refl _)
  clear c0 c1 c2
  have r0 := (Lr6 0 _ rfl).1
  have rf0 := (Lr6 0 _ rfl).2
  have r1 := (Lr6 1 _ rfl).1
  have rf1 := (Lr6 1 _ rfl).2
  have r2 := (Lr6 2 _ rfl).1
  have rf2 := (Lr6 2 _ rfl).2
  have OW6 := Lib.hid ow6
  have F6 := Lib.hid f6
  clear ow6 f6
  go_wp2_with fail
  refine bodyPost_ret (v := .tuple #[.agg #[.int .i64 n, .slice D1 cs.length m1, .slice D2 pl.length m2], .bool false]) (by simp [results, Tryz.results95, go_sem, *]) rfl (with_f (by rw [withB, hq.out]; rfl) ⟨_, _, T, rfl, ?_, ?_, ?_⟩)
  ·exact OW6.out.chg (T := [w.heap.size + 1]) (by repeat' (with_reducible first | exact Chg.refl _ _ | refine qC ?_)) (fun b hb => by have := F6.out.2 b hb; simp; omega)
  ·exact fresh_mono F6.out (by omega) (by simp)
  ·exact Below.chg hb6 (S := [w.heap.size + 1]) (by repeat' (with_reducible first | exact Chg.refl _ _ | refine qC ?_)) hb6.size (by simp)
set_option maxHeartbeats 8000000 in
set_option maxRecDepth 100000 in
theorem implCrossOver_any (n a : Int) (f : Bool) (v1 v2 : Value) (cs : List RCross) (pl : List RPl) (w : World) (h : RdCompany w v1 v2 cs pl) (hsz : szCompany cs pl ≤ 1048576) :
  Calls Tryz.prog 59 #[.agg #[.int .i64 n, v1, v2], .int .i64 a, .bool f] w (RetCompany n (withB n cs pl [(a, f)]) (withC n cs pl [(a, f)]) pl w) := by
 obtain ⟨⟨A1, n1, rfl⟩, ⟨A2, n2, rfl⟩⟩ := h.forms
 go_enter Tryz.func59, Tryz.ntmps59
 go_wp2_with fail
 refine (implWith_any n _ _ (.slice (some ⟨w.heap.size + 1 + 1, 0, none⟩) 1 1) cs pl [(a, f)] _ (h.below (by (repeat' (with_reducible first | exact Below.refl _ _ | assumption | refine qS ?_ _ | refine qA ?_ _ | refine qD ?_ | refine qN ?_ _)))) (rdS_newAt _ (w.heap.size + 1 + 1) (by simp) #[.int .i64 a, .bool f] _ 2 1 rfl (by simp [maxLen])) (by simp) hsz).mono ?_
 rintro e W1 ⟨x1, x2, S, rfl, ow, f1, q⟩
 obtain ⟨⟨B1, k1, rfl⟩, ⟨B2, k2, rfl⟩⟩ := ow.rd.forms
 generalize withB n cs pl [(a, f)] = ok at *
 generalize withC n cs pl [(a, f)] = cs' at *
 have Lc : Loc W1 (w.heap.size) [.int .i64 n, .slice A1 cs.length n1, .slice A2 pl.length n2] := by have := (((Loc.new w #[.int .i64 n, .slice A1 cs.length n1, .slice A2 pl.length n2] 27).alloc _).alloc _).below q; simpa using this
 have Lr : Loc W1 (w.heap.size + 1) [.int .i64 0, .slice none 0 0, .slice none 0 0] := by have := ((Loc.new (w.alloc (.cells #[.int .i64 n, .slice A1 cs.length n1, .slice A2 pl.length n2] 27)) #[.int .i64 0, .slice none 0 0, .slice none 0 0] 27).alloc _).below q; simpa using this
 have Lm : Loc W1 (w.heap.size + 1 + 1) [.int .i64 a, .bool f] := by have := (Loc.new ((w.alloc (.cells #[.int .i64 n, .slice A1 cs.length n1, .slice A2 pl.length n2] 27)).alloc (.cells #[.int .i64 0, .slice none 0 0, .slice none 0 0] 27)) #[.int .i64 a, .bool f] 79).below q; simpa using this
 have hb : Below w.heap.size w W1 := Below.trans (by (repeat' (with_reducible first | exact Below.refl _ _ | assumption | refine qS ?_ _ | refine qA ?_ _ | refine qD ?_ | refine qN ?_ _))) (q.mono (by simp <;> omega))
 have hz0 : w.heap.size + 1 + 1 + 1 ≤ W1.heap.size := by have := q.size; simp at this; omega
 have hlow : w.heap.size + 1 + 1 + 1 ≤ ((((w.alloc (.cells #[.int .i64 n, .slice A1 cs.length n1, .slice A2 pl.length n2] 27)).alloc (.cells #[.int .i64 0, .slice none 0 0, .slice none 0 0] 27)).alloc (.cells #[.int .i64 a, .bool f] 79))).heap.size := by first | exact Nat.le_refl _ | (simp; done) | (simp; omega) | omega
 have FK := Lib.hid (fresh_mono f1 hlow (Nat.le_refl _))
 have DK : Hid (∀ x ∈ S, x ∉ [w.heap.size, w.heap.size + 1, w.heap.size + 1 + 1]) := (fun x hx => by have := (FK.out.2 x hx).1; simp; omega)
 have OK := Lib.hid ow
 clear ow f1 hlow
 clear q
 have r0 := (Lr 0 _ rfl).1
 have rf0 := (Lr 0 _ rfl).2
 have r1 := (Lr 1 _ rfl).1
 have rf1 := (Lr 1 _ rfl).2
 have r2 := (Lr 2 _ rfl).1
 have rf2 := (Lr 2 _ rfl).2
 go_wp2_with fail
 refine bodyPost_ret (v := .tuple #[.agg #[.int .i64 n, .slice B1 cs'.length k1, .slice B2 pl.length k2], .bool ok]) (by simp [results, Tryz.results59, go_sem, *]) rfl (⟨_, _, S, rfl, ?_, ?_, ?_⟩)
 ·exact OK.out.chg (T := [w.heap.size + 1]) (by repeat' (with_reducible first | exact Chg.refl _ _ | refine qC ?_)) (fun x hx hx' => DK.out x hx (by simp at hx'; subst hx'; simp))
 ·exact fresh_mono FK.out (by omega) (by simp)
 ·exact Below.chg hb (S := [w.heap.size + 1]) (by repeat' (with_reducible first | exact Chg.refl _ _ | refine qC ?_)) hb.size (fun x hx => by simp at hx; omega)
theorem own_prefix {w : World} {B : Nat} {e : TypeId} {size n c m : Nat} {A : Option Addr} {xs : List Value} (h : w.ownsRow B e size (.slice A n c) n xs) (hm : m ≤ n) (hn : 0 < n) : w.ownsRow B e size (.slice A m c) m (xs.take (m * size)) := by
 refine ⟨by rw [List.length_take, h.1]; exact Nat.min_eq_left (Nat.mul_le_mul_right _ hm), ?_⟩
 rcases h.2 with ⟨_, h0⟩ | ⟨g, cap, cur, hv, h1, h2, h3, h4, h5, h6⟩
 ·omega
 ·injection hv with e1 e2 e3
  subst e1 e3
  exact .inr ⟨g, c, cur, rfl, h1, h2, by omega, h4, h5, by rw [← h6, List.take_take, Nat.min_eq_left (Nat.mul_le_mul_right _ hm)]⟩
theorem flat_take {α : Type} {f : α → List Value} {size : Nat} (hf : ∀ a, (f a).length = size) (l : List α) (m : Nat) : (l.take m).flatMap f = (l.flatMap f).take (m * size) := by
 induction l generalizing m with
 | nil => simp
 | cons a l ih =>
  cases m with
  | zero => simp
  | succ m =>
   rw [List.take_succ_cons, List.flatMap_cons, List.flatMap_cons, ih, List.take_append, hf, List.take_of_length_le (l := f a) (by rw [hf, Nat.add_mul]; omega), show (m + 1) * size - size = m * size by rw [Nat.add_mul]; omega]
open Go.RowKit
structure Th where
 n : Int
 m : Int
 cs : List RCross
 pl : List RPl
 ds : List Int
def Th.ok (t : Th) : Bool := theatreB t.n t.m t.cs t.pl t.ds
def Th.sz (t : Th) : Nat := szTheatre t.cs t.pl t.ds
def RetT (B : Nat) (n m : Int) (ok : Bool) (cs : List RCross) (pl : List RPl) (ds : List Int) (w : World) (e : Ending) (w' : World) : Prop :=
 ∃ x1 x2 x3 S, e = .returned (.tuple #[.agg #[.int .i64 n, x1, x2, x3, .int .i64 m], .bool ok]) ∧ OwTheatre w' S x1 x2 x3 cs pl ds ∧ Fresh B w' S ∧ Below w.heap.size w w'
def RetTh (B : Nat) (r : Th × Bool) : World → Ending → World → Prop := RetT B r.1.n r.1.m r.2 r.1.cs r.1.pl r.1.ds
def becF (t u : Th) (ok : Bool) : Th × Bool := if t.ok = true ∧ ok = true ∧ u.ok = true then (u, true) else (t, false)
theorem theatreB_sz {n m : Int} {cs : List RCross} {pl : List RPl} {ds : List Int} (h : theatreB n m cs pl ds = true) : szTheatre cs pl ds ≤ 148 := by
 rw [theatreB, Bool.and_eq_true, Bool.and_eq_true] at h
 have h1 := companyB_sz h.1.1
 have h2 := h.1.2
 rw [keepsB, Bool.and_eq_true, Bool.and_eq_true] at h2
 have h3 := (season_bd h2.1.1).1
 unfold szTheatre
 omega
theorem bec_sz (t u : Th) (ok : Bool) : (becF t u ok).1.sz ≤ t.sz ∨ (becF t u ok).1.sz ≤ 148 := by
 unfold becF
 split
 ·rename_i h; exact .inr (theatreB_sz h.2.2)
 ·exact .inl (Nat.le_refl _)
theorem bec_t {B : Nat} {t u : Th} {ok : Bool} {w w' : World} {e : Ending} (h : t.ok = true ∧ ok = true ∧ u.ok = true) (hr : RetTh B (u, true) w e w') : RetTh B (becF t u ok) w e w' := by rw [becF, if_pos h]; exact hr
theorem bec_f {B : Nat} {t u : Th} {ok : Bool} {w w' : World} {e : Ending} (h : ¬ (t.ok = true ∧ ok = true ∧ u.ok = true)) (hr : RetTh B (t, false) w e w') : RetTh B (becF t u ok) w e w' := by rw [becF, if_neg h]; exact hr
set_option maxHeartbeats 8000000 in
set_option maxRecDepth 100000 in
theorem becomes_any (n m n' m' : Int) (v1 v2 v3 y1 y2 y3 : Value) (cs cs' : List RCross) (pl pl' : List RPl) (ds ds' : List Int) (ok : Bool) (B : Nat) (S : List Nat) (w : World) (h : RdTheatre w v1 v2 v3 cs pl ds) (hsz : szTheatre cs pl ds ≤ 1048576) (how : OwTheatre w S y1 y2 y3 cs' pl' ds') (hf : Fresh B w S) (hB : B ≤ w.heap.size) :
  Calls Tryz.prog 57 #[.agg #[.int .i64 n, v1, v2, v3, .int .i64 m], .agg #[.int .i64 n', y1, y2, y3, .int .i64 m'], .bool ok] w (RetTh B (becF ⟨n, m, cs, pl, ds⟩ ⟨n', m', cs', pl', ds'⟩ ok) w) := by
 obtain ⟨⟨A1, n1, rfl⟩, ⟨A2, n2, rfl⟩, ⟨A3, n3, rfl⟩⟩ := h.forms
 obtain ⟨⟨B1, k1, rfl⟩, ⟨B2, k2, rfl⟩, ⟨B3, k3, rfl⟩⟩ := how.rd.forms
 have Hok := Lib.hid how
 clear how
 go_enter Tryz.func57, Tryz.ntmps57
 go_wp2_with fail
 refine twoB (implTheatreOk_any n m _ _ _ cs pl ds _ (h.below (by (repeat' (with_reducible first | exact Below.refl _ _ | assumption | refine qS ?_ _ | refine qA ?_ _ | refine qD ?_ | refine qN ?_ _))))) (fun W1 hq q => ?_) (fun W1 hq q => ?_)
 ·skip
  have Lc : Loc W1 (w.heap.size) [.int .i64 n, .slice A1 cs.length n1, .slice A2 pl.length n2, .slice A3 ds.length n3, .int .i64 m] := by have := (((Loc.new w #[.int .i64 n, .slice A1 cs.length n1, .slice A2 pl.length n2, .slice A3 ds.length n3, .int .i64 m] 30).alloc _).alloc _).below q; simpa using this
  have Ld : Loc W1 (w.heap.size + 1) [.int .i64 n', .slice B1 cs'.length k1, .slice B2 pl'.length k2, .slice B3 ds'.length k3, .int .i64 m'] := by have := ((Loc.new (w.alloc (.cells #[.int .i64 n, .slice A1 cs.length n1, .slice A2 pl.length n2, .slice A3 ds.length n3, .int .i64 m] 30)) #[.int .i64 n', .slice B1 cs'.length k1, .slice B2 pl'.length k2, .slice B3 ds'.length k3, .int .i64 m'] 30).alloc _).below q; simpa using this
  have Lr : Loc W1 (w.heap.size + 1 + 1) [.int .i64 0, .slice none 0 0, .slice none 0 0, .slice none 0 0, .int .i64 0] := by have := (Loc.new ((w.alloc (.cells #[.int .i64 n, .slice A1 cs.length n1, .slice A2 pl.length n2, .slice A3 ds.length n3, .int .i64 m] 30)).alloc (.cells #[.int .i64 n', .slice B1 cs'.length k1, .slice B2 pl'.length k2, .slice B3 ds'.length k3, .int .i64 m'] 30)) #[.int .i64 0, .slice none 0 0, .slice none 0 0, .slice none 0 0, .int .i64 0] 30).below q; simpa using this
  have hb : Below w.heap.size w W1 := Below.trans (by (repeat' (with_reducible first | exact Below.refl _ _ | assumption | refine qS ?_ _ | refine qA ?_ _ | refine qD ?_ | refine qN ?_ _))) (q.mono (by simp <;> omega))
  have hz0 : w.heap.size + 1 + 1 + 1 ≤ W1.heap.size := by have := q.size; simp at this; omega
  clear q
  have OK : Hid (OwTheatre W1 S _ _ _ cs' pl' ds') := Lib.hid (Hok.out.below hb)
  have FK : Hid (Fresh B W1 S) := Lib.hid (fresh_mono hf (Nat.le_refl _) hb.size)
  have DK : Hid (∀ x ∈ S, x ∉ [w.heap.size, w.heap.size + 1, w.heap.size + 1 + 1]) := (fun x hx => by have := (hf.2 x hx).2; simp; omega)
  cases ok
  ·skip
   have c0 := (Lc 0 _ rfl).1
   have c1 := (Lc 1 _ rfl).1
   have c2 := (Lc 2 _ rfl).1
   have c3 := (Lc 3 _ rfl).1
   have c4 := (Lc 4 _ rfl).1
   go_wp2_with fail
   refine (theatreCopied_any n m _ _ _ cs pl ds _ (h.below hb) hsz).mono ?_
   rintro e W2 ⟨y1, y2, y3, T, rfl, ow6, f6, q⟩
   clear c0 c1 c2 c3 c4
   obtain ⟨⟨D1, e1, rfl⟩, ⟨D2, e2, rfl⟩, ⟨D3, e3, rfl⟩⟩ := ow6.rd.forms
   have hzq : W1.heap.size ≤ W2.heap.size := by have := q.size; (try simp at this); omega
   replace Lc := Lc.below q
   replace Ld := Ld.below q
   replace Lr := Lr.below q
   replace OK := Lib.hid (OK.out.below q)
   replace FK := Lib.hid (fresh_mono (w' := W2) FK.out (Nat.le_refl _) hzq)
   replace hb : Below w.heap.size w W2 := hb.trans (q.mono hb.size)
   have hlow : W1.heap.size ≤ W1.heap.size := by first | exact Nat.le_refl _ | (simp; done) | (simp; omega) | omega
   have FZ := Lib.hid (fresh_mono f6 hlow (Nat.le_refl _))
   have DZ : Hid (∀ x ∈ T, x ∉ [w.heap.size, w.heap.size + 1, w.heap.size + 1 + 1]) := (fun x hx => by have := (FZ.out.2 x hx).1; simp; omega)
   have OZ := Lib.hid ow6
   clear ow6 f6 hlow
   clear q
   have r0 := (Lr 0 _ rfl).1
   have rf0 := (Lr 0 _ rfl).2
   have r1 := (Lr 1 _ rfl).1
   have rf1 := (Lr 1 _ rfl).2
   have r2 := (Lr 2 _ rfl).1
   have rf2 := (Lr 2 _ rfl).2
   have r3 := (Lr 3 _ rfl).1
   have rf3 := (Lr 3 _ rfl).2
   have r4 := (Lr 4 _ rfl).1
   have rf4 := (Lr 4 _ rfl).2
   go_wp2_with fail
   refine bodyPost_ret (v := .tuple #[.agg #[.int .i64 n, .slice D1 cs.length e1, .slice D2 pl.length e2, .slice D3 ds.length e3, .int .i64 m], .bool false]) (by simp [results, Tryz.results57, go_sem, *]) rfl (bec_f (by simp) ⟨_, _, _, T, rfl, ?_, ?_, ?_⟩)
   ·exact OZ.out.chg (T := [w.heap.size + 1 + 1]) (by repeat' (with_reducible first | exact Chg.refl _ _ | refine qC ?_)) (fun x hx hx' => DZ.out x hx (by simp at hx'; subst hx'; simp))
   ·exact fresh_mono FZ.out (by omega) (by simp)
   ·exact Below.chg hb (S := [w.heap.size + 1 + 1]) (by repeat' (with_reducible first | exact Chg.refl _ _ | refine qC ?_)) hb.size (fun x hx => by simp at hx; omega)
  ·skip
   have d0 := (Ld 0 _ rfl).1
   have d1 := (Ld 1 _ rfl).1
   have d2 := (Ld 2 _ rfl).1
   have d3 := (Ld 3 _ rfl).1
   have d4 := (Ld 4 _ rfl).1
   go_wp2_with fail
   refine twoB (implTheatreOk_any n' m' _ _ _ cs' pl' ds' _ OK.out.rd) (fun W2 hq' q => ?_) (fun W2 hq' q => ?_)
   ·skip
    clear d0 d1 d2 d3 d4
    have hzq : W1.heap.size ≤ W2.heap.size := by have := q.size; (try simp at this); omega
    replace Lc := Lc.below q
    replace Ld := Ld.below q
    replace Lr := Lr.below q
    replace OK := Lib.hid (OK.out.below q)
    replace FK := Lib.hid (fresh_mono (w' := W2) FK.out (Nat.le_refl _) hzq)
    replace hb : Below w.heap.size w W2 := hb.trans (q.mono hb.size)
    clear q
    have d0 := (Ld 0 _ rfl).1
    have d1 := (Ld 1 _ rfl).1
    have d2 := (Ld 2 _ rfl).1
    have d3 := (Ld 3 _ rfl).1
    have d4 := (Ld 4 _ rfl).1
    have r0 := (Lr 0 _ rfl).1
    have rf0 := (Lr 0 _ rfl).2
    have r1 := (Lr 1 _ rfl).1
    have rf1 := (Lr 1 _ rfl).2
    have r2 := (Lr 2 _ rfl).1
    have rf2 := (Lr 2 _ rfl).2
    have r3 := (Lr 3 _ rfl).1
    have rf3 := (Lr 3 _ rfl).2
    have r4 := (Lr 4 _ rfl).1
    have rf4 := (Lr 4 _ rfl).2
    go_wp2_with fail
    refine bodyPost_ret (v := .tuple #[.agg #[.int .i64 n', .slice B1 cs'.length k1, .slice B2 pl'.length k2, .slice B3 ds'.length k3, .int .i64 m'], .bool true]) (by simp [results, Tryz.results57, go_sem, *]) rfl (bec_t ⟨hq.out, rfl, hq'.out⟩ ⟨_, _, _, S, rfl, ?_, ?_, ?_⟩)
    ·exact OK.out.chg (T := [w.heap.size + 1 + 1]) (by repeat' (with_reducible first | exact Chg.refl _ _ | refine qC ?_)) (fun x hx hx' => DK.out x hx (by simp at hx'; subst hx'; simp))
    ·exact fresh_mono FK.out (by omega) (by simp)
    ·exact Below.chg hb (S := [w.heap.size + 1 + 1]) (by repeat' (with_reducible first | exact Chg.refl _ _ | refine qC ?_)) hb.size (fun x hx => by simp at hx; omega)
   ·skip
    clear d0 d1 d2 d3 d4
    have hzq : W1.heap.size ≤ W2.heap.size := by have := q.size; (try simp at this); omega
    replace Lc := Lc.below q
    replace Ld := Ld.below q
    replace Lr := Lr.below q
    replace OK := Lib.hid (OK.out.below q)
    replace FK := Lib.hid (fresh_mono (w' := W2) FK.out (Nat.le_refl _) hzq)
    replace hb : Below w.heap.size w W2 := hb.trans (q.mono hb.size)
    clear q
    have c0 := (Lc 0 _ rfl).1
    have c1 := (Lc 1 _ rfl).1
    have c2 := (Lc 2 _ rfl).1
    have c3 := (Lc 3 _ rfl).1
    have c4 := (Lc 4 _ rfl).1
    go_wp2_with fail
    refine (theatreCopied_any n m _ _ _ cs pl ds _ (h.below hb) hsz).mono ?_
    rintro e W3 ⟨y1, y2, y3, T, rfl, ow6, f6, q⟩
    clear c0 c1 c2 c3 c4
    obtain ⟨⟨D1, e1, rfl⟩, ⟨D2, e2, rfl⟩, ⟨D3, e3, rfl⟩⟩ := ow6.rd.forms
    have hzq : W2.heap.size ≤ W3.heap.size := by have := q.size; (try simp at this); omega
    replace Lc := Lc.below q
    replace Ld := Ld.below q
    replace Lr := Lr.below q
    replace OK := Lib.hid (OK.out.below q)
    replace FK := Lib.hid (fresh_mono (w' := W3) FK.out (Nat.le_refl _) hzq)
    replace hb : Below w.heap.size w W3 := hb.trans (q.mono hb.size)
    have hlow : W2.heap.size ≤ W2.heap.size := by first | exact Nat.le_refl _ | (simp; done) | (simp; omega) | omega
    have FZ := Lib.hid (fresh_mono f6 hlow (Nat.le_refl _))
    have DZ : Hid (∀ x ∈ T, x ∉ [w.heap.size, w.heap.size + 1, w.heap.size + 1 + 1]) := (fun x hx => by have := (FZ.out.2 x hx).1; simp; omega)
    have OZ := Lib.hid ow6
    clear ow6 f6 hlow
    clear q
    have r0 := (Lr 0 _ rfl).1
    have rf0 := (Lr 0 _ rfl).2
    have r1 := (Lr 1 _ rfl).1
    have rf1 := (Lr 1 _ rfl).2
    have r2 := (Lr 2 _ rfl).1
    have rf2 := (Lr 2 _ rfl).2
    have r3 := (Lr 3 _ rfl).1
    have rf3 := (Lr 3 _ rfl).2
    have r4 := (Lr 4 _ rfl).1
    have rf4 := (Lr 4 _ rfl).2
    go_wp2_with fail
    refine bodyPost_ret (v := .tuple #[.agg #[.int .i64 n, .slice D1 cs.length e1, .slice D2 pl.length e2, .slice D3 ds.length e3, .int .i64 m], .bool false]) (by simp [results, Tryz.results57, go_sem, *]) rfl (bec_f (fun hh => absurd (show theatreB n' m' cs' pl' ds' = true from hh.2.2) (by rw [hq'.out]; simp)) ⟨_, _, _, T, rfl, ?_, ?_, ?_⟩)
    ·exact OZ.out.chg (T := [w.heap.size + 1 + 1]) (by repeat' (with_reducible first | exact Chg.refl _ _ | refine qC ?_)) (fun x hx hx' => DZ.out x hx (by simp at hx'; subst hx'; simp))
    ·exact fresh_mono FZ.out (by omega) (by simp)
    ·exact Below.chg hb (S := [w.heap.size + 1 + 1]) (by repeat' (with_reducible first | exact Chg.refl _ _ | refine qC ?_)) hb.size (fun x hx => by simp at hx; omega)
 ·skip
  have Lc : Loc W1 (w.heap.size) [.int .i64 n, .slice A1 cs.length n1, .slice A2 pl.length n2, .slice A3 ds.length n3, .int .i64 m] := by have := (((Loc.new w #[.int .i64 n, .slice A1 cs.length n1, .slice A2 pl.length n2, .slice A3 ds.length n3, .int .i64 m] 30).alloc _).alloc _).below q; simpa using this
  have Ld : Loc W1 (w.heap.size + 1) [.int .i64 n', .slice B1 cs'.length k1, .slice B2 pl'.length k2, .slice B3 ds'.length k3, .int .i64 m'] := by have := ((Loc.new (w.alloc (.cells #[.int .i64 n, .slice A1 cs.length n1, .slice A2 pl.length n2, .slice A3 ds.length n3, .int .i64 m] 30)) #[.int .i64 n', .slice B1 cs'.length k1, .slice B2 pl'.length k2, .slice B3 ds'.length k3, .int .i64 m'] 30).alloc _).below q; simpa using this
  have Lr : Loc W1 (w.heap.size + 1 + 1) [.int .i64 0, .slice none 0 0, .slice none 0 0, .slice none 0 0, .int .i64 0] := by have := (Loc.new ((w.alloc (.cells #[.int .i64 n, .slice A1 cs.length n1, .slice A2 pl.length n2, .slice A3 ds.length n3, .int .i64 m] 30)).alloc (.cells #[.int .i64 n', .slice B1 cs'.length k1, .slice B2 pl'.length k2, .slice B3 ds'.length k3, .int .i64 m'] 30)) #[.int .i64 0, .slice none 0 0, .slice none 0 0, .slice none 0 0, .int .i64 0] 30).below q; simpa using this
  have hb : Below w.heap.size w W1 := Below.trans (by (repeat' (with_reducible first | exact Below.refl _ _ | assumption | refine qS ?_ _ | refine qA ?_ _ | refine qD ?_ | refine qN ?_ _))) (q.mono (by simp <;> omega))
  have hz0 : w.heap.size + 1 + 1 + 1 ≤ W1.heap.size := by have := q.size; simp at this; omega
  clear q
  have OK : Hid (OwTheatre W1 S _ _ _ cs' pl' ds') := Lib.hid (Hok.out.below hb)
  have FK : Hid (Fresh B W1 S) := Lib.hid (fresh_mono hf (Nat.le_refl _) hb.size)
  have DK : Hid (∀ x ∈ S, x ∉ [w.heap.size, w.heap.size + 1, w.heap.size + 1 + 1]) := (fun x hx => by have := (hf.2 x hx).2; simp; omega)
  cases ok
  ·skip
   have c0 := (Lc 0 _ rfl).1
   have c1 := (Lc 1 _ rfl).1
   have c2 := (Lc 2 _ rfl).1
   have c3 := (Lc 3 _ rfl).1
   have c4 := (Lc 4 _ rfl).1
   go_wp2_with fail
   refine (theatreCopied_any n m _ _ _ cs pl ds _ (h.below hb) hsz).mono ?_
   rintro e W2 ⟨y1, y2, y3, T, rfl, ow6, f6, q⟩
   clear c0 c1 c2 c3 c4
   obtain ⟨⟨D1, e1, rfl⟩, ⟨D2, e2, rfl⟩, ⟨D3, e3, rfl⟩⟩ := ow6.rd.forms
   have hzq : W1.heap.size ≤ W2.heap.size := by have := q.size; (try simp at this); omega
   replace Lc := Lc.below q
   replace Ld := Ld.below q
   replace Lr := Lr.below q
   replace OK := Lib.hid (OK.out.below q)
   replace FK := Lib.hid (fresh_mono (w' := W2) FK.out (Nat.le_refl _) hzq)
   replace hb : Below w.heap.size w W2 := hb.trans (q.mono hb.size)
   have hlow : W1.heap.size ≤ W1.heap.size := by first | exact Nat.le_refl _ | (simp; done) | (simp; omega) | omega
   have FZ := Lib.hid (fresh_mono f6 hlow (Nat.le_refl _))
   have DZ : Hid (∀ x ∈ T, x ∉ [w.heap.size, w.heap.size + 1, w.heap.size + 1 + 1]) := (fun x hx => by have := (FZ.out.2 x hx).1; simp; omega)
   have OZ := Lib.hid ow6
   clear ow6 f6 hlow
   clear q
   have r0 := (Lr 0 _ rfl).1
   have rf0 := (Lr 0 _ rfl).2
   have r1 := (Lr 1 _ rfl).1
   have rf1 := (Lr 1 _ rfl).2
   have r2 := (Lr 2 _ rfl).1
   have rf2 := (Lr 2 _ rfl).2
   have r3 := (Lr 3 _ rfl).1
   have rf3 := (Lr 3 _ rfl).2
   have r4 := (Lr 4 _ rfl).1
   have rf4 := (Lr 4 _ rfl).2
   go_wp2_with fail
   refine bodyPost_ret (v := .tuple #[.agg #[.int .i64 n, .slice D1 cs.length e1, .slice D2 pl.length e2, .slice D3 ds.length e3, .int .i64 m], .bool false]) (by simp [results, Tryz.results57, go_sem, *]) rfl (bec_f (fun hh => absurd (show theatreB n m cs pl ds = true from hh.1) (by rw [hq.out]; simp)) ⟨_, _, _, T, rfl, ?_, ?_, ?_⟩)
   ·exact OZ.out.chg (T := [w.heap.size + 1 + 1]) (by repeat' (with_reducible first | exact Chg.refl _ _ | refine qC ?_)) (fun x hx hx' => DZ.out x hx (by simp at hx'; subst hx'; simp))
   ·exact fresh_mono FZ.out (by omega) (by simp)
   ·exact Below.chg hb (S := [w.heap.size + 1 + 1]) (by repeat' (with_reducible first | exact Chg.refl _ _ | refine qC ?_)) hb.size (fun x hx => by simp at hx; omega)
  ·skip
   have c0 := (Lc 0 _ rfl).1
   have c1 := (Lc 1 _ rfl).1
   have c2 := (Lc 2 _ rfl).1
   have c3 := (Lc 3 _ rfl).1
   have c4 := (Lc 4 _ rfl).1
   go_wp2_with fail
   refine (theatreCopied_any n m _ _ _ cs pl ds _ (h.below hb) hsz).mono ?_
   rintro e W2 ⟨y1, y2, y3, T, rfl, ow6, f6, q⟩
   clear c0 c1 c2 c3 c4
   obtain ⟨⟨D1, e1, rfl⟩, ⟨D2, e2, rfl⟩, ⟨D3, e3, rfl⟩⟩ := ow6.rd.forms
   have hzq : W1.heap.size ≤ W2.heap.size := by have := q.size; (try simp at this); omega
   replace Lc := Lc.below q
   replace Ld := Ld.below q
   replace Lr := Lr.below q
   replace OK := Lib.hid (OK.out.below q)
   replace FK := Lib.hid (fresh_mono (w' := W2) FK.out (Nat.le_refl _) hzq)
   replace hb : Below w.heap.size w W2 := hb.trans (q.mono hb.size)
   have hlow : W1.heap.size ≤ W1.heap.size := by first | exact Nat.le_refl _ | (simp; done) | (simp; omega) | omega
   have FZ := Lib.hid (fresh_mono f6 hlow (Nat.le_refl _))
   have DZ : Hid (∀ x ∈ T, x ∉ [w.heap.size, w.heap.size + 1, w.heap.size + 1 + 1]) := (fun x hx => by have := (FZ.out.2 x hx).1; simp; omega)
   have OZ := Lib.hid ow6
   clear ow6 f6 hlow
   clear q
   have r0 := (Lr 0 _ rfl).1
   have rf0 := (Lr 0 _ rfl).2
   have r1 := (Lr 1 _ rfl).1
   have rf1 := (Lr 1 _ rfl).2
   have r2 := (Lr 2 _ rfl).1
   have rf2 := (Lr 2 _ rfl).2
   have r3 := (Lr 3 _ rfl).1
   have rf3 := (Lr 3 _ rfl).2
   have r4 := (Lr 4 _ rfl).1
   have rf4 := (Lr 4 _ rfl).2
   go_wp2_with fail
   refine bodyPost_ret (v := .tuple #[.agg #[.int .i64 n, .slice D1 cs.length e1, .slice D2 pl.length e2, .slice D3 ds.length e3, .int .i64 m], .bool false]) (by simp [results, Tryz.results57, go_sem, *]) rfl (bec_f (fun hh => absurd (show theatreB n m cs pl ds = true from hh.1) (by rw [hq.out]; simp)) ⟨_, _, _, T, rfl, ?_, ?_, ?_⟩)
   ·exact OZ.out.chg (T := [w.heap.size + 1 + 1]) (by repeat' (with_reducible first | exact Chg.refl _ _ | refine qC ?_)) (fun x hx hx' => DZ.out x hx (by simp at hx'; subst hx'; simp))
   ·exact fresh_mono FZ.out (by omega) (by simp)
   ·exact Below.chg hb (S := [w.heap.size + 1 + 1]) (by repeat' (with_reducible first | exact Chg.refl _ _ | refine qC ?_)) hb.size (fun x hx => by simp at hx; omega)
def moveF (t : Th) (a : Int) (f : Bool) : Th × Bool := becF t ⟨t.n, t.m, withC t.n t.cs t.pl [(a, f)], t.pl, t.ds⟩ (withB t.n t.cs t.pl [(a, f)])
theorem becomes_eq {n m n' m' : Int} {v1 v2 v3 y1 y2 y3 : Value} {cs cs' : List RCross} {pl pl' : List RPl} {ds ds' : List Int} {ok : Bool} {B : Nat} {S : List Nat} {rn rm : Int} {rcs : List RCross} {rpl : List RPl} {rds : List Int} {rb : Bool} {w : World}
  (hr : becF ⟨n, m, cs, pl, ds⟩ ⟨n', m', cs', pl', ds'⟩ ok = (⟨rn, rm, rcs, rpl, rds⟩, rb)) (h : RdTheatre w v1 v2 v3 cs pl ds) (hsz : szTheatre cs pl ds ≤ 1048576) (how : OwTheatre w S y1 y2 y3 cs' pl' ds') (hf : Fresh B w S) (hB : B ≤ w.heap.size) :
  Calls Tryz.prog 57 #[.agg #[.int .i64 n, v1, v2, v3, .int .i64 m], .agg #[.int .i64 n', y1, y2, y3, .int .i64 m'], .bool ok] w (RetT B rn rm rb rcs rpl rds w) := by
 have := becomes_any n m n' m' v1 v2 v3 y1 y2 y3 cs cs' pl pl' ds ds' ok B S w h hsz how hf hB
 rw [hr] at this
 exact this
set_option maxHeartbeats 8000000 in
set_option maxRecDepth 100000 in
theorem implMovePuppet_any (n m a : Int) (f : Bool) (v1 v2 v3 : Value) (cs : List RCross) (pl : List RPl) (ds : List Int) (w : World) (h : RdTheatre w v1 v2 v3 cs pl ds) (hsz : szTheatre cs pl ds ≤ 1048576) :
  Calls Tryz.prog 36 #[.agg #[.int .i64 n, v1, v2, v3, .int .i64 m], .int .i64 a, .bool f] w (RetTh w.heap.size (moveF ⟨n, m, cs, pl, ds⟩ a f) w) := by
 obtain ⟨⟨A1, n1, rfl⟩, ⟨A2, n2, rfl⟩, ⟨A3, n3, rfl⟩⟩ := h.forms
 have hszc : szCompany cs pl ≤ 1048576 := by unfold szTheatre at hsz; omega
 unfold moveF
 obtain ⟨⟨⟨rn, rm, rcs, rpl, rds⟩, rb⟩, hres⟩ : ∃ res, becF ⟨n, m, cs, pl, ds⟩ ⟨n, m, withC n cs pl [(a, f)], pl, ds⟩ (withB n cs pl [(a, f)]) = res := ⟨_, rfl⟩
 rw [hres]
 change Calls _ _ _ _ (RetT w.heap.size rn rm rb rcs rpl rds w)
 have Hres := Lib.hid hres
 clear hres
 go_enter Tryz.func36, Tryz.ntmps36
 go_wp2_with fail
 refine (theatreCopied_any n m _ _ _ cs pl ds _ (h.below (by (repeat' (with_reducible first | exact Below.refl _ _ | assumption | refine qS ?_ _ | refine qA ?_ _ | refine qD ?_ | refine qN ?_ _)))) hsz).mono ?_
 rintro e W1 ⟨x1, x2, x3, S, rfl, ow, f1, q⟩
 obtain ⟨⟨B1, k1, rfl⟩, ⟨B2, k2, rfl⟩, ⟨B3, k3, rfl⟩⟩ := ow.rd.forms
 have Lc : Loc W1 (w.heap.size) [.int .i64 n, .slice A1 cs.length n1, .slice A2 pl.length n2, .slice A3 ds.length n3, .int .i64 m] := by have := ((Loc.new w #[.int .i64 n, .slice A1 cs.length n1, .slice A2 pl.length n2, .slice A3 ds.length n3, .int .i64 m] 30).alloc _).below q; simpa using this
 have Lr : Loc W1 (w.heap.size + 1) [.int .i64 0, .slice none 0 0, .slice none 0 0, .slice none 0 0, .int .i64 0] := by have := (Loc.new (w.alloc (.cells #[.int .i64 n, .slice A1 cs.length n1, .slice A2 pl.length n2, .slice A3 ds.length n3, .int .i64 m] 30)) #[.int .i64 0, .slice none 0 0, .slice none 0 0, .slice none 0 0, .int .i64 0] 30).below q; simpa using this
 have hb : Below w.heap.size w W1 := Below.trans (by (repeat' (with_reducible first | exact Below.refl _ _ | assumption | refine qS ?_ _ | refine qA ?_ _ | refine qD ?_ | refine qN ?_ _))) (q.mono (by simp <;> omega))
 have hz0 : w.heap.size + 1 + 1 ≤ W1.heap.size := by have := q.size; simp at this; omega
 have hlow : w.heap.size + 1 + 1 ≤ (((w.alloc (.cells #[.int .i64 n, .slice A1 cs.length n1, .slice A2 pl.length n2, .slice A3 ds.length n3, .int .i64 m] 30)).alloc (.cells #[.int .i64 0, .slice none 0 0, .slice none 0 0, .slice none 0 0, .int .i64 0] 30))).heap.size := by first | exact Nat.le_refl _ | (simp; done) | (simp; omega) | omega
 have FK := Lib.hid (fresh_mono f1 hlow (Nat.le_refl _))
 have DK : Hid (∀ x ∈ S, x ∉ [w.heap.size, w.heap.size + 1]) := (fun x hx => by have := (FK.out.2 x hx).1; simp; omega)
 have OK := Lib.hid ow
 clear ow f1 hlow
 clear q
 go_upto_region 2 with (fail)
 replace Lc : Loc (W1.alloc (.cells #[.int .i64 n, .slice B1 cs.length k1, .slice B2 pl.length k2, .slice B3 ds.length k3, .int .i64 m] 30)) (w.heap.size) [.int .i64 n, .slice A1 cs.length n1, .slice A2 pl.length n2, .slice A3 ds.length n3, .int .i64 m] := Lc.alloc _
 replace Lr : Loc (W1.alloc (.cells #[.int .i64 n, .slice B1 cs.length k1, .slice B2 pl.length k2, .slice B3 ds.length k3, .int .i64 m] 30)) (w.heap.size + 1) [.int .i64 0, .slice none 0 0, .slice none 0 0, .slice none 0 0, .int .i64 0] := Lr.alloc _
 obtain ⟨go, hgo⟩ : ∃ g, W1.heap.size = g := ⟨_, rfl⟩
 have Lo : Loc (W1.alloc (.cells #[.int .i64 n, .slice B1 cs.length k1, .slice B2 pl.length k2, .slice B3 ds.length k3, .int .i64 m] 30)) W1.heap.size [.int .i64 n, .slice B1 cs.length k1, .slice B2 pl.length k2, .slice B3 ds.length k3, .int .i64 m] := Loc.new W1 #[.int .i64 n, .slice B1 cs.length k1, .slice B2 pl.length k2, .slice B3 ds.length k3, .int .i64 m] 30
 rw [hgo] at Lo
 replace OK := Lib.hid (OK.out.below (w' := (W1.alloc (.cells #[.int .i64 n, .slice B1 cs.length k1, .slice B2 pl.length k2, .slice B3 ds.length k3, .int .i64 m] 30))) ((Below.refl _ _).alloc (Nat.le_refl _) _))
 replace DK : Hid (∀ x ∈ S, x ∉ [w.heap.size, w.heap.size + 1, go]) := (fun x hx => by have := DK.out x hx; have := (FK.out.2 x hx).2; simp at *; omega)
 replace FK := Lib.hid (fresh_mono (w' := (W1.alloc (.cells #[.int .i64 n, .slice B1 cs.length k1, .slice B2 pl.length k2, .slice B3 ds.length k3, .int .i64 m] 30))) FK.out (Nat.le_refl _) (by simp))
 replace hb : Below w.heap.size w (W1.alloc (.cells #[.int .i64 n, .slice B1 cs.length k1, .slice B2 pl.length k2, .slice B3 ds.length k3, .int .i64 m] 30)) := hb.alloc hb.size _
 have hlto : go < (W1.alloc (.cells #[.int .i64 n, .slice B1 cs.length k1, .slice B2 pl.length k2, .slice B3 ds.length k3, .int .i64 m] 30)).heap.size := by simp; omega
 have hne_c_o : w.heap.size < go := by omega
 have hne_r_o : w.heap.size + 1 < go := by omega
 generalize W1.alloc (.cells #[.int .i64 n, .slice B1 cs.length k1, .slice B2 pl.length k2, .slice B3 ds.length k3, .int .i64 m] 30) = W2 at *
 rw [hgo]
 clear hgo
 obtain ⟨SK1, SK3, eK, oK, pK⟩ := OK.out
 have FKx := FK.out
 have DKx := DK.out
 rw [eK] at FKx DKx
 have OK1 := Lib.hid oK
 have OK3 := Lib.hid pK
 have FK1 := Lib.hid (fresh_left FKx)
 have FK3 := Lib.hid (fresh_right FKx)
 have DK1 : Hid (∀ x ∈ SK1, x ∉ [w.heap.size, w.heap.size + 1, go]) := (fun x hx => DKx x (List.mem_append_left _ hx))
 have DK3 : Hid (∀ x ∈ SK3, x ∉ [w.heap.size, w.heap.size + 1, go]) := (fun x hx => DKx x (List.mem_append_right _ hx))
 have JK : Hid (∀ x ∈ SK1, x ∉ SK3) := (nodup2 FKx.1).2.2.1
 clear OK FK DK FKx DKx oK pK
 have hU : ∀ x ∈ SK3, x < W2.heap.size := fun x hx => (FK3.out.2 x hx).2
 have o0 := (Lo 0 _ rfl).1
 have o1 := (Lo 1 _ rfl).1
 have o2 := (Lo 2 _ rfl).1
 have o3 := (Lo 3 _ rfl).1
 have o4 := (Lo 4 _ rfl).1
 go_wp2_with fail
 refine (implCrossOver_any n a f _ _ cs pl _ OK1.out.rd hszc).mono ?_
 rintro e W3 ⟨x4, x5, SX, rfl, ox, fx, q⟩
 clear o0 o1 o2 o3 o4
 obtain ⟨⟨C1, l1, rfl⟩, ⟨C2, l2, rfl⟩⟩ := ox.rd.forms
 have hzq : W2.heap.size ≤ W3.heap.size := by have := q.size; (try simp at this); omega
 replace Lc := Lc.below q
 replace Lr := Lr.below q
 replace Lo := Lo.below q
 replace OK1 := Lib.hid (OK1.out.below q)
 replace FK1 := Lib.hid (fresh_mono (w' := W3) FK1.out (Nat.le_refl _) hzq)
 replace OK3 := Lib.hid (OK3.out.below q)
 replace FK3 := Lib.hid (fresh_mono (w' := W3) FK3.out (Nat.le_refl _) hzq)
 replace hb : Below w.heap.size w W3 := hb.trans (q.mono hb.size)
 have hlow : W2.heap.size ≤ W2.heap.size := by first | exact Nat.le_refl _ | (simp; done) | (simp; omega) | omega
 have FX := Lib.hid (fresh_mono fx hlow (Nat.le_refl _))
 have DX : Hid (∀ x ∈ SX, x ∉ [w.heap.size, w.heap.size + 1, go]) := (fun x hx => by have := (FX.out.2 x hx).1; simp; omega)
 have OX := Lib.hid ox
 clear ox fx hlow
 clear q
 generalize withB n cs pl [(a, f)] = okc at *
 generalize withC n cs pl [(a, f)] = cs' at *
 have hJ : ∀ x ∈ SX, x ∉ SK3 := fun x hx hx' => by have := (FX.out.2 x hx).1; have := hU x hx'; omega
 have HJ := Lib.hid hJ
 clear hJ hU
 clear OK1 FK1 DK1
 go_upto_region 3 with (fail)
 replace Lc : Loc (W3.alloc (.cells #[.int .i64 n, .slice C1 cs'.length l1, .slice C2 pl.length l2] 27)) (w.heap.size) [.int .i64 n, .slice A1 cs.length n1, .slice A2 pl.length n2, .slice A3 ds.length n3, .int .i64 m] := Lc.alloc _
 replace Lr : Loc (W3.alloc (.cells #[.int .i64 n, .slice C1 cs'.length l1, .slice C2 pl.length l2] 27)) (w.heap.size + 1) [.int .i64 0, .slice none 0 0, .slice none 0 0, .slice none 0 0, .int .i64 0] := Lr.alloc _
 replace Lo : Loc (W3.alloc (.cells #[.int .i64 n, .slice C1 cs'.length l1, .slice C2 pl.length l2] 27)) (go) [.int .i64 n, .slice B1 cs.length k1, .slice B2 pl.length k2, .slice B3 ds.length k3, .int .i64 m] := Lo.alloc _
 obtain ⟨gp, hgp⟩ : ∃ g, W3.heap.size = g := ⟨_, rfl⟩
 have Lp : Loc (W3.alloc (.cells #[.int .i64 n, .slice C1 cs'.length l1, .slice C2 pl.length l2] 27)) W3.heap.size [.int .i64 n, .slice C1 cs'.length l1, .slice C2 pl.length l2] := Loc.new W3 #[.int .i64 n, .slice C1 cs'.length l1, .slice C2 pl.length l2] 27
 rw [hgp] at Lp
 replace OK3 := Lib.hid (OK3.out.below (w' := (W3.alloc (.cells #[.int .i64 n, .slice C1 cs'.length l1, .slice C2 pl.length l2] 27))) ((Below.refl _ _).alloc (Nat.le_refl _) _))
 replace OX := Lib.hid (OX.out.below (w' := (W3.alloc (.cells #[.int .i64 n, .slice C1 cs'.length l1, .slice C2 pl.length l2] 27))) ((Below.refl _ _).alloc (Nat.le_refl _) _))
 replace DK3 : Hid (∀ x ∈ SK3, x ∉ [w.heap.size, w.heap.size + 1, go, gp]) := (fun x hx => by have := DK3.out x hx; have := (FK3.out.2 x hx).2; simp at *; omega)
 replace FK3 := Lib.hid (fresh_mono (w' := (W3.alloc (.cells #[.int .i64 n, .slice C1 cs'.length l1, .slice C2 pl.length l2] 27))) FK3.out (Nat.le_refl _) (by simp))
 replace DX : Hid (∀ x ∈ SX, x ∉ [w.heap.size, w.heap.size + 1, go, gp]) := (fun x hx => by have := DX.out x hx; have := (FX.out.2 x hx).2; simp at *; omega)
 replace FX := Lib.hid (fresh_mono (w' := (W3.alloc (.cells #[.int .i64 n, .slice C1 cs'.length l1, .slice C2 pl.length l2] 27))) FX.out (Nat.le_refl _) (by simp))
 replace hb : Below w.heap.size w (W3.alloc (.cells #[.int .i64 n, .slice C1 cs'.length l1, .slice C2 pl.length l2] 27)) := hb.alloc hb.size _
 have hltp : gp < (W3.alloc (.cells #[.int .i64 n, .slice C1 cs'.length l1, .slice C2 pl.length l2] 27)).heap.size := by simp; omega
 have hne_c_p : w.heap.size < gp := by omega
 have hne_r_p : w.heap.size + 1 < gp := by omega
 have hne_o_p : go < gp := by omega
 generalize W3.alloc (.cells #[.int .i64 n, .slice C1 cs'.length l1, .slice C2 pl.length l2] 27) = W4 at *
 rw [hgp]
 clear hgp
 have p0 := (Lp 0 _ rfl).1
 have p1 := (Lp 1 _ rfl).1
 have p2 := (Lp 2 _ rfl).1
 have o0 := (Lo 0 _ rfl).1
 have of0 := (Lo 0 _ rfl).2
 have o1 := (Lo 1 _ rfl).1
 have of1 := (Lo 1 _ rfl).2
 have o2 := (Lo 2 _ rfl).1
 have of2 := (Lo 2 _ rfl).2
 have o3 := (Lo 3 _ rfl).1
 have of3 := (Lo 3 _ rfl).2
 have o4 := (Lo 4 _ rfl).1
 have of4 := (Lo 4 _ rfl).2
 go_upto_region 4 with (fail)
 clear p0 p1 p2 o0 of0 o1 of1 o2 of2 o3 of3 o4 of4
 replace Lc := Lc.far (g := go) (i := 0) (u := .int .i64 n) (by omega)
 replace Lr := Lr.far (g := go) (i := 0) (u := .int .i64 n) (by omega)
 replace Lp := Lp.far (g := go) (i := 0) (u := .int .i64 n) (by omega)
 replace Lo : Loc (W4.setCell ⟨go, 0, none⟩ (.int .i64 n)) (go) [.int .i64 n, .slice B1 cs.length k1, .slice B2 pl.length k2, .slice B3 ds.length k3, .int .i64 m] := Lo.set (i := 0) (v := .int .i64 n) rfl
 have hch : Chg [go] W4 (W4.setCell ⟨go, 0, none⟩ (.int .i64 n)) := chg_set (Chg.refl _ _) (by simp)
 replace OK3 := Lib.hid (OK3.out.chg hch (fun x hx hx' => DK3.out x hx (by simp at hx'; subst hx'; simp)))
 replace FK3 := Lib.hid (fresh_mono (w' := (W4.setCell ⟨go, 0, none⟩ (.int .i64 n))) FK3.out (Nat.le_refl _) hch.size)
 replace OX := Lib.hid (OX.out.chg hch (fun x hx hx' => DX.out x hx (by simp at hx'; subst hx'; simp)))
 replace FX := Lib.hid (fresh_mono (w' := (W4.setCell ⟨go, 0, none⟩ (.int .i64 n))) FX.out (Nat.le_refl _) hch.size)
 replace hb : Below w.heap.size w (W4.setCell ⟨go, 0, none⟩ (.int .i64 n)) := Below.chg hb hch hb.size (by simp; omega)
 have hzc := hch.size
 clear hch
 generalize W4.setCell ⟨go, 0, none⟩ (.int .i64 n) = W5 at *
 replace Lc := Lc.far (g := go) (i := 1) (u := .slice C1 cs'.length l1) (by omega)
 replace Lr := Lr.far (g := go) (i := 1) (u := .slice C1 cs'.length l1) (by omega)
 replace Lp := Lp.far (g := go) (i := 1) (u := .slice C1 cs'.length l1) (by omega)
 replace Lo : Loc (W5.setCell ⟨go, 1, none⟩ (.slice C1 cs'.length l1)) (go) [.int .i64 n, .slice C1 cs'.length l1, .slice B2 pl.length k2, .slice B3 ds.length k3, .int .i64 m] := Lo.set (i := 1) (v := .slice B1 cs.length k1) rfl
 have hch : Chg [go] W5 (W5.setCell ⟨go, 1, none⟩ (.slice C1 cs'.length l1)) := chg_set (Chg.refl _ _) (by simp)
 replace OK3 := Lib.hid (OK3.out.chg hch (fun x hx hx' => DK3.out x hx (by simp at hx'; subst hx'; simp)))
 replace FK3 := Lib.hid (fresh_mono (w' := (W5.setCell ⟨go, 1, none⟩ (.slice C1 cs'.length l1))) FK3.out (Nat.le_refl _) hch.size)
 replace OX := Lib.hid (OX.out.chg hch (fun x hx hx' => DX.out x hx (by simp at hx'; subst hx'; simp)))
 replace FX := Lib.hid (fresh_mono (w' := (W5.setCell ⟨go, 1, none⟩ (.slice C1 cs'.length l1))) FX.out (Nat.le_refl _) hch.size)
 replace hb : Below w.heap.size w (W5.setCell ⟨go, 1, none⟩ (.slice C1 cs'.length l1)) := Below.chg hb hch hb.size (by simp; omega)
 have hzc := hch.size
 clear hch
 generalize W5.setCell ⟨go, 1, none⟩ (.slice C1 cs'.length l1) = W6 at *
 replace Lc := Lc.far (g := go) (i := 2) (u := .slice C2 pl.length l2) (by omega)
 replace Lr := Lr.far (g := go) (i := 2) (u := .slice C2 pl.length l2) (by omega)
 replace Lp := Lp.far (g := go) (i := 2) (u := .slice C2 pl.length l2) (by omega)
 replace Lo : Loc (W6.setCell ⟨go, 2, none⟩ (.slice C2 pl.length l2)) (go) [.int .i64 n, .slice C1 cs'.length l1, .slice C2 pl.length l2, .slice B3 ds.length k3, .int .i64 m] := Lo.set (i := 2) (v := .slice B2 pl.length k2) rfl
 have hch : Chg [go] W6 (W6.setCell ⟨go, 2, none⟩ (.slice C2 pl.length l2)) := chg_set (Chg.refl _ _) (by simp)
 replace OK3 := Lib.hid (OK3.out.chg hch (fun x hx hx' => DK3.out x hx (by simp at hx'; subst hx'; simp)))
 replace FK3 := Lib.hid (fresh_mono (w' := (W6.setCell ⟨go, 2, none⟩ (.slice C2 pl.length l2))) FK3.out (Nat.le_refl _) hch.size)
 replace OX := Lib.hid (OX.out.chg hch (fun x hx hx' => DX.out x hx (by simp at hx'; subst hx'; simp)))
 replace FX := Lib.hid (fresh_mono (w' := (W6.setCell ⟨go, 2, none⟩ (.slice C2 pl.length l2))) FX.out (Nat.le_refl _) hch.size)
 replace hb : Below w.heap.size w (W6.setCell ⟨go, 2, none⟩ (.slice C2 pl.length l2)) := Below.chg hb hch hb.size (by simp; omega)
 have hzc := hch.size
 clear hch
 generalize W6.setCell ⟨go, 2, none⟩ (.slice C2 pl.length l2) = W7 at *
 replace FX := Lib.hid (fresh_mono (B' := w.heap.size + 1 + 1) FX.out (by omega) (Nat.le_refl _))
 have OP : OwTheatre W7 (SX ++ SK3) (.slice C1 cs'.length l1) (.slice C2 pl.length l2) (.slice B3 ds.length k3) cs' pl ds := ⟨_, _, rfl, OX.out, OK3.out⟩
 have FQ := Lib.hid (fresh_join FX.out FK3.out (HJ.out))
 have DQ : Hid (∀ x ∈ SX ++ SK3, x ∉ [w.heap.size, w.heap.size + 1, go, gp]) := (fun x hx => (List.mem_append.1 hx).elim (DX.out x) (DK3.out x))
 have OQ := Lib.hid (OP)
 clear OX FX DX OK3 FK3 DK3
 obtain ⟨SQ, hSQ⟩ : ∃ T, SX ++ SK3 = T := ⟨_, rfl⟩
 rw [hSQ] at OQ FQ DQ
 clear hSQ
 clear OP
 have c0 := (Lc 0 _ rfl).1
 have c1 := (Lc 1 _ rfl).1
 have c2 := (Lc 2 _ rfl).1
 have c3 := (Lc 3 _ rfl).1
 have c4 := (Lc 4 _ rfl).1
 have o0 := (Lo 0 _ rfl).1
 have o1 := (Lo 1 _ rfl).1
 have o2 := (Lo 2 _ rfl).1
 have o3 := (Lo 3 _ rfl).1
 have o4 := (Lo 4 _ rfl).1
 go_wp2_with fail
 refine (becomes_eq (B := w.heap.size + 1 + 1) (S := SQ) Hres.out (h.below hb) hsz OQ.out FQ.out (by have := hb.size; omega)).mono ?_
 rintro e W8 ⟨z1, z2, z3, T, rfl, owr, fr, q⟩
 clear c0 c1 c2 c3 c4 o0 o1 o2 o3 o4
 obtain ⟨⟨Z1, e1, rfl⟩, ⟨Z2, e2, rfl⟩, ⟨Z3, e3, rfl⟩⟩ := owr.rd.forms
 have hzq : W7.heap.size ≤ W8.heap.size := by have := q.size; (try simp at this); omega
 replace Lc := Lc.below q
 replace Lr := Lr.below q
 replace Lo := Lo.below q
 replace Lp := Lp.below q
 replace OQ := Lib.hid (OQ.out.below q)
 replace FQ := Lib.hid (fresh_mono (w' := W8) FQ.out (Nat.le_refl _) hzq)
 replace hb : Below w.heap.size w W8 := hb.trans (q.mono hb.size)
 clear q
 have FR := Lib.hid fr
 have OR := Lib.hid owr
 clear fr owr Hres
 have r0 := (Lr 0 _ rfl).1
 have rf0 := (Lr 0 _ rfl).2
 have r1 := (Lr 1 _ rfl).1
 have rf1 := (Lr 1 _ rfl).2
 have r2 := (Lr 2 _ rfl).1
 have rf2 := (Lr 2 _ rfl).2
 have r3 := (Lr 3 _ rfl).1
 have rf3 := (Lr 3 _ rfl).2
 have r4 := (Lr 4 _ rfl).1
 have rf4 := (Lr 4 _ rfl).2
 go_wp2_with fail
 refine bodyPost_ret (v := .tuple #[.agg #[.int .i64 rn, .slice Z1 rcs.length e1, .slice Z2 rpl.length e2, .slice Z3 rds.length e3, .int .i64 rm], .bool rb]) (by simp [results, Tryz.results36, go_sem, *]) rfl ⟨_, _, _, T, rfl, ?_, ?_, ?_⟩
 ·exact OR.out.chg (T := [w.heap.size + 1]) (by repeat' (with_reducible first | exact Chg.refl _ _ | refine qC ?_)) (fun x hx hx' => by have := (FR.out.2 x hx).1; simp at hx'; omega)
 ·exact fresh_mono FR.out (by omega) (by simp)
 ·exact Below.chg hb (S := [w.heap.size + 1]) (by repeat' (with_reducible first | exact Chg.refl _ _ | refine qC ?_)) hb.size (fun x hx => by simp at hx; omega)
open Go.RowKit
theorem frozen_alloc {w : World} {p : Addr} {v : Value} (o : Obj) (h : w.cell? p = some v) (hf : w.frozen? p = false) : (w.alloc o).frozen? p = false := (((Below.refl w.heap.size w).alloc (Nat.le_refl _) o).frozen (World.block_lt_of_cell? w _ h)).trans hf
def hireF (t : Th) (free : Int) : Th × Bool := becF t ⟨t.n, wrap64 (t.m - 10), t.cs, t.pl ++ [([], free)], t.ds⟩ true
set_option maxHeartbeats 8000000 in
set_option maxRecDepth 100000 in
theorem implHirePlayer_any (n m free : Int) (v1 v2 v3 : Value) (cs : List RCross) (pl : List RPl) (ds : List Int) (w : World) (h : RdTheatre w v1 v2 v3 cs pl ds) (hsz : szTheatre cs pl ds ≤ 1048576) :
  Calls Tryz.prog 34 #[.agg #[.int .i64 n, v1, v2, v3, .int .i64 m], .int .i64 free] w (RetTh w.heap.size (hireF ⟨n, m, cs, pl, ds⟩ free) w) := by
 obtain ⟨⟨A1, n1, rfl⟩, ⟨A2, n2, rfl⟩, ⟨A3, n3, rfl⟩⟩ := h.forms
 have hpl : pl.length ≤ 1048576 := by unfold szTheatre szCompany plsTot at hsz; omega
 obtain ⟨i0, hi0, hp0, hp1, hp2⟩ := info_parts infoPlayer
 unfold hireF
 obtain ⟨⟨⟨rn, rm, rcs, rpl, rds⟩, rb⟩, hres⟩ : ∃ res, becF ⟨n, m, cs, pl, ds⟩ ⟨n, wrap64 (m - 10), cs, pl ++ [([], free)], ds⟩ true = res := ⟨_, rfl⟩
 rw [hres]
 change Calls _ _ _ _ (RetT w.heap.size rn rm rb rcs rpl rds w)
 have Hres := Lib.hid hres
 clear hres
 go_enter Tryz.func34, Tryz.ntmps34
 go_wp2_with fail
 refine (theatreCopied_any n m _ _ _ cs pl ds _ (h.below (by (repeat' (with_reducible first | exact Below.refl _ _ | assumption | refine qS ?_ _ | refine qA ?_ _ | refine qD ?_ | refine qN ?_ _)))) hsz).mono ?_
 rintro e W1 ⟨x1, x2, x3, S, rfl, ow, f1, q⟩
 obtain ⟨⟨B1, k1, rfl⟩, ⟨B2, k2, rfl⟩, ⟨B3, k3, rfl⟩⟩ := ow.rd.forms
 have Lc : Loc W1 (w.heap.size) [.int .i64 n, .slice A1 cs.length n1, .slice A2 pl.length n2, .slice A3 ds.length n3, .int .i64 m] := by have := ((Loc.new w #[.int .i64 n, .slice A1 cs.length n1, .slice A2 pl.length n2, .slice A3 ds.length n3, .int .i64 m] 30).alloc _).below q; simpa using this
 have Lr : Loc W1 (w.heap.size + 1) [.int .i64 0, .slice none 0 0, .slice none 0 0, .slice none 0 0, .int .i64 0] := by have := (Loc.new (w.alloc (.cells #[.int .i64 n, .slice A1 cs.length n1, .slice A2 pl.length n2, .slice A3 ds.length n3, .int .i64 m] 30)) #[.int .i64 0, .slice none 0 0, .slice none 0 0, .slice none 0 0, .int .i64 0] 30).below q; simpa using this
 have hb : Below w.heap.size w W1 := Below.trans (by (repeat' (with_reducible first | exact Below.refl _ _ | assumption | refine qS ?_ _ | refine qA ?_ _ | refine qD ?_ | refine qN ?_ _))) (q.mono (by simp <;> omega))
 have hz0 : w.heap.size + 1 + 1 ≤ W1.heap.size := by have := q.size; simp at this; omega
 have hlow : w.heap.size + 1 + 1 ≤ (((w.alloc (.cells #[.int .i64 n, .slice A1 cs.length n1, .slice A2 pl.length n2, .slice A3 ds.length n3, .int .i64 m] 30)).alloc (.cells #[.int .i64 0, .slice none 0 0, .slice none 0 0, .slice none 0 0, .int .i64 0] 30))).heap.size := by first | exact Nat.le_refl _ | (simp; done) | (simp; omega) | omega
 have FK := Lib.hid (fresh_mono f1 hlow (Nat.le_refl _))
 have DK : Hid (∀ x ∈ S, x ∉ [w.heap.size, w.heap.size + 1]) := (fun x hx => by have := (FK.out.2 x hx).1; simp; omega)
 have OK := Lib.hid ow
 clear ow f1 hlow
 clear q
 go_upto_region 2 with (fail)
 replace Lc : Loc (W1.alloc (.cells #[.int .i64 n, .slice B1 cs.length k1, .slice B2 pl.length k2, .slice B3 ds.length k3, .int .i64 m] 30)) (w.heap.size) [.int .i64 n, .slice A1 cs.length n1, .slice A2 pl.length n2, .slice A3 ds.length n3, .int .i64 m] := Lc.alloc _
 replace Lr : Loc (W1.alloc (.cells #[.int .i64 n, .slice B1 cs.length k1, .slice B2 pl.length k2, .slice B3 ds.length k3, .int .i64 m] 30)) (w.heap.size + 1) [.int .i64 0, .slice none 0 0, .slice none 0 0, .slice none 0 0, .int .i64 0] := Lr.alloc _
 obtain ⟨go, hgo⟩ : ∃ g, W1.heap.size = g := ⟨_, rfl⟩
 have Lo : Loc (W1.alloc (.cells #[.int .i64 n, .slice B1 cs.length k1, .slice B2 pl.length k2, .slice B3 ds.length k3, .int .i64 m] 30)) W1.heap.size [.int .i64 n, .slice B1 cs.length k1, .slice B2 pl.length k2, .slice B3 ds.length k3, .int .i64 m] := Loc.new W1 #[.int .i64 n, .slice B1 cs.length k1, .slice B2 pl.length k2, .slice B3 ds.length k3, .int .i64 m] 30
 rw [hgo] at Lo
 replace OK := Lib.hid (OK.out.below (w' := (W1.alloc (.cells #[.int .i64 n, .slice B1 cs.length k1, .slice B2 pl.length k2, .slice B3 ds.length k3, .int .i64 m] 30))) ((Below.refl _ _).alloc (Nat.le_refl _) _))
 replace DK : Hid (∀ x ∈ S, x ∉ [w.heap.size, w.heap.size + 1, go]) := (fun x hx => by have := DK.out x hx; have := (FK.out.2 x hx).2; simp at *; omega)
 replace FK := Lib.hid (fresh_mono (w' := (W1.alloc (.cells #[.int .i64 n, .slice B1 cs.length k1, .slice B2 pl.length k2, .slice B3 ds.length k3, .int .i64 m] 30))) FK.out (Nat.le_refl _) (by simp))
 replace hb : Below w.heap.size w (W1.alloc (.cells #[.int .i64 n, .slice B1 cs.length k1, .slice B2 pl.length k2, .slice B3 ds.length k3, .int .i64 m] 30)) := hb.alloc hb.size _
 have hlto : go < (W1.alloc (.cells #[.int .i64 n, .slice B1 cs.length k1, .slice B2 pl.length k2, .slice B3 ds.length k3, .int .i64 m] 30)).heap.size := by simp; omega
 have hne_c_o : w.heap.size < go := by omega
 have hne_r_o : w.heap.size + 1 < go := by omega
 generalize W1.alloc (.cells #[.int .i64 n, .slice B1 cs.length k1, .slice B2 pl.length k2, .slice B3 ds.length k3, .int .i64 m] 30) = W2 at *
 rw [hgo]
 clear hgo
 obtain ⟨SK1, SK3, eK, oK, pK⟩ := OK.out
 have FKx := FK.out
 have DKx := DK.out
 rw [eK] at FKx DKx
 have OK1 := Lib.hid oK
 have OK3 := Lib.hid pK
 have FK1 := Lib.hid (fresh_left FKx)
 have FK3 := Lib.hid (fresh_right FKx)
 have DK1 : Hid (∀ x ∈ SK1, x ∉ [w.heap.size, w.heap.size + 1, go]) := (fun x hx => DKx x (List.mem_append_left _ hx))
 have DK3 : Hid (∀ x ∈ SK3, x ∉ [w.heap.size, w.heap.size + 1, go]) := (fun x hx => DKx x (List.mem_append_right _ hx))
 have JK : Hid (∀ x ∈ SK1, x ∉ SK3) := (nodup2 FKx.1).2.2.1
 clear OK FK DK FKx DKx oK pK
 obtain ⟨SK11, SK12, eK1, oK1, pK1⟩ := OK1.out
 have FK1x := FK1.out
 have DK1x := DK1.out
 rw [eK1] at FK1x DK1x
 have OK11 := Lib.hid oK1
 have OK12 := Lib.hid pK1
 have FK11 := Lib.hid (fresh_left FK1x)
 have FK12 := Lib.hid (fresh_right FK1x)
 have DK11 : Hid (∀ x ∈ SK11, x ∉ [w.heap.size, w.heap.size + 1, go]) := (fun x hx => DK1x x (List.mem_append_left _ hx))
 have DK12 : Hid (∀ x ∈ SK12, x ∉ [w.heap.size, w.heap.size + 1, go]) := (fun x hx => DK1x x (List.mem_append_right _ hx))
 have JK1 : Hid (∀ x ∈ SK11, x ∉ SK12) := (nodup2 FK1x.1).2.2.1
 clear OK1 FK1 DK1 FK1x DK1x oK1 pK1
 have hJ3 : ∀ x ∈ SK12, x ∉ SK3 := fun x hx hx' => JK.out x (by rw [eK1]; exact List.mem_append_right _ hx) hx'
 have hJ13 : ∀ x ∈ SK11, x ∉ SK3 := fun x hx hx' => JK.out x (by rw [eK1]; exact List.mem_append_left _ hx) hx'
 have HJ3 := Lib.hid hJ3
 have HJ13 := Lib.hid hJ13
 clear hJ3 hJ13
 obtain ⟨vs, hvl, hown, hrows, eS⟩ := OK12.out
 have FP := FK12.out
 rw [eS] at FP
 have hown1 : W2.ownsRow (w.heap.size + 1 + 1) 55 2 (.slice B2 pl.length k2) pl.length (vs.flatMap cPl) := by have := own_up hown (fun b hb => FP.2 b (List.mem_append_left _ hb)); rwa [hvl] at this
 have Hown := Lib.hid hown1
 have Hrows := Lib.hid hrows
 have Hvl := Lib.hid hvl
 have HES := Lib.hid eS
 have HFP := Lib.hid FP
 clear hown hown1 hrows hvl eS FP
 have o0 := (Lo 0 _ rfl).1
 have o1 := (Lo 1 _ rfl).1
 have o2 := (Lo 2 _ rfl).1
 have o3 := (Lo 3 _ rfl).1
 have o4 := (Lo 4 _ rfl).1
 have of2 := (Lo 2 _ rfl).2
 have hng : go ∉ (Value.slice B2 pl.length k2).ownBlock.toList := fun hm => DK12.out go (by rw [HES.out]; exact List.mem_append_left _ hm) (by simp)
 have Hng := Lib.hid hng
 clear hng
 go_upto_region 3 with (at_builtin; refine wpList_appendB _ rfl (.tmp 11) (.tmp 15) _ rfl (w.heap.size + 1 + 1) 55 i0 _ 2 32 Tryz.underlying25 hi0 hp0 hp1 hp2 rfl (by omega) _ pl.length (vs.flatMap cPl) rfl ((Hown.out.alloc _).alloc _) _ 1 [.slice (some ⟨W2.heap.size, 0, none⟩) 0 0, .int .i64 free] rfl (rdS_newAt (W2.alloc _) (W2.heap.size + 1) (by simp) #[.slice (some ⟨W2.heap.size, 0, none⟩) 0 0, .int .i64 free] _ 2 1 rfl (by simp [maxLen])) (by simp [Value.oneCell']) (by simp [maxLen]; omega) (by omega) (by simp; omega) ?_; intro v3 w3 own3 gr3 at3; obtain ⟨D3, e3, rfl, _, _⟩ := (RdS.of_own own3).form; have hch := Chg.of_grown gr3; have ho2 := carryChg hch (cell_alloc _ (cell_alloc _ o2)) Hng.out; have hof2 := carryChgF hch (cell_alloc _ (cell_alloc _ o2)) (frozen_alloc _ (cell_alloc _ o2) (frozen_alloc _ o2 of2)) Hng.out; clear o0 o1 o2 o3 o4 of2)
 have bA : Below W2.heap.size W2 ((W2.alloc (.cells #[] 3)).alloc (.cells #[.slice (some ⟨W2.heap.size, 0, none⟩) 0 0, .int .i64 free] 55)) := by (repeat' (with_reducible first | exact Below.refl _ _ | assumption | refine qS ?_ _ | refine qA ?_ _ | refine qD ?_ | refine qN ?_ _))
 clear ho2 hof2
 replace Lc := (Lc.below bA).chg hch (fun hm => DK12.out _ (by rw [HES.out]; exact List.mem_append_left _ hm) (by simp))
 replace Lr := (Lr.below bA).chg hch (fun hm => DK12.out _ (by rw [HES.out]; exact List.mem_append_left _ hm) (by simp))
 replace Lo := (Lo.below bA).chg hch (fun hm => DK12.out _ (by rw [HES.out]; exact List.mem_append_left _ hm) (by simp))
 have hsA := bA.size
 have hs3 := gr3.size
 have OK11' := Lib.hid ((OK11.out.below bA).chg hch (fun x hx hx' => JK1.out x hx (by rw [HES.out]; exact List.mem_append_left _ hx')))
 have FK11' := Lib.hid (fresh_mono (w' := w3) FK11.out (Nat.le_refl _) (by omega))
 have UK11 : Hid (∀ x ∈ SK11, x < W2.heap.size) := fun x hx => (FK11.out.2 x hx).2
 clear OK11 FK11; have OK11 := OK11'; have FK11 := FK11'; clear OK11' FK11'
 have OK3' := Lib.hid ((OK3.out.below bA).chg hch (fun x hx hx' => HJ3.out x (by rw [HES.out]; exact List.mem_append_left _ hx') hx))
 have FK3' := Lib.hid (fresh_mono (w' := w3) FK3.out (Nat.le_refl _) (by omega))
 have UK3 : Hid (∀ x ∈ SK3, x < W2.heap.size) := fun x hx => (FK3.out.2 x hx).2
 clear OK3 FK3; have OK3 := OK3'; have FK3 := FK3'; clear OK3' FK3'
 replace hb : Below w.heap.size w w3 := Below.chg (hb.trans (bA.mono hb.size)) hch (by have := hb.size; omega) (fun b hm => by have := (HFP.out.2 b (List.mem_append_left _ hm)).1; omega)
 have hkE : OwL 3 cInt 1 ((W2.alloc (.cells #[] 3)).alloc (.cells #[.slice (some ⟨W2.heap.size, 0, none⟩) 0 0, .int .i64 free] 55)) [W2.heap.size] (.slice (some ⟨W2.heap.size, 0, none⟩) 0 0) ([] : List Int) := ⟨((World.ownsRow_made (size := 1) (e := 3) W2 #[] 0 (Nat.zero_le _) (by simp [maxLen]) rfl).alloc _), rfl⟩
 have hfE : Fresh (w.heap.size + 1 + 1) ((W2.alloc (.cells #[] 3)).alloc (.cells #[.slice (some ⟨W2.heap.size, 0, none⟩) 0 0, .int .i64 free] 55)) [W2.heap.size] := ⟨by simp, fun b hb' => by simp at hb'; subst hb'; simp; omega⟩
 have hdE : ∀ b ∈ (Value.slice B2 pl.length k2).ownBlock.toList ++ plBlocks vs, b ∉ [W2.heap.size] := fun b hb' hb2 => by have := (HFP.out.2 b hb').2; simp at hb2; omega
 have hsn := pls_snoc (B := w.heap.size + 1 + 1) (w := ((W2.alloc (.cells #[] 3)).alloc (.cells #[.slice (some ⟨W2.heap.size, 0, none⟩) 0 0, .int .i64 free] 55))) (w' := w3) (q := .slice B2 pl.length k2) (ll := pl) Hvl.out (fun i p r hp hr => ⟨(Hrows.out i p r hp hr).1, own_below (Hrows.out i p r hp hr).2 bA⟩) (fresh_mono HFP.out (Nat.le_refl _) bA.size) hkE hfE hdE (by rw [Hvl.out]; exact own3) gr3 at3
 obtain ⟨SN, hSN⟩ : ∃ T, (Value.slice D3 (pl.length + 1) e3).ownBlock.toList ++ plBlocks (vs ++ [(.slice (some ⟨W2.heap.size, 0, none⟩) 0 0, free)]) = T := ⟨_, rfl⟩
 have hnew : ∀ x ∈ SN, x ∈ SK12 ∨ W2.heap.size ≤ x := by
  intro x hx
  rw [← hSN, plBlocks_snoc] at hx
  rcases List.mem_append.1 hx with hx | hx
  ·rcases at3 with e | e
   ·rw [e] at hx; exact .inl (by rw [HES.out]; exact List.mem_append_left _ hx)
   ·rw [e] at hx; simp at hx; right; omega
  ·rcases List.mem_append.1 hx with hx | hx
   ·exact .inl (by rw [HES.out]; exact List.mem_append_right _ hx)
   ·right; simp [Value.ownBlock] at hx; omega
 rw [hSN] at hsn
 have ON := Lib.hid hsn.1
 have FN := Lib.hid hsn.2
 have HN := Lib.hid hnew
 have DN : Hid (∀ x ∈ SN, x ∉ [w.heap.size, w.heap.size + 1, go]) := (fun x hx => by
  rcases HN.out x hx with h1 | h1
  ·exact DK12.out x h1
  ·simp; omega)
 have J1N : Hid (∀ x ∈ SK11, x ∉ SN) := (fun x hx hx' => by
  rcases HN.out x hx' with h1 | h1
  ·exact JK1.out x hx h1
  ·have := UK11.out x hx; omega)
 have JN3 : Hid (∀ x ∈ SN, x ∉ SK3) := (fun x hx hx' => by
  rcases HN.out x hx with h1 | h1
  ·exact HJ3.out x h1 hx'
  ·have := UK3.out x hx'; omega)
 clear hsn hnew hSN hkE hfE hdE own3 gr3 at3 hch OK12 FK12 DK12 Hown Hrows Hvl HES HFP Hng bA UK11 UK3 HN
 replace Lc := Lc.far (g := go) (i := 2) (u := .slice D3 (pl.length + 1) e3) (by omega)
 replace Lr := Lr.far (g := go) (i := 2) (u := .slice D3 (pl.length + 1) e3) (by omega)
 replace Lo : Loc (w3.setCell ⟨go, 2, none⟩ (.slice D3 (pl.length + 1) e3)) (go) [.int .i64 n, .slice B1 cs.length k1, .slice D3 (pl.length + 1) e3, .slice B3 ds.length k3, .int .i64 m] := Lo.set (i := 2) (v := .slice B2 pl.length k2) rfl
 have hch : Chg [go] w3 (w3.setCell ⟨go, 2, none⟩ (.slice D3 (pl.length + 1) e3)) := chg_set (Chg.refl _ _) (by simp)
 replace OK3 := Lib.hid (OK3.out.chg hch (fun x hx hx' => DK3.out x hx (by simp at hx'; subst hx'; simp)))
 replace FK3 := Lib.hid (fresh_mono (w' := (w3.setCell ⟨go, 2, none⟩ (.slice D3 (pl.length + 1) e3))) FK3.out (Nat.le_refl _) hch.size)
 replace OK11 := Lib.hid (OK11.out.chg hch (fun x hx hx' => DK11.out x hx (by simp at hx'; subst hx'; simp)))
 replace FK11 := Lib.hid (fresh_mono (w' := (w3.setCell ⟨go, 2, none⟩ (.slice D3 (pl.length + 1) e3))) FK11.out (Nat.le_refl _) hch.size)
 replace ON := Lib.hid (ON.out.chg hch (fun x hx hx' => DN.out x hx (by simp at hx'; subst hx'; simp)))
 replace FN := Lib.hid (fresh_mono (w' := (w3.setCell ⟨go, 2, none⟩ (.slice D3 (pl.length + 1) e3))) FN.out (Nat.le_refl _) hch.size)
 replace hb : Below w.heap.size w (w3.setCell ⟨go, 2, none⟩ (.slice D3 (pl.length + 1) e3)) := Below.chg hb hch hb.size (by simp; omega)
 have hzc := hch.size
 clear hch
 generalize w3.setCell ⟨go, 2, none⟩ (.slice D3 (pl.length + 1) e3) = W3 at *
 have o4 := (Lo 4 _ rfl).1
 have c4 := (Lc 4 _ rfl).1
 have of4 := (Lo 4 _ rfl).2
 go_upto_region 4 with (fail)
 clear o4 c4 of4
 replace Lc := Lc.far (g := go) (i := 4) (u := .int .i64 (wrap64 (m - 10))) (by omega)
 replace Lr := Lr.far (g := go) (i := 4) (u := .int .i64 (wrap64 (m - 10))) (by omega)
 replace Lo : Loc (W3.setCell ⟨go, 4, none⟩ (.int .i64 (wrap64 (m - 10)))) (go) [.int .i64 n, .slice B1 cs.length k1, .slice D3 (pl.length + 1) e3, .slice B3 ds.length k3, .int .i64 (wrap64 (m - 10))] := Lo.set (i := 4) (v := .int .i64 m) rfl
 have hch : Chg [go] W3 (W3.setCell ⟨go, 4, none⟩ (.int .i64 (wrap64 (m - 10)))) := chg_set (Chg.refl _ _) (by simp)
 replace OK3 := Lib.hid (OK3.out.chg hch (fun x hx hx' => DK3.out x hx (by simp at hx'; subst hx'; simp)))
 replace FK3 := Lib.hid (fresh_mono (w' := (W3.setCell ⟨go, 4, none⟩ (.int .i64 (wrap64 (m - 10))))) FK3.out (Nat.le_refl _) hch.size)
 replace OK11 := Lib.hid (OK11.out.chg hch (fun x hx hx' => DK11.out x hx (by simp at hx'; subst hx'; simp)))
 replace FK11 := Lib.hid (fresh_mono (w' := (W3.setCell ⟨go, 4, none⟩ (.int .i64 (wrap64 (m - 10))))) FK11.out (Nat.le_refl _) hch.size)
 replace ON := Lib.hid (ON.out.chg hch (fun x hx hx' => DN.out x hx (by simp at hx'; subst hx'; simp)))
 replace FN := Lib.hid (fresh_mono (w' := (W3.setCell ⟨go, 4, none⟩ (.int .i64 (wrap64 (m - 10))))) FN.out (Nat.le_refl _) hch.size)
 replace hb : Below w.heap.size w (W3.setCell ⟨go, 4, none⟩ (.int .i64 (wrap64 (m - 10)))) := Below.chg hb hch hb.size (by simp; omega)
 have hzc := hch.size
 clear hch
 generalize W3.setCell ⟨go, 4, none⟩ (.int .i64 (wrap64 (m - 10))) = W4 at *
 have OC : OwCompany W4 (SK11 ++ SN) (.slice B1 cs.length k1) (.slice D3 (pl.length + 1) e3) cs (pl ++ [([], free)]) := ⟨_, _, rfl, OK11.out, ON.out⟩
 have OC' := OC
 clear OC
 have FC := Lib.hid (fresh_join FK11.out FN.out (J1N.out))
 have DC : Hid (∀ x ∈ SK11 ++ SN, x ∉ [w.heap.size, w.heap.size + 1, go]) := (fun x hx => (List.mem_append.1 hx).elim (DK11.out x) (DN.out x))
 have OC := Lib.hid (OC')
 clear OK11 FK11 DK11 ON FN DN
 obtain ⟨SC, hSC⟩ : ∃ T, SK11 ++ SN = T := ⟨_, rfl⟩
 rw [hSC] at OC FC DC
 clear OC'
 have JC3 : ∀ x ∈ SC, x ∉ SK3 := fun x hx => by
  rw [← hSC] at hx
  exact (List.mem_append.1 hx).elim (HJ13.out x) (JN3.out x)
 have HJC := Lib.hid JC3
 clear JC3
 have OP : OwTheatre W4 (SC ++ SK3) (.slice B1 cs.length k1) (.slice D3 (pl.length + 1) e3) (.slice B3 ds.length k3) cs (pl ++ [([], free)]) ds := ⟨_, _, rfl, OC.out, OK3.out⟩
 clear hSC
 have FQ := Lib.hid (fresh_join FC.out FK3.out (HJC.out))
 have DQ : Hid (∀ x ∈ SC ++ SK3, x ∉ [w.heap.size, w.heap.size + 1, go]) := (fun x hx => (List.mem_append.1 hx).elim (DC.out x) (DK3.out x))
 have OQ := Lib.hid (OP)
 clear OC FC DC OK3 FK3 DK3
 obtain ⟨SQ, hSQ⟩ : ∃ T, SC ++ SK3 = T := ⟨_, rfl⟩
 rw [hSQ] at OQ FQ DQ
 clear hSQ
 clear OP
 have c0 := (Lc 0 _ rfl).1
 have c1 := (Lc 1 _ rfl).1
 have c2 := (Lc 2 _ rfl).1
 have c3 := (Lc 3 _ rfl).1
 have c4 := (Lc 4 _ rfl).1
 have o0 := (Lo 0 _ rfl).1
 have o1 := (Lo 1 _ rfl).1
 have o2 := (Lo 2 _ rfl).1
 have o3 := (Lo 3 _ rfl).1
 have o4 := (Lo 4 _ rfl).1
 go_wp2_with fail
 refine (becomes_eq (B := w.heap.size + 1 + 1) (S := SQ) Hres.out (h.below hb) hsz OQ.out FQ.out (by have := hb.size; omega)).mono ?_
 rintro e W5 ⟨z1, z2, z3, T, rfl, owr, fr, q⟩
 clear c0 c1 c2 c3 c4 o0 o1 o2 o3 o4
 obtain ⟨⟨Z1, e1, rfl⟩, ⟨Z2, e2, rfl⟩, ⟨Z3, e3, rfl⟩⟩ := owr.rd.forms
 have hzq : W4.heap.size ≤ W5.heap.size := by have := q.size; (try simp at this); omega
 replace Lc := Lc.below q
 replace Lr := Lr.below q
 replace Lo := Lo.below q
 replace OQ := Lib.hid (OQ.out.below q)
 replace FQ := Lib.hid (fresh_mono (w' := W5) FQ.out (Nat.le_refl _) hzq)
 replace hb : Below w.heap.size w W5 := hb.trans (q.mono hb.size)
 clear q
 have FR := Lib.hid fr
 have OR := Lib.hid owr
 clear fr owr Hres
 have r0 := (Lr 0 _ rfl).1
 have rf0 := (Lr 0 _ rfl).2
 have r1 := (Lr 1 _ rfl).1
 have rf1 := (Lr 1 _ rfl).2
 have r2 := (Lr 2 _ rfl).1
 have rf2 := (Lr 2 _ rfl).2
 have r3 := (Lr 3 _ rfl).1
 have rf3 := (Lr 3 _ rfl).2
 have r4 := (Lr 4 _ rfl).1
 have rf4 := (Lr 4 _ rfl).2
 go_wp2_with fail
 refine bodyPost_ret (v := .tuple #[.agg #[.int .i64 rn, .slice Z1 rcs.length e1, .slice Z2 rpl.length e2, .slice Z3 rds.length e3, .int .i64 rm], .bool rb]) (by simp [results, Tryz.results34, go_sem, *]) rfl ⟨_, _, _, T, rfl, ?_, ?_, ?_⟩
 ·exact OR.out.chg (T := [w.heap.size + 1]) (by repeat' (with_reducible first | exact Chg.refl _ _ | refine qC ?_)) (fun x hx hx' => by have := (FR.out.2 x hx).1; simp at hx'; omega)
 ·exact fresh_mono FR.out (by omega) (by simp)
 ·exact Below.chg hb (S := [w.heap.size + 1]) (by repeat' (with_reducible first | exact Chg.refl _ _ | refine qC ?_)) hb.size (fun x hx => by simp at hx; omega)
open Go.RowKit
theorem own_dn {w : World} {B : Nat} {e : TypeId} {size n : Nat} {v : Value} {xs : List Value} (h : w.ownsRow B e size v n xs) (k : Nat) : (w.drewN k).ownsRow B e size v n xs := h
theorem lastC_get {out : List RCross} (h : 0 < out.length) : lastC out = out[out.length - 1] := by
 unfold lastC; rw [List.getD_eq_getElem?_getD, List.getElem?_eq_getElem (by omega)]; rfl
theorem red_keep {out : List RCross} {c : RCross} (h : undoB out c = false) : redStep out c = out ++ [c] := by rw [redStep, h]; rfl
theorem red_drop {out : List RCross} {c : RCross} (h : undoB out c = true) : redStep out c = out.take (out.length - 1) := by rw [redStep, h]; rfl
theorem undo_nil {out : List RCross} {c : RCross} (h : out.length = 0) : undoB out c = false := by rw [undoB, h]; rfl
theorem undo_at {out : List RCross} {c : RCross} {q : RCross} (hl : lastC out = q) (h : q.1 ≠ c.1) : undoB out c = false := by rw [undoB, hl, decide_eq_false h]; simp
theorem undo_fr {out : List RCross} {c : RCross} {q : RCross} (hl : lastC out = q) (h : q.2 = c.2) : undoB out c = false := by rw [undoB, hl, h]; simp
theorem undo_t {out : List RCross} {c : RCross} {q : RCross} (h0 : 0 < out.length) (hl : lastC out = q) (h1 : q.1 = c.1) (h2 : q.2 ≠ c.2) : undoB out c = true := by
 rw [undoB, hl, decide_eq_true h0, decide_eq_true h1]; simpa using h2
theorem own_take {w : World} {B : Nat} {A : Option Addr} {c : Nat} {out : List RCross} (h : w.ownsRow B 79 2 (.slice A out.length c) out.length (out.flatMap cCross)) (h0 : 0 < out.length) : w.ownsRow B 79 2 (.slice A (out.length - 1) c) (out.take (out.length - 1)).length ((out.take (out.length - 1)).flatMap cCross) := by
 have hl : (out.take (out.length - 1)).length = out.length - 1 := by rw [List.length_take]; omega
 rw [hl, flat_take cCross_len]
 exact own_prefix h (by omega) h0
set_option maxHeartbeats 8000000 in
set_option maxRecDepth 100000 in
theorem implReduced_any (n : Int) (v : Value) (cs : List RCross) (w : World) (h : RdL cCross 2 w v cs) (hl : cs.length ≤ 1048576) :
  Calls Tryz.prog 84 #[.int .i64 n, v] w fun e w' => ∃ v', e = .returned v' ∧ w'.ownsRow w.heap.size 79 2 v' (redL n cs).length ((redL n cs).flatMap cCross) ∧ Below w.heap.size w w' := by
 have h0 := h
 obtain ⟨A, c, rfl, h1, h2⟩ := h.form
 obtain ⟨i0, hi0, hz0, hz1, hz2⟩ := info_parts infoCross
 go_enter Tryz.func84, Tryz.ntmps84
 go_wp2_with fail
 refine twoB (implCrossesOk_any n _ cs _ h0) (fun w1 hq hb => ?_) (fun w1 hq hb => ?_)
 ·have hr := h0.below hb
  have hz1' := hb.size
  go_wp2_with fail
  go_loopw [5, 16] (fun q i wr => ∃ k : Nat, k ≤ cs.length ∧ i = .int .i64 k ∧ wr.ownsRow w1.heap.size 79 2 q (redF (cs.take k)).length ((redF (cs.take k)).flatMap cCross) ∧ Below w1.heap.size w1 wr) (fun _ i _ => cs.length - (intOf i).toNat)
  case atStart => exact ⟨0, Nat.zero_le _, rfl, World.ownsRow_made (size := 2) (e := 79) w1 #[] 0 (Nat.le_refl _) (by simp [maxLen]) rfl, by (repeat' (first | exact Below.refl _ _ | refine qS ?_ _ | refine qA ?_ _ | refine qD ?_ | refine qN ?_ _ | refine qT ?_ (by assumption)))⟩
  case round =>
   obtain ⟨k, hk, rfl, hown, hbr⟩ := hrel
   have hz := hbr.size
   by_cases hlt : k < cs.length
   ·obtain ⟨g, off, rfl, hg, hc⟩ := (hr.below hbr).cell cCross_len (by omega) hlt
    have k0 := hc 0 _ rfl
    have k1 := hc 1 _ rfl
    simp only [Nat.add_zero] at k0 k1
    clear hc
    have hol := redF_len cs k hk
    have Hsu := Lib.hid (redF_succ cs hlt)
    generalize redF (cs.take k) = out at *
    generalize hcc : cs[k] = cc at *
    clear hcc
    obtain ⟨ca, cf⟩ := cc
    by_cases hn : out.length = 0
    ·have Hst := Lib.hid (red_keep (c := (ca, cf)) (undo_nil hn))
     have hd : decide (0 < (out.length : Int)) = false := decide_eq_false (by omega)
     have hd' : decide (0 < out.length) = false := decide_eq_false (by omega)
     have hnn : (out.length : Int) ≤ 0 := by omega
     obtain ⟨A1, cap1, rfl, _, _⟩ := (RdS.of_own hown).form
     have Hn := Lib.hid hn
     clear hn
     go_wp2_with fail
     go_quiet (fail)
     rename_i nq
     go_wp2_with (at_builtin; refine wpList_appendR _ rfl (.tmp 50) (.tmp 52) _ rfl w1.heap.size 79 i0 _ 2 16 Tryz.underlying24 hi0 hz0 hz1 hz2 rfl (by omega) _ out.length (out.flatMap cCross) rfl (own_dn ((hown.alloc _)) nq |>.alloc _) _ 1 [.int .i64 ca, .bool cf] rfl (rdS_newAt ((wr.alloc _).drewN nq) (wr.heap.size + 1) (by simp) #[.int .i64 ca, .bool cf] _ 2 1 rfl (by simp [maxLen])) (by simp [Value.oneCell']) (by simp [maxLen]; omega) (by omega) (by simp; omega) ?_; intro v2 w2 hown2 hgr2)
     have hb2 := below_own ((own_dn (hown.alloc _) nq).alloc _) hgr2 (by simp; omega)
     clear hgr2
     go_wp2_with fail
     go_roundw
     case rel => exact ⟨k + 1, by omega, by go_num, by rw [Hsu.out, Hst.out, List.length_append, List.flatMap_append]; exact hown2, ((below_drewN (hbr.alloc hz _) nq).alloc (by simp; omega) _).trans hb2⟩
     case measure => simp [intOf]; omega
    ·have hon : 0 < out.length := by omega
     obtain ⟨g1, cap1, rfl⟩ := own_form hown hon
     have hcap : out.length ≤ cap1 := by obtain ⟨A', c', e, h1, _⟩ := (RdS.of_own hown).form; injection e with _ _ e3; omega
     have hrd : RdL cCross 2 wr (.slice (some ⟨g1, 0, none⟩) out.length cap1) out := RdS.of_own hown
     obtain ⟨g', off', hAA, hg1, hc1⟩ := hrd.cell (k := out.length - 1) cCross_len (by omega) (by omega)
     injection hAA with hAA
     injection hAA with e1 e2
     subst e1 e2
     have j0 := hc1 0 _ rfl
     have j1 := hc1 1 _ rfl
     simp only [Nat.add_zero, Nat.zero_add] at j0 j1
     clear hc1 hrd hn
     have hlo := lastC_get hon
     rw [← hlo] at j0 j1
     clear hlo
     obtain ⟨la, lf, hq2⟩ : ∃ la lf, lastC out = (la, lf) := ⟨_, _, rfl⟩
     rw [hq2] at j0 j1
     have Hq2 := Lib.hid hq2
     clear hq2
     have i0' := cell_alloc (.cells #[.int .i64 ca, .bool cf] 79) j0
     have i1' := cell_alloc (.cells #[.int .i64 ca, .bool cf] 79) j1
     have hw1 : IntKind.i64.wrap ((out.length : Int) - 1) = (out.length : Int) - 1 := IntWalk.i64_in _ (by omega)
     have hw2 : (0 : Int) ≤ (out.length : Int) - 1 := by omega
     have hw2' : (1 : Int) ≤ (out.length : Int) := by omega
     have hw4 : (out.length : Int) - 1 < (out.length : Int) := by omega
     have hw3 : ((out.length : Int) - 1).toNat = out.length - 1 := by omega
     have hd : decide (0 < (out.length : Int)) = true := decide_eq_true (by omega)
     by_cases hla : la = ca
     ·subst hla
      have hbe : (la == la) = true := by simp
      cases lf <;> cases cf
      ·have Hst := Lib.hid (red_keep (undo_fr (c := (la, false)) Hq2.out rfl))
       go_wp2_with fail
       go_quiet (fail)
       rename_i nq
       go_wp2_with (at_builtin; refine wpList_appendR _ rfl (.tmp 50) (.tmp 52) _ rfl w1.heap.size 79 i0 _ 2 16 Tryz.underlying24 hi0 hz0 hz1 hz2 rfl (by omega) _ out.length (out.flatMap cCross) rfl (own_dn ((hown.alloc _)) nq |>.alloc _) _ 1 [.int .i64 la, .bool false] rfl (rdS_newAt ((wr.alloc _).drewN nq) (wr.heap.size + 1) (by simp) #[.int .i64 la, .bool false] _ 2 1 rfl (by simp [maxLen])) (by simp [Value.oneCell']) (by simp [maxLen]; omega) (by omega) (by simp; omega) ?_; intro v2 w2 hown2 hgr2)
       have hb2 := below_own ((own_dn (hown.alloc _) nq).alloc _) hgr2 (by simp; omega)
       clear hgr2
       go_wp2_with fail
       go_roundw
       case rel => exact ⟨k + 1, by omega, by go_num, by rw [Hsu.out, Hst.out, List.length_append, List.flatMap_append]; exact hown2, ((below_drewN (hbr.alloc hz _) nq).alloc (by simp; omega) _).trans hb2⟩
       case measure => simp [intOf]; omega
      ·have Hst := Lib.hid (red_drop (undo_t (c := (la, true)) hon Hq2.out rfl (by simp)))
       go_wp2_with fail
       go_quiet (fail)
       rename_i nq
       go_wp2_with fail
       go_roundw
       case rel => exact ⟨k + 1, by omega, by go_num, by rw [Hsu.out, Hst.out]; exact own_dn ((own_take hown hon).alloc _) nq, below_drewN (hbr.alloc hz _) nq⟩
       case measure => simp [intOf]; omega
      ·have Hst := Lib.hid (red_drop (undo_t (c := (la, false)) hon Hq2.out rfl (by simp)))
       go_wp2_with fail
       go_quiet (fail)
       rename_i nq
       go_wp2_with fail
       go_roundw
       case rel => exact ⟨k + 1, by omega, by go_num, by rw [Hsu.out, Hst.out]; exact own_dn ((own_take hown hon).alloc _) nq, below_drewN (hbr.alloc hz _) nq⟩
       case measure => simp [intOf]; omega
      ·have Hst := Lib.hid (red_keep (undo_fr (c := (la, true)) Hq2.out rfl))
       go_wp2_with fail
       go_quiet (fail)
       rename_i nq
       go_wp2_with (at_builtin; refine wpList_appendR _ rfl (.tmp 50) (.tmp 52) _ rfl w1.heap.size 79 i0 _ 2 16 Tryz.underlying24 hi0 hz0 hz1 hz2 rfl (by omega) _ out.length (out.flatMap cCross) rfl (own_dn ((hown.alloc _)) nq |>.alloc _) _ 1 [.int .i64 la, .bool true] rfl (rdS_newAt ((wr.alloc _).drewN nq) (wr.heap.size + 1) (by simp) #[.int .i64 la, .bool true] _ 2 1 rfl (by simp [maxLen])) (by simp [Value.oneCell']) (by simp [maxLen]; omega) (by omega) (by simp; omega) ?_; intro v2 w2 hown2 hgr2)
       have hb2 := below_own ((own_dn (hown.alloc _) nq).alloc _) hgr2 (by simp; omega)
       clear hgr2
       go_wp2_with fail
       go_roundw
       case rel => exact ⟨k + 1, by omega, by go_num, by rw [Hsu.out, Hst.out, List.length_append, List.flatMap_append]; exact hown2, ((below_drewN (hbr.alloc hz _) nq).alloc (by simp; omega) _).trans hb2⟩
       case measure => simp [intOf]; omega
     ·have hbe : (la == ca) = false := by rw [beq_eq_false_iff_ne]; exact hla
      have Hst := Lib.hid (red_keep (undo_at (c := (ca, cf)) Hq2.out hla))
      clear hla
      go_wp2_with fail
      go_quiet (fail)
      rename_i nq
      go_wp2_with (at_builtin; refine wpList_appendR _ rfl (.tmp 50) (.tmp 52) _ rfl w1.heap.size 79 i0 _ 2 16 Tryz.underlying24 hi0 hz0 hz1 hz2 rfl (by omega) _ out.length (out.flatMap cCross) rfl (own_dn ((hown.alloc _)) nq |>.alloc _) _ 1 [.int .i64 ca, .bool cf] rfl (rdS_newAt ((wr.alloc _).drewN nq) (wr.heap.size + 1) (by simp) #[.int .i64 ca, .bool cf] _ 2 1 rfl (by simp [maxLen])) (by simp [Value.oneCell']) (by simp [maxLen]; omega) (by omega) (by simp; omega) ?_; intro v2 w2 hown2 hgr2)
      have hb2 := below_own ((own_dn (hown.alloc _) nq).alloc _) hgr2 (by simp; omega)
      clear hgr2
      go_wp2_with fail
      go_roundw
      case rel => exact ⟨k + 1, by omega, by go_num, by rw [Hsu.out, Hst.out, List.length_append, List.flatMap_append]; exact hown2, ((below_drewN (hbr.alloc hz _) nq).alloc (by simp; omega) _).trans hb2⟩
      case measure => simp [intOf]; omega
   ·obtain rfl : k = cs.length := by omega
    rw [List.take_length] at hown
    go_wp2_with fail
    go_ret
    refine ⟨_, rfl, ?_, hb.trans (hbr.mono hz1')⟩
    rw [redL, if_pos hq.out]
    exact own_mono hown hz1'
 ·go_wp2_with fail
  go_ret
  refine ⟨_, rfl, ?_, hb⟩
  rw [redL, if_neg (by rw [hq.out]; simp)]
  exact World.ownsRow_nil _ _ _ _
open Go.RowKit
def tidyC (n : Int) (cs : List RCross) (pl : List RPl) : List RCross := if companyB n cs pl = true then redL n cs else cs
theorem tidy_f {n : Int} {cs : List RCross} {pl : List RPl} {w w' : World} {e : Ending} (h : companyB n cs pl = false) (hr : ToCompany n cs pl w e w') : ToCompany n (tidyC n cs pl) pl w e w' := by rw [tidyC, h]; exact hr
theorem tidy_t {n : Int} {cs : List RCross} {pl : List RPl} {w w' : World} {e : Ending} (h : companyB n cs pl = true) (hr : ToCompany n (redL n cs) pl w e w') : ToCompany n (tidyC n cs pl) pl w e w' := by rw [tidyC, h]; exact hr
set_option maxHeartbeats 8000000 in
set_option maxRecDepth 100000 in
theorem implTidy_any (n : Int) (v1 v2 : Value) (cs : List RCross) (pl : List RPl) (w : World) (h : RdCompany w v1 v2 cs pl) (hsz : szCompany cs pl ≤ 1048576) :
  Calls Tryz.prog 62 #[.agg #[.int .i64 n, v1, v2]] w (ToCompany n (tidyC n cs pl) pl w) := by
 obtain ⟨⟨A1, n1, rfl⟩, ⟨A2, n2, rfl⟩⟩ := h.forms
 go_enter Tryz.func62, Tryz.ntmps62
 have hcl : cs.length ≤ 1048576 := by unfold szCompany at hsz; omega
 go_wp2_with fail
 refine (companyCopied_any n _ _ cs pl _ (h.below (by (repeat' (with_reducible first | exact Below.refl _ _ | assumption | refine qS ?_ _ | refine qA ?_ _ | refine qD ?_ | refine qN ?_ _)))) hsz).mono ?_
 rintro e W1 ⟨x1, x2, S, rfl, ow, f1, q⟩
 obtain ⟨⟨B1, k1, rfl⟩, ⟨B2, k2, rfl⟩⟩ := ow.rd.forms
 have Lc : Loc W1 (w.heap.size) [.int .i64 n, .slice A1 cs.length n1, .slice A2 pl.length n2] := by have := ((Loc.new w #[.int .i64 n, .slice A1 cs.length n1, .slice A2 pl.length n2] 27).alloc _).below q; simpa using this
 have Lr : Loc W1 (w.heap.size + 1) [.int .i64 0, .slice none 0 0, .slice none 0 0] := by have := (Loc.new (w.alloc (.cells #[.int .i64 n, .slice A1 cs.length n1, .slice A2 pl.length n2] 27)) #[.int .i64 0, .slice none 0 0, .slice none 0 0] 27).below q; simpa using this
 have hb : Below w.heap.size w W1 := Below.trans (by (repeat' (with_reducible first | exact Below.refl _ _ | assumption | refine qS ?_ _ | refine qA ?_ _ | refine qD ?_ | refine qN ?_ _))) (q.mono (by simp <;> omega))
 have hz0 : w.heap.size + 1 + 1 ≤ W1.heap.size := by have := q.size; simp at this; omega
 have hlow : w.heap.size + 1 + 1 ≤ (((w.alloc (.cells #[.int .i64 n, .slice A1 cs.length n1, .slice A2 pl.length n2] 27)).alloc (.cells #[.int .i64 0, .slice none 0 0, .slice none 0 0] 27))).heap.size := by first | exact Nat.le_refl _ | (simp; done) | (simp; omega) | omega
 have FK := Lib.hid (fresh_mono f1 hlow (Nat.le_refl _))
 have DK : Hid (∀ x ∈ S, x ∉ [w.heap.size, w.heap.size + 1]) := (fun x hx => by have := (FK.out.2 x hx).1; simp; omega)
 have OK := Lib.hid ow
 clear ow f1 hlow
 clear q
 go_upto_region 2 with (fail)
 replace Lc : Loc (W1.alloc (.cells #[.int .i64 n, .slice B1 cs.length k1, .slice B2 pl.length k2] 27)) (w.heap.size) [.int .i64 n, .slice A1 cs.length n1, .slice A2 pl.length n2] := Lc.alloc _
 replace Lr : Loc (W1.alloc (.cells #[.int .i64 n, .slice B1 cs.length k1, .slice B2 pl.length k2] 27)) (w.heap.size + 1) [.int .i64 0, .slice none 0 0, .slice none 0 0] := Lr.alloc _
 obtain ⟨go, hgo⟩ : ∃ g, W1.heap.size = g := ⟨_, rfl⟩
 have Lo : Loc (W1.alloc (.cells #[.int .i64 n, .slice B1 cs.length k1, .slice B2 pl.length k2] 27)) W1.heap.size [.int .i64 n, .slice B1 cs.length k1, .slice B2 pl.length k2] := Loc.new W1 #[.int .i64 n, .slice B1 cs.length k1, .slice B2 pl.length k2] 27
 rw [hgo] at Lo
 replace OK := Lib.hid (OK.out.below (w' := (W1.alloc (.cells #[.int .i64 n, .slice B1 cs.length k1, .slice B2 pl.length k2] 27))) ((Below.refl _ _).alloc (Nat.le_refl _) _))
 replace DK : Hid (∀ x ∈ S, x ∉ [w.heap.size, w.heap.size + 1, go]) := (fun x hx => by have := DK.out x hx; have := (FK.out.2 x hx).2; simp at *; omega)
 replace FK := Lib.hid (fresh_mono (w' := (W1.alloc (.cells #[.int .i64 n, .slice B1 cs.length k1, .slice B2 pl.length k2] 27))) FK.out (Nat.le_refl _) (by simp))
 replace hb : Below w.heap.size w (W1.alloc (.cells #[.int .i64 n, .slice B1 cs.length k1, .slice B2 pl.length k2] 27)) := hb.alloc hb.size _
 have hlto : go < (W1.alloc (.cells #[.int .i64 n, .slice B1 cs.length k1, .slice B2 pl.length k2] 27)).heap.size := by simp; omega
 have hne_c_o : w.heap.size < go := by omega
 have hne_r_o : w.heap.size + 1 < go := by omega
 generalize W1.alloc (.cells #[.int .i64 n, .slice B1 cs.length k1, .slice B2 pl.length k2] 27) = W2 at *
 rw [hgo]
 clear hgo
 have c0 := (Lc 0 _ rfl).1
 have c1 := (Lc 1 _ rfl).1
 have c2 := (Lc 2 _ rfl).1
 go_wp2_with fail
 refine twoB (implCompanyOk_any n _ _ cs pl _ (h.below hb)) (fun W3 hq q => ?_) (fun W3 hq q => ?_)
 ·skip
  clear c0 c1 c2
  have hzq : W2.heap.size ≤ W3.heap.size := by have := q.size; (try simp at this); omega
  replace Lc := Lc.below q
  replace Lr := Lr.below q
  replace Lo := Lo.below q
  replace OK := Lib.hid (OK.out.below q)
  replace FK := Lib.hid (fresh_mono (w' := W3) FK.out (Nat.le_refl _) hzq)
  replace hb : Below w.heap.size w W3 := hb.trans (q.mono hb.size)
  clear q
  obtain ⟨SK1, SK2, eK, oK, pK⟩ := OK.out
  have FKx := FK.out
  have DKx := DK.out
  rw [eK] at FKx DKx
  have OK1 := Lib.hid oK
  have OK2 := Lib.hid pK
  have FK1 := Lib.hid (fresh_left FKx)
  have FK2 := Lib.hid (fresh_right FKx)
  have DK1 : Hid (∀ x ∈ SK1, x ∉ [w.heap.size, w.heap.size + 1, go]) := (fun x hx => DKx x (List.mem_append_left _ hx))
  have DK2 : Hid (∀ x ∈ SK2, x ∉ [w.heap.size, w.heap.size + 1, go]) := (fun x hx => DKx x (List.mem_append_right _ hx))
  have JK : Hid (∀ x ∈ SK1, x ∉ SK2) := (nodup2 FKx.1).2.2.1
  clear OK FK DK FKx DKx oK pK
  have hU : ∀ x ∈ SK2, x < W3.heap.size := fun x hx => (FK2.out.2 x hx).2
  have c0 := (Lc 0 _ rfl).1
  have c1 := (Lc 1 _ rfl).1
  have c2 := (Lc 2 _ rfl).1
  go_wp2_with fail
  refine (implReduced_any n _ cs _ ((h.below hb).1) hcl).mono ?_
  rintro e W4 ⟨x, rfl, own, q⟩
  clear c0 c1 c2
  obtain ⟨B3, k3, rfl, _, _⟩ := (RdS.of_own own).form
  have f3 := fresh_of own
  have o3 : OwL 79 cCross 2 W4 _ (.slice B3 (redL n cs).length k3) (redL n cs) := OwL.mk_ own
  obtain ⟨SN, hSN⟩ : ∃ T, (Value.slice B3 (redL n cs).length k3).ownBlock.toList = T := ⟨_, rfl⟩
  rw [hSN] at o3 f3
  clear hSN own
  have hzq : W3.heap.size ≤ W4.heap.size := by have := q.size; (try simp at this); omega
  replace Lc := Lc.below q
  replace Lr := Lr.below q
  replace Lo := Lo.below q
  replace OK1 := Lib.hid (OK1.out.below q)
  replace FK1 := Lib.hid (fresh_mono (w' := W4) FK1.out (Nat.le_refl _) hzq)
  replace OK2 := Lib.hid (OK2.out.below q)
  replace FK2 := Lib.hid (fresh_mono (w' := W4) FK2.out (Nat.le_refl _) hzq)
  replace hb : Below w.heap.size w W4 := hb.trans (q.mono hb.size)
  have hlow : W3.heap.size ≤ W3.heap.size := by first | exact Nat.le_refl _ | (simp; done) | (simp; omega) | omega
  have FN := Lib.hid (fresh_mono f3 hlow (Nat.le_refl _))
  have DN : Hid (∀ x ∈ SN, x ∉ [w.heap.size, w.heap.size + 1, go]) := (fun x hx => by have := (FN.out.2 x hx).1; simp; omega)
  have ON := Lib.hid o3
  clear o3 f3 hlow
  clear q
  have hJ : ∀ x ∈ SN, x ∉ SK2 := fun x hx hx' => by have := (FN.out.2 x hx).1; have := hU x hx'; omega
  have HJ := Lib.hid hJ
  clear hJ hU
  have o1 := (Lo 1 _ rfl).1
  have of1 := (Lo 1 _ rfl).2
  go_upto_region 4 with (fail)
  clear o1 of1
  replace Lc := Lc.far (g := go) (i := 1) (u := .slice B3 (redL n cs).length k3) (by omega)
  replace Lr := Lr.far (g := go) (i := 1) (u := .slice B3 (redL n cs).length k3) (by omega)
  replace Lo : Loc (W4.setCell ⟨go, 1, none⟩ (.slice B3 (redL n cs).length k3)) (go) [.int .i64 n, .slice B3 (redL n cs).length k3, .slice B2 pl.length k2] := Lo.set (i := 1) (v := .slice B1 cs.length k1) rfl
  have hch : Chg [go] W4 (W4.setCell ⟨go, 1, none⟩ (.slice B3 (redL n cs).length k3)) := chg_set (Chg.refl _ _) (by simp)
  replace OK1 := Lib.hid (OK1.out.chg hch (fun x hx hx' => DK1.out x hx (by simp at hx'; subst hx'; simp)))
  replace FK1 := Lib.hid (fresh_mono (w' := (W4.setCell ⟨go, 1, none⟩ (.slice B3 (redL n cs).length k3))) FK1.out (Nat.le_refl _) hch.size)
  replace OK2 := Lib.hid (OK2.out.chg hch (fun x hx hx' => DK2.out x hx (by simp at hx'; subst hx'; simp)))
  replace FK2 := Lib.hid (fresh_mono (w' := (W4.setCell ⟨go, 1, none⟩ (.slice B3 (redL n cs).length k3))) FK2.out (Nat.le_refl _) hch.size)
  replace ON := Lib.hid (ON.out.chg hch (fun x hx hx' => DN.out x hx (by simp at hx'; subst hx'; simp)))
  replace FN := Lib.hid (fresh_mono (w' := (W4.setCell ⟨go, 1, none⟩ (.slice B3 (redL n cs).length k3))) FN.out (Nat.le_refl _) hch.size)
  replace hb : Below w.heap.size w (W4.setCell ⟨go, 1, none⟩ (.slice B3 (redL n cs).length k3)) := Below.chg hb hch hb.size (by simp; omega)
  have hzc := hch.size
  clear hch
  generalize W4.setCell ⟨go, 1, none⟩ (.slice B3 (redL n cs).length k3) = W5 at *
  clear OK1 FK1 DK1
  have FK2' := Lib.hid (fresh_mono (B' := w.heap.size + 1 + 1) FK2.out (by omega) (Nat.le_refl _))
  have FN' := Lib.hid (fresh_mono (B' := w.heap.size + 1 + 1) FN.out (by omega) (Nat.le_refl _))
  clear FK2 FN; have FK2 := FK2'; have FN := FN'; clear FK2' FN'
  have OP : OwCompany W5 (SN ++ SK2) (.slice B3 (redL n cs).length k3) (.slice B2 pl.length k2) (redL n cs) pl := ⟨_, _, rfl, ON.out, OK2.out⟩
  have FQ := Lib.hid (fresh_join FN.out FK2.out (HJ.out))
  have DQ : Hid (∀ x ∈ SN ++ SK2, x ∉ [w.heap.size, w.heap.size + 1, go]) := (fun x hx => (List.mem_append.1 hx).elim (DN.out x) (DK2.out x))
  have OQ := Lib.hid (OP)
  clear ON FN DN OK2 FK2 DK2
  obtain ⟨SQ, hSQ⟩ : ∃ T, SN ++ SK2 = T := ⟨_, rfl⟩
  rw [hSQ] at OQ FQ DQ
  clear hSQ
  clear OP
  have o0 := (Lo 0 _ rfl).1
  have o1 := (Lo 1 _ rfl).1
  have o2 := (Lo 2 _ rfl).1
  have r0 := (Lr 0 _ rfl).1
  have rf0 := (Lr 0 _ rfl).2
  have r1 := (Lr 1 _ rfl).1
  have rf1 := (Lr 1 _ rfl).2
  have r2 := (Lr 2 _ rfl).1
  have rf2 := (Lr 2 _ rfl).2
  go_wp2_with fail
  refine bodyPost_ret (v := .agg #[.int .i64 n, .slice B3 (redL n cs).length k3, .slice B2 pl.length k2]) (by simp [results, Tryz.results62, go_sem, *]) rfl (tidy_t hq.out ⟨_, _, SQ, rfl, ?_, ?_, ?_⟩)
  ·exact OQ.out.chg (T := [w.heap.size + 1]) (by repeat' (with_reducible first | exact Chg.refl _ _ | refine qC ?_)) (fun x hx hx' => DQ.out x hx (by simp at hx'; subst hx'; simp))
  ·exact fresh_mono FQ.out (by omega) (by simp)
  ·exact Below.chg hb (S := [w.heap.size + 1]) (by repeat' (with_reducible first | exact Chg.refl _ _ | refine qC ?_)) hb.size (fun x hx => by simp at hx; omega)
 ·skip
  clear c0 c1 c2
  have hzq : W2.heap.size ≤ W3.heap.size := by have := q.size; (try simp at this); omega
  replace Lc := Lc.below q
  replace Lr := Lr.below q
  replace Lo := Lo.below q
  replace OK := Lib.hid (OK.out.below q)
  replace FK := Lib.hid (fresh_mono (w' := W3) FK.out (Nat.le_refl _) hzq)
  replace hb : Below w.heap.size w W3 := hb.trans (q.mono hb.size)
  clear q
  have o0 := (Lo 0 _ rfl).1
  have o1 := (Lo 1 _ rfl).1
  have o2 := (Lo 2 _ rfl).1
  have r0 := (Lr 0 _ rfl).1
  have rf0 := (Lr 0 _ rfl).2
  have r1 := (Lr 1 _ rfl).1
  have rf1 := (Lr 1 _ rfl).2
  have r2 := (Lr 2 _ rfl).1
  have rf2 := (Lr 2 _ rfl).2
  go_wp2_with fail
  refine bodyPost_ret (v := .agg #[.int .i64 n, .slice B1 cs.length k1, .slice B2 pl.length k2]) (by simp [results, Tryz.results62, go_sem, *]) rfl (tidy_f hq.out ⟨_, _, S, rfl, ?_, ?_, ?_⟩)
  ·exact OK.out.chg (T := [w.heap.size + 1]) (by repeat' (with_reducible first | exact Chg.refl _ _ | refine qC ?_)) (fun x hx hx' => DK.out x hx (by simp at hx'; subst hx'; simp))
  ·exact fresh_mono FK.out (by omega) (by simp)
  ·exact Below.chg hb (S := [w.heap.size + 1]) (by repeat' (with_reducible first | exact Chg.refl _ _ | refine qC ?_)) hb.size (fun x hx => by simp at hx; omega)
open Go.RowKit
/- days -/
def addF (l : List Int) (d : Int) : List Int × Bool := if seasonB l = true ∧ seasonB (putF d l) = true then (putF d l, true) else (l, false)
theorem addF_t {l : List Int} {d : Int} (h1 : seasonB l = true) (h2 : seasonB (putF d l) = true) : addF l d = (putF d l, true) := if_pos ⟨h1, h2⟩
theorem addF_f1 {l : List Int} {d : Int} (h : seasonB l = false) : addF l d = (l, false) := if_neg (by rw [h]; simp)
theorem addF_f2 {l : List Int} {d : Int} (h : seasonB (putF d l) = false) : addF l d = (l, false) := if_neg (by rw [h]; simp)
/- players -/
def knowsB (p : RPl) (x : Int) : Bool := p.1.any (fun y => decide (y = x))
def teachB (pl : List RPl) (k p : Int) : Bool := ((playersB pl && inB k 0 (pl.length - 1)) && inB p 0 6) && !knowsB (pl.getD k.toNat ([], 0)) p
def teachF (pl : List RPl) (k p : Int) : List RPl × Bool := if teachB pl k p = true then (pl.set k.toNat (putF p (pl.getD k.toNat ([], 0)).1, (pl.getD k.toNat ([], 0)).2), true) else (pl, false)
theorem teachF_t {pl : List RPl} {k : Nat} {p : Int} (hk : k < pl.length) (h : teachB pl k p = true) : teachF pl k p = (pl.set k (putF p pl[k].1, pl[k].2), true) := by
 rw [teachF, if_pos h, show ((k : Int)).toNat = k from rfl, List.getD_eq_getElem?_getD, List.getElem?_eq_getElem hk]; rfl
theorem teachF_f {pl : List RPl} {k p : Int} (h : teachB pl k p = false) : teachF pl k p = (pl, false) := if_neg (by rw [h]; simp)
theorem teach_f1 {pl : List RPl} {k p : Int} (h : playersB pl = false) : teachB pl k p = false := by rw [teachB, h]; rfl
theorem teach_f2 {pl : List RPl} {k p : Int} (h : inB k 0 (pl.length - 1) = false) : teachB pl k p = false := by rw [teachB, h, Bool.and_false]; rfl
theorem teach_f3 {pl : List RPl} {k p : Int} (h : inB p 0 6 = false) : teachB pl k p = false := by rw [teachB, h, Bool.and_false]; rfl
theorem teach_v {pl : List RPl} {k : Nat} {p : Int} (hk : k < pl.length) (h1 : playersB pl = true) (h2 : inB k 0 (pl.length - 1) = true) (h3 : inB p 0 6 = true) : teachB pl k p = !knowsB pl[k] p := by
 rw [teachB, h1, h2, h3, show ((k : Int)).toNat = k from rfl, List.getD_eq_getElem?_getD, List.getElem?_eq_getElem hk]; rfl
def teachT (t : Th) (k p : Int) : Th × Bool := becF t ⟨t.n, wrap64 (t.m - 4), t.cs, (teachF t.pl k p).1, t.ds⟩ (teachF t.pl k p).2
open Go.RowKit
open Go.RowKit
def RetDays (r : List Int × Bool) (w : World) (e : Ending) (w' : World) : Prop := ∃ v S, e = .returned (.tuple #[v, .bool r.2]) ∧ OwL 3 cInt 1 w' S v r.1 ∧ Fresh w.heap.size w' S ∧ Below w.heap.size w w'
theorem retDays_of {r : List Int × Bool} {l : List Int} {b : Bool} {w w' : World} {v : Value} {B : Nat} (hr : r = (l, b)) (hown : w'.ownsRow B 3 1 v l.length (l.flatMap cInt)) (hB : w.heap.size ≤ B) (hb : Below w.heap.size w w') : RetDays r w (.returned (.tuple #[v, .bool b])) w' := by
 subst hr
 exact ⟨v, _, rfl, ⟨own_mono hown (Nat.zero_le _), rfl⟩, fresh_of (own_mono hown hB), hb⟩
set_option maxHeartbeats 1000000 in
theorem implAddShow_any (v : Value) (l : List Int) (d : Int) (w : World) (h : RdL cInt 1 w v l) (hl : l.length ≤ 1048576) :
  Calls Tryz.prog 63 #[v, .int .i64 d] w (RetDays (addF l d) w) := by
 have h0 := h
 obtain ⟨A, c, rfl, h1, h2⟩ := h.form
 go_enter Tryz.func63, Tryz.ntmps63
 go_wp2_with fail
 refine (put_any _ l d _ h0 (by omega)).mono ?_
 rintro e w1 ⟨v1, rfl, hown1, hb1⟩
 have h3 := h0.below hb1
 obtain ⟨A1, c1, rfl, _, _⟩ := (RdS.of_own hown1).form
 go_wp2_with fail
 refine twoB (implSeasonOk_any _ l _ h3) (fun w2 hq hb2 => ?_) (fun w2 hq hb2 => ?_)
 ·have hown2 := own_below hown1 hb2
  have h4 := h3.below hb2
  have hbb := bl_trans hb1 hb2
  go_wp2_with fail
  refine twoB (implSeasonOk_any _ (putF d l) _ (RdS.of_own hown2)) (fun w3 hq3 hb3 => ?_) (fun w3 hq3 hb3 => ?_)
  ·go_wp2_with fail
   go_ret2
   exact retDays_of (addF_t hq.out hq3.out) (own_below hown2 hb3) (Nat.le_refl _) (bl_trans hbb hb3)
  ·go_wp2_with fail
   refine (copyOf_any _ l _ (h4.below hb3) (by omega)).mono ?_
   rintro e w4 ⟨v4, rfl, hown4, hb4⟩
   obtain ⟨A4, c4, rfl, _, _⟩ := (RdS.of_own hown4).form
   have hz := (bl_trans hbb hb3).size
   go_wp2_with fail
   go_ret2
   exact retDays_of (addF_f2 hq3.out) hown4 hz (bl_trans (bl_trans hbb hb3) hb4)
 ·have hbb := bl_trans hb1 hb2
  have h4 := h3.below hb2
  have hz := hbb.size
  go_wp2_with fail
  refine (copyOf_any _ l _ h4 (by omega)).mono ?_
  rintro e w4 ⟨v4, rfl, hown4, hb4⟩
  obtain ⟨A4, c4, rfl, _, _⟩ := (RdS.of_own hown4).form
  go_wp2_with fail
  go_ret2
  exact retDays_of (addF_f1 hq.out) hown4 hz (bl_trans hbb hb4)
open Go.RowKit
theorem knows_idx (r : List Int) (x : Int) : knowsB (r, 0) x = true ↔ 0 ≤ idxF r x := by
 unfold knowsB
 rw [List.any_eq_true]
 constructor
 ·rintro ⟨y, hy, e⟩
  have := of_decide_eq_true e
  subst this
  rw [idxF_mem hy]; omega
 ·intro h
  apply Classical.byContradiction
  intro hno
  have : idxF r x = -1 := idxF_none (List.all_eq_true.2 (fun y hy => neB_t (fun e => hno ⟨y, hy, decide_eq_true e⟩)))
  omega
theorem knows_fst (p : RPl) (x : Int) : knowsB p x = knowsB (p.1, 0) x := rfl
theorem plBlocks_app (a b : List (Value × Int)) : plBlocks (a ++ b) = plBlocks a ++ plBlocks b := by unfold plBlocks blocksOf; rw [List.map_append, List.flatMap_append]
theorem plBlocks_cons (p : Value × Int) (b : List (Value × Int)) : plBlocks (p :: b) = p.1.ownBlock.toList ++ plBlocks b := by unfold plBlocks blocksOf; rw [List.map_cons, List.flatMap_cons]
theorem plBlocks_split {vs : List (Value × Int)} {k : Nat} (hk : k < vs.length) : plBlocks vs = plBlocks (vs.take k) ++ (vs[k].1.ownBlock.toList ++ plBlocks (vs.drop (k + 1))) := by
 rw [← plBlocks_cons, ← plBlocks_app, ← List.drop_eq_getElem_cons hk, List.take_append_drop]
theorem plBlocks_set {vs : List (Value × Int)} {k : Nat} (p : Value × Int) (hk : k < vs.length) : plBlocks (vs.set k p) = plBlocks (vs.take k) ++ (p.1.ownBlock.toList ++ plBlocks (vs.drop (k + 1))) := by
 rw [← plBlocks_cons, ← plBlocks_app, List.set_eq_take_append_cons_drop, if_pos hk]
theorem pls_set {w : World} {B : Nat} {vs : List (Value × Int)} {ll : List RPl} {g c : Nat} {u : Value} {r : List Int} {Sk : List Nat} {k : Nat} (hl : vs.length = ll.length)
  (hown : w.ownsRow 0 55 2 (.slice (some ⟨g, 0, none⟩) vs.length c) vs.length (vs.flatMap cPl)) (hrows : PlsOwn w vs ll) (hf : Fresh B w (g :: plBlocks vs)) (hk : OwL 3 cInt 1 w Sk u r) (hfk : Fresh B w Sk)
  (hd : ∀ b ∈ g :: plBlocks vs, b ∉ Sk) (hkl : k < ll.length) :
  OwPls (w.setCell ⟨g, k * 2, none⟩ u) (g :: plBlocks (vs.set k (u, (ll[k]).2))) (.slice (some ⟨g, 0, none⟩) vs.length c) (ll.set k (r, (ll[k]).2)) ∧ Fresh B (w.setCell ⟨g, k * 2, none⟩ u) (g :: plBlocks (vs.set k (u, (ll[k]).2))) := by
 have hkv : k < vs.length := by omega
 have hch : Chg [g] w (w.setCell ⟨g, k * 2, none⟩ u) := chg_set (Chg.refl _ _) (by simp)
 have hSk := hk.2
 subst hSk
 obtain ⟨e2, _⟩ := hrows k vs[k] ll[k] (List.getElem?_eq_getElem hkv) (List.getElem?_eq_getElem hkl)
 have hnd := List.nodup_cons.1 hf.1
 have hsz := hch.size
 refine ⟨⟨vs.set k (u, (ll[k]).2), by simp [hl], ?_, ?_, ?_⟩, ?_, ?_⟩
 ·have h1 := (hown.stored (k * 2) u).1
  have h2 := flat_set (f := cPl) (size := 2) cPl_len vs k hkv 0 (by omega) u (u, (ll[k]).2) (by rw [← e2]; rfl)
  rw [Nat.add_zero] at h2
  rw [h2] at h1
  rw [List.length_set]
  exact h1
 ·intro i p r' hp hr'
  by_cases hi : k = i
  ·subst hi
   rw [List.getElem?_set_self hkv] at hp
   rw [List.getElem?_set_self hkl] at hr'
   cases hp; cases hr'
   exact ⟨rfl, own_chg hk.1 hch (fun b hb hb' => by simp at hb'; subst hb'; exact hd b List.mem_cons_self hb)⟩
  ·rw [List.getElem?_set_ne hi] at hp
   rw [List.getElem?_set_ne hi] at hr'
   obtain ⟨h1, h2⟩ := hrows i p r' hp hr'
   exact ⟨h1, own_chg h2 hch (fun b hb hb' => by simp at hb'; subst hb'; exact hnd.1 (mem_plBlocks hp b hb))⟩
 ·simp [Value.ownBlock]
 ·rw [plBlocks_set _ hkv]
  rw [plBlocks_split hkv] at hnd hd
  obtain ⟨n1, n2, d1, d2⟩ := nodup2 hnd.2
  obtain ⟨n3, n4, d3, d4⟩ := nodup2 n2
  rw [List.nodup_cons]
  refine ⟨fun hm => ?_, List.nodup_append.2 ⟨n1, List.nodup_append.2 ⟨hfk.1, n4, fun b hb b' hb' e => ?_⟩, fun b hb b' hb' e => ?_⟩⟩
  ·rcases List.mem_append.1 hm with hm | hm
   ·exact hnd.1 (List.mem_append_left _ hm)
   ·rcases List.mem_append.1 hm with hm | hm
    ·exact hd g List.mem_cons_self hm
    ·exact hnd.1 (List.mem_append_right _ (List.mem_append_right _ hm))
  ·subst e
   exact hd b (List.mem_cons_of_mem _ (List.mem_append_right _ (List.mem_append_right _ hb'))) hb
  ·subst e
   rcases List.mem_append.1 hb' with hb' | hb'
   ·exact hd b (List.mem_cons_of_mem _ (List.mem_append_left _ hb)) hb'
   ·exact d1 b hb (List.mem_append_right _ hb')
 ·intro b hb
  rw [plBlocks_set _ hkv] at hb
  have hsub : b ∈ g :: plBlocks vs ∨ b ∈ u.ownBlock.toList := by
   rw [plBlocks_split hkv]
   rcases List.mem_cons.1 hb with rfl | hb
   ·exact .inl List.mem_cons_self
   ·rcases List.mem_append.1 hb with hb | hb
    ·exact .inl (List.mem_cons_of_mem _ (List.mem_append_left _ hb))
    ·rcases List.mem_append.1 hb with hb | hb
     ·exact .inr hb
     ·exact .inl (List.mem_cons_of_mem _ (List.mem_append_right _ (List.mem_append_right _ hb)))
  rcases hsub with h | h
  ·have := hf.2 b h; omega
  ·have := hfk.2 b h; omega
theorem pls_set' {w : World} {B n : Nat} {vs : List (Value × Int)} {ll : List RPl} {g c : Nat} {u : Value} {r : List Int} {Sk : List Nat} {k : Nat} (hn : n = vs.length) (hl : vs.length = ll.length)
  (hown : w.ownsRow 0 55 2 (.slice (some ⟨g, 0, none⟩) n c) n (vs.flatMap cPl)) (hrows : PlsOwn w vs ll) (hf : Fresh B w (g :: plBlocks vs)) (hk : OwL 3 cInt 1 w Sk u r) (hfk : Fresh B w Sk)
  (hd : ∀ b ∈ g :: plBlocks vs, b ∉ Sk) (hkl : k < ll.length) :
  OwPls (w.setCell ⟨g, k * 2, none⟩ u) (g :: plBlocks (vs.set k (u, (ll[k]).2))) (.slice (some ⟨g, 0, none⟩) n c) (ll.set k (r, (ll[k]).2)) ∧ Fresh B (w.setCell ⟨g, k * 2, none⟩ u) (g :: plBlocks (vs.set k (u, (ll[k]).2))) := by
 subst hn
 exact pls_set hl hown hrows hf hk hfk hd hkl
def RetPls (r : List RPl × Bool) (w : World) (e : Ending) (w' : World) : Prop := ∃ v S, e = .returned (.tuple #[v, .bool r.2]) ∧ OwPls w' S v r.1 ∧ Fresh w.heap.size w' S ∧ Below w.heap.size w w'
theorem retPls_of {r : List RPl × Bool} {l : List RPl} {b : Bool} {w w' : World} {v : Value} {S : List Nat} {B : Nat} (hr : r = (l, b)) (hown : OwPls w' S v l) (hf : Fresh B w' S) (hB : w.heap.size ≤ B) (hb : Below w.heap.size w w') : RetPls r w (.returned (.tuple #[v, .bool b])) w' := by
 subst hr
 exact ⟨v, S, rfl, hown, fresh_mono hf hB (Nat.le_refl _), hb⟩
theorem teach_len (pl : List RPl) (k p : Int) : (teachF pl k p).1.length = pl.length := by unfold teachF; split <;> simp
set_option maxHeartbeats 4000000 in
set_option maxRecDepth 100000 in
theorem implTeachPuppet_any (v : Value) (pl : List RPl) (k p : Int) (w : World) (h : RdPls w v pl) (hl : plsTot pl ≤ 1048576) :
  Calls Tryz.prog 58 #[v, .int .i64 k, .int .i64 p] w (RetPls (teachF pl k p) w) := by
 have h0 := h
 obtain ⟨A, c, rfl, h1, h2⟩ := h.form
 have hpl : pl.length ≤ 1048576 := by unfold plsTot at hl; omega
 go_enter Tryz.func58, Tryz.ntmps58
 go_wp2_with fail
 refine (copyPlayers_any _ pl _ h0 hl).mono ?_
 rintro e w1 ⟨v1, S, rfl, ow, f1, hb1⟩
 have h3 := h0.below hb1
 obtain ⟨A1, c1, rfl, hlc1, _⟩ := ow.rd.form
 have Ow := Lib.hid ow
 clear ow h
 go_wp2_with fail
 refine twoB (implPlayersOk_any _ pl _ h3) (fun w2 hq hb2 => ?_) (fun w2 hq hb2 => ?_)
 ·have hbb := bl_trans hb1 hb2
  have h4 := h3.below hb2
  have f2 := fresh_mono f1 (Nat.le_refl _) hb2.size
  have ow2 := Lib.hid (Ow.out.below hb2)
  clear h3 f1 Ow hb1 hb2
  go_wp2_with fail
  refine two (within_any _ _ _ _) (fun hk => ?_) (fun hk => ?_)
  ·have hkb := inB_iff.1 hk.out
   obtain ⟨n, rfl⟩ := Int.eq_ofNat_of_zero_le hkb.1
   have hn : n < pl.length := by omega
   go_wp2_with fail
   refine two (within_any _ _ _ _) (fun hp => ?_) (fun hp => ?_)
   ·have hpb := inB_iff.1 hp.out
    obtain ⟨g, off, u, rfl, hg, k0, k1, hru⟩ := h4.cell hn
    have htv := teach_v (p := p) hn hq.out hk.out hp.out
    have hkn := knows_idx pl[n].1 p
    have hsr : pl[n].1.length ≤ 16777216 := by
     have hqq := hq.out
     rw [playersB, Bool.and_eq_true, List.all_eq_true] at hqq
     have := hqq.1 _ (List.getElem_mem hn)
     rw [playerB, Bool.and_eq_true] at this
     have := strict_len (m := 6) this.1
     omega
    obtain ⟨Au, cu, rfl, _, _⟩ := hru.form
    have hcon := fun (W : World) (hr : RdL cInt 1 W (.slice Au pl[n].1.length cu) pl[n].1) => indexOf_any (.slice Au pl[n].1.length cu) pl[n].1 p W hr
    go_wp2_with fail
    refine (hcon _ hru).mono ?_
    rintro e w3 ⟨rfl, rfl⟩
    by_cases hkk : 0 ≤ idxF pl[n].1 p
    ·have hte : teachB pl n p = false := by rw [htv, knows_fst, hkn.2 hkk]; rfl
     have Hte := Lib.hid hte
     clear htv hkn hte hcon
     generalize idxF pl[n].1 p = ix at *
     go_wp2_with fail
     go_ret2
     exact retPls_of (teachF_f Hte.out) ow2.out f2 (Nat.le_refl _) hbb
    ·have hte : teachB pl n p = true := by
      rw [htv, knows_fst]
      cases e : knowsB (pl[n].1, 0) p
      ·rfl
      ·exact absurd (hkn.1 e) hkk
     have Hte := Lib.hid (teachF_t hn hte)
     have hkk' : idxF pl[n].1 p < 0 := by omega
     clear htv hkn hte hcon
     generalize idxF pl[n].1 p = ix at *
     go_wp2_with fail
     refine (put_any _ pl[n].1 p _ hru hsr).mono ?_
     rintro e w4 ⟨v4, rfl, hown4, hb4⟩
     obtain ⟨vs, hvl, hown, hrows, eS⟩ := ow2.out.below hb4
     have f4 := fresh_mono f2 (Nat.le_refl _) hb4.size
     obtain ⟨g1, cap1, e1⟩ := own_form hown (by omega)
     injection e1 with e11 e12 e13
     subst e11 e13
     rw [← e12] at hown
     have hgs : S = g1 :: plBlocks vs := eS
     have hlow := f2.2
     rw [hgs] at f4 hlow
     have hk4 : OwL 3 cInt 1 w4 v4.ownBlock.toList v4 (putF p pl[n].1) := ⟨own_mono hown4 (Nat.zero_le _), rfl⟩
     have hw2 := hbb.size
     have hf4 : Fresh w.heap.size w4 v4.ownBlock.toList := fresh_mono (fresh_of hown4) hw2 (Nat.le_refl _)
     have hset := pls_set' e12 hvl hown hrows f4 hk4 hf4 (fun b hb hb' => by have := (hlow b hb).2; have := (hown4.lt b (by simpa using hb')).1; omega) hn
     have hxl := hown.1
     obtain ⟨u0, k9⟩ : ∃ u, w4.cell? ⟨g1, n * 2, none⟩ = some u := ⟨_, (hown.cellAt (n * 2) (by omega)).trans (List.getElem?_eq_getElem (by omega))⟩
     have f9 := hown.frozenAt (n * 2)
     have hb9 : Below w.heap.size w (w4.setCell ⟨g1, n * 2, none⟩ v4) := (bl_trans hbb hb4).setCell (by have := (hlow g1 List.mem_cons_self).1; omega) _
     have Hset := Lib.hid hset
     obtain ⟨A4, c4, rfl, _, _⟩ := (RdS.of_own hown4).form
     clear hset hown hrows f4 hk4 hf4 hlow eS hxl hown4 e12 hvl
     go_wp2_with fail
     go_ret2
     exact retPls_of Hte.out Hset.out.1 Hset.out.2 (Nat.le_refl _) hb9
   ·have Hte := Lib.hid (teach_f3 (pl := pl) (k := n) hp.out)
    go_wp2_with fail
    go_ret2
    exact retPls_of (teachF_f Hte.out) ow2.out f2 (Nat.le_refl _) hbb
  ·have Hte := Lib.hid (teach_f2 (p := p) hk.out)
   go_wp2_with fail
   go_ret2
   exact retPls_of (teachF_f Hte.out) ow2.out f2 (Nat.le_refl _) hbb
 ·have Hte := Lib.hid (teach_f1 (k := k) (p := p) hq.out)
  go_wp2_with fail
  go_ret2
  exact retPls_of (teachF_f Hte.out) (Ow.out.below hb2) (fresh_mono f1 (Nat.le_refl _) hb2.size) (Nat.le_refl _) (bl_trans hb1 hb2)
open Go.RowKit
open Go.RowKit
set_option maxHeartbeats 8000000 in
set_option maxRecDepth 100000 in
theorem implTeachPlayer_any (n m kx px : Int) (v1 v2 v3 : Value) (cs : List RCross) (pl : List RPl) (ds : List Int) (w : World) (h : RdTheatre w v1 v2 v3 cs pl ds) (hsz : szTheatre cs pl ds ≤ 1048576) :
  Calls Tryz.prog 35 #[.agg #[.int .i64 n, v1, v2, v3, .int .i64 m], .int .i64 kx, .int .i64 px] w (RetTh w.heap.size (teachT ⟨n, m, cs, pl, ds⟩ kx px) w) := by
 obtain ⟨⟨A1, n1, rfl⟩, ⟨A2, n2, rfl⟩, ⟨A3, n3, rfl⟩⟩ := h.forms
 have hszp : plsTot pl ≤ 1048576 := by unfold szTheatre szCompany at hsz; omega
 unfold teachT
 obtain ⟨⟨⟨rn, rm, rcs, rpl, rds⟩, rb⟩, hres⟩ : ∃ res, becF ⟨n, m, cs, pl, ds⟩ ⟨n, wrap64 (m - 4), cs, (teachF pl kx px).1, ds⟩ (teachF pl kx px).2 = res := ⟨_, rfl⟩
 rw [hres]
 change Calls _ _ _ _ (RetT w.heap.size rn rm rb rcs rpl rds w)
 have Hres := Lib.hid hres
 clear hres
 go_enter Tryz.func35, Tryz.ntmps35
 go_wp2_with fail
 refine (theatreCopied_any n m _ _ _ cs pl ds _ (h.below (by (repeat' (with_reducible first | exact Below.refl _ _ | assumption | refine qS ?_ _ | refine qA ?_ _ | refine qD ?_ | refine qN ?_ _)))) hsz).mono ?_
 rintro e W1 ⟨x1, x2, x3, S, rfl, ow, f1, q⟩
 obtain ⟨⟨B1, k1, rfl⟩, ⟨B2, k2, rfl⟩, ⟨B3, k3, rfl⟩⟩ := ow.rd.forms
 have Lc : Loc W1 (w.heap.size) [.int .i64 n, .slice A1 cs.length n1, .slice A2 pl.length n2, .slice A3 ds.length n3, .int .i64 m] := by have := ((Loc.new w #[.int .i64 n, .slice A1 cs.length n1, .slice A2 pl.length n2, .slice A3 ds.length n3, .int .i64 m] 30).alloc _).below q; simpa using this
 have Lr : Loc W1 (w.heap.size + 1) [.int .i64 0, .slice none 0 0, .slice none 0 0, .slice none 0 0, .int .i64 0] := by have := (Loc.new (w.alloc (.cells #[.int .i64 n, .slice A1 cs.length n1, .slice A2 pl.length n2, .slice A3 ds.length n3, .int .i64 m] 30)) #[.int .i64 0, .slice none 0 0, .slice none 0 0, .slice none 0 0, .int .i64 0] 30).below q; simpa using this
 have hb : Below w.heap.size w W1 := Below.trans (by (repeat' (with_reducible first | exact Below.refl _ _ | assumption | refine qS ?_ _ | refine qA ?_ _ | refine qD ?_ | refine qN ?_ _))) (q.mono (by simp <;> omega))
 have hz0 : w.heap.size + 1 + 1 ≤ W1.heap.size := by have := q.size; simp at this; omega
 have hlow : w.heap.size + 1 + 1 ≤ (((w.alloc (.cells #[.int .i64 n, .slice A1 cs.length n1, .slice A2 pl.length n2, .slice A3 ds.length n3, .int .i64 m] 30)).alloc (.cells #[.int .i64 0, .slice none 0 0, .slice none 0 0, .slice none 0 0, .int .i64 0] 30))).heap.size := by first | exact Nat.le_refl _ | (simp; done) | (simp; omega) | omega
 have FK := Lib.hid (fresh_mono f1 hlow (Nat.le_refl _))
 have DK : Hid (∀ x ∈ S, x ∉ [w.heap.size, w.heap.size + 1]) := (fun x hx => by have := (FK.out.2 x hx).1; simp; omega)
 have OK := Lib.hid ow
 clear ow f1 hlow
 clear q
 go_upto_region 2 with (fail)
 replace Lc : Loc (W1.alloc (.cells #[.int .i64 n, .slice B1 cs.length k1, .slice B2 pl.length k2, .slice B3 ds.length k3, .int .i64 m] 30)) (w.heap.size) [.int .i64 n, .slice A1 cs.length n1, .slice A2 pl.length n2, .slice A3 ds.length n3, .int .i64 m] := Lc.alloc _
 replace Lr : Loc (W1.alloc (.cells #[.int .i64 n, .slice B1 cs.length k1, .slice B2 pl.length k2, .slice B3 ds.length k3, .int .i64 m] 30)) (w.heap.size + 1) [.int .i64 0, .slice none 0 0, .slice none 0 0, .slice none 0 0, .int .i64 0] := Lr.alloc _
 obtain ⟨go, hgo⟩ : ∃ g, W1.heap.size = g := ⟨_, rfl⟩
 have Lo : Loc (W1.alloc (.cells #[.int .i64 n, .slice B1 cs.length k1, .slice B2 pl.length k2, .slice B3 ds.length k3, .int .i64 m] 30)) W1.heap.size [.int .i64 n, .slice B1 cs.length k1, .slice B2 pl.length k2, .slice B3 ds.length k3, .int .i64 m] := Loc.new W1 #[.int .i64 n, .slice B1 cs.length k1, .slice B2 pl.length k2, .slice B3 ds.length k3, .int .i64 m] 30
 rw [hgo] at Lo
 replace OK := Lib.hid (OK.out.below (w' := (W1.alloc (.cells #[.int .i64 n, .slice B1 cs.length k1, .slice B2 pl.length k2, .slice B3 ds.length k3, .int .i64 m] 30))) ((Below.refl _ _).alloc (Nat.le_refl _) _))
 replace DK : Hid (∀ x ∈ S, x ∉ [w.heap.size, w.heap.size + 1, go]) := (fun x hx => by have := DK.out x hx; have := (FK.out.2 x hx).2; simp at *; omega)
 replace FK := Lib.hid (fresh_mono (w' := (W1.alloc (.cells #[.int .i64 n, .slice B1 cs.length k1, .slice B2 pl.length k2, .slice B3 ds.length k3, .int .i64 m] 30))) FK.out (Nat.le_refl _) (by simp))
 replace hb : Below w.heap.size w (W1.alloc (.cells #[.int .i64 n, .slice B1 cs.length k1, .slice B2 pl.length k2, .slice B3 ds.length k3, .int .i64 m] 30)) := hb.alloc hb.size _
 have hlto : go < (W1.alloc (.cells #[.int .i64 n, .slice B1 cs.length k1, .slice B2 pl.length k2, .slice B3 ds.length k3, .int .i64 m] 30)).heap.size := by simp; omega
 have hne_c_o : w.heap.size < go := by omega
 have hne_r_o : w.heap.size + 1 < go := by omega
 generalize W1.alloc (.cells #[.int .i64 n, .slice B1 cs.length k1, .slice B2 pl.length k2, .slice B3 ds.length k3, .int .i64 m] 30) = W2 at *
 rw [hgo]
 clear hgo
 obtain ⟨SK1, SK3, eK, oK, pK⟩ := OK.out
 have FKx := FK.out
 have DKx := DK.out
 rw [eK] at FKx DKx
 have OK1 := Lib.hid oK
 have OK3 := Lib.hid pK
 have FK1 := Lib.hid (fresh_left FKx)
 have FK3 := Lib.hid (fresh_right FKx)
 have DK1 : Hid (∀ x ∈ SK1, x ∉ [w.heap.size, w.heap.size + 1, go]) := (fun x hx => DKx x (List.mem_append_left _ hx))
 have DK3 : Hid (∀ x ∈ SK3, x ∉ [w.heap.size, w.heap.size + 1, go]) := (fun x hx => DKx x (List.mem_append_right _ hx))
 have JK : Hid (∀ x ∈ SK1, x ∉ SK3) := (nodup2 FKx.1).2.2.1
 clear OK FK DK FKx DKx oK pK
 obtain ⟨SK11, SK12, eK1, oK1, pK1⟩ := OK1.out
 have FK1x := FK1.out
 have DK1x := DK1.out
 rw [eK1] at FK1x DK1x
 have OK11 := Lib.hid oK1
 have OK12 := Lib.hid pK1
 have FK11 := Lib.hid (fresh_left FK1x)
 have FK12 := Lib.hid (fresh_right FK1x)
 have DK11 : Hid (∀ x ∈ SK11, x ∉ [w.heap.size, w.heap.size + 1, go]) := (fun x hx => DK1x x (List.mem_append_left _ hx))
 have DK12 : Hid (∀ x ∈ SK12, x ∉ [w.heap.size, w.heap.size + 1, go]) := (fun x hx => DK1x x (List.mem_append_right _ hx))
 have JK1 : Hid (∀ x ∈ SK11, x ∉ SK12) := (nodup2 FK1x.1).2.2.1
 clear OK1 FK1 DK1 FK1x DK1x oK1 pK1
 have hU1 : ∀ x ∈ SK11, x < W2.heap.size := fun x hx => (FK11.out.2 x hx).2
 have hU3 : ∀ x ∈ SK3, x < W2.heap.size := fun x hx => (FK3.out.2 x hx).2
 have hJ13 : ∀ x ∈ SK11, x ∉ SK3 := fun x hx hx' => JK.out x (by rw [eK1]; exact List.mem_append_left _ hx) hx'
 have HJ13 := Lib.hid hJ13
 clear hJ13
 have o2 := (Lo 2 _ rfl).1
 go_wp2_with fail
 refine (implTeachPuppet_any _ pl kx px _ OK12.out.rd hszp).mono ?_
 rintro e W3 ⟨x4, SX, rfl, ox, fx, q⟩
 clear o2
 obtain ⟨C1, l1, rfl, _, _⟩ := ox.rd.form
 have hzq : W2.heap.size ≤ W3.heap.size := by have := q.size; (try simp at this); omega
 replace Lc := Lc.below q
 replace Lr := Lr.below q
 replace Lo := Lo.below q
 replace OK3 := Lib.hid (OK3.out.below q)
 replace FK3 := Lib.hid (fresh_mono (w' := W3) FK3.out (Nat.le_refl _) hzq)
 replace OK11 := Lib.hid (OK11.out.below q)
 replace FK11 := Lib.hid (fresh_mono (w' := W3) FK11.out (Nat.le_refl _) hzq)
 replace OK12 := Lib.hid (OK12.out.below q)
 replace FK12 := Lib.hid (fresh_mono (w' := W3) FK12.out (Nat.le_refl _) hzq)
 replace hb : Below w.heap.size w W3 := hb.trans (q.mono hb.size)
 have hlow : W2.heap.size ≤ W2.heap.size := by first | exact Nat.le_refl _ | (simp; done) | (simp; omega) | omega
 have FX := Lib.hid (fresh_mono fx hlow (Nat.le_refl _))
 have DX : Hid (∀ x ∈ SX, x ∉ [w.heap.size, w.heap.size + 1, go]) := (fun x hx => by have := (FX.out.2 x hx).1; simp; omega)
 have OX := Lib.hid ox
 clear ox fx hlow
 clear q
 have hlt := teach_len pl kx px
 generalize (teachF pl kx px).2 = okc at *
 generalize (teachF pl kx px).1 = pl' at *
 clear hlt
 have J1X : Hid (∀ x ∈ SK11, x ∉ SX) := (fun x hx hx' => by have := (FX.out.2 x hx').1; have := hU1 x hx; omega)
 have JX3 : Hid (∀ x ∈ SX, x ∉ SK3) := (fun x hx hx' => by have := (FX.out.2 x hx).1; have := hU3 x hx'; omega)
 clear hU1 hU3
 clear OK12 FK12 DK12
 have o0 := (Lo 0 _ rfl).1
 have of0 := (Lo 0 _ rfl).2
 have o1 := (Lo 1 _ rfl).1
 have of1 := (Lo 1 _ rfl).2
 have o2 := (Lo 2 _ rfl).1
 have of2 := (Lo 2 _ rfl).2
 have o3 := (Lo 3 _ rfl).1
 have of3 := (Lo 3 _ rfl).2
 have o4 := (Lo 4 _ rfl).1
 have of4 := (Lo 4 _ rfl).2
 go_upto_region 4 with (fail)
 clear o0 of0 o1 of1 o2 of2 o3 of3 o4 of4
 replace Lc := Lc.far (g := go) (i := 2) (u := .slice C1 pl'.length l1) (by omega)
 replace Lr := Lr.far (g := go) (i := 2) (u := .slice C1 pl'.length l1) (by omega)
 replace Lo : Loc (W3.setCell ⟨go, 2, none⟩ (.slice C1 pl'.length l1)) (go) [.int .i64 n, .slice B1 cs.length k1, .slice C1 pl'.length l1, .slice B3 ds.length k3, .int .i64 m] := Lo.set (i := 2) (v := .slice B2 pl.length k2) rfl
 have hch : Chg [go] W3 (W3.setCell ⟨go, 2, none⟩ (.slice C1 pl'.length l1)) := chg_set (Chg.refl _ _) (by simp)
 replace OK3 := Lib.hid (OK3.out.chg hch (fun x hx hx' => DK3.out x hx (by simp at hx'; subst hx'; simp)))
 replace FK3 := Lib.hid (fresh_mono (w' := (W3.setCell ⟨go, 2, none⟩ (.slice C1 pl'.length l1))) FK3.out (Nat.le_refl _) hch.size)
 replace OK11 := Lib.hid (OK11.out.chg hch (fun x hx hx' => DK11.out x hx (by simp at hx'; subst hx'; simp)))
 replace FK11 := Lib.hid (fresh_mono (w' := (W3.setCell ⟨go, 2, none⟩ (.slice C1 pl'.length l1))) FK11.out (Nat.le_refl _) hch.size)
 replace OX := Lib.hid (OX.out.chg hch (fun x hx hx' => DX.out x hx (by simp at hx'; subst hx'; simp)))
 replace FX := Lib.hid (fresh_mono (w' := (W3.setCell ⟨go, 2, none⟩ (.slice C1 pl'.length l1))) FX.out (Nat.le_refl _) hch.size)
 replace hb : Below w.heap.size w (W3.setCell ⟨go, 2, none⟩ (.slice C1 pl'.length l1)) := Below.chg hb hch hb.size (by simp; omega)
 have hzc := hch.size
 clear hch
 generalize W3.setCell ⟨go, 2, none⟩ (.slice C1 pl'.length l1) = W4 at *
 have o4 := (Lo 4 _ rfl).1
 have c4 := (Lc 4 _ rfl).1
 have of4 := (Lo 4 _ rfl).2
 go_upto_region 5 with (fail)
 clear o4 c4 of4
 replace Lc := Lc.far (g := go) (i := 4) (u := .int .i64 (wrap64 (m - 4))) (by omega)
 replace Lr := Lr.far (g := go) (i := 4) (u := .int .i64 (wrap64 (m - 4))) (by omega)
 replace Lo : Loc (W4.setCell ⟨go, 4, none⟩ (.int .i64 (wrap64 (m - 4)))) (go) [.int .i64 n, .slice B1 cs.length k1, .slice C1 pl'.length l1, .slice B3 ds.length k3, .int .i64 (wrap64 (m - 4))] := Lo.set (i := 4) (v := .int .i64 m) rfl
 have hch : Chg [go] W4 (W4.setCell ⟨go, 4, none⟩ (.int .i64 (wrap64 (m - 4)))) := chg_set (Chg.refl _ _) (by simp)
 replace OK3 := Lib.hid (OK3.out.chg hch (fun x hx hx' => DK3.out x hx (by simp at hx'; subst hx'; simp)))
 replace FK3 := Lib.hid (fresh_mono (w' := (W4.setCell ⟨go, 4, none⟩ (.int .i64 (wrap64 (m - 4))))) FK3.out (Nat.le_refl _) hch.size)
 replace OK11 := Lib.hid (OK11.out.chg hch (fun x hx hx' => DK11.out x hx (by simp at hx'; subst hx'; simp)))
 replace FK11 := Lib.hid (fresh_mono (w' := (W4.setCell ⟨go, 4, none⟩ (.int .i64 (wrap64 (m - 4))))) FK11.out (Nat.le_refl _) hch.size)
 replace OX := Lib.hid (OX.out.chg hch (fun x hx hx' => DX.out x hx (by simp at hx'; subst hx'; simp)))
 replace FX := Lib.hid (fresh_mono (w' := (W4.setCell ⟨go, 4, none⟩ (.int .i64 (wrap64 (m - 4))))) FX.out (Nat.le_refl _) hch.size)
 replace hb : Below w.heap.size w (W4.setCell ⟨go, 4, none⟩ (.int .i64 (wrap64 (m - 4)))) := Below.chg hb hch hb.size (by simp; omega)
 have hzc := hch.size
 clear hch
 generalize W4.setCell ⟨go, 4, none⟩ (.int .i64 (wrap64 (m - 4))) = W5 at *
 replace FX := Lib.hid (fresh_mono (B' := w.heap.size + 1 + 1) FX.out (by omega) (Nat.le_refl _))
 have OC : OwCompany W5 (SK11 ++ SX) (.slice B1 cs.length k1) (.slice C1 pl'.length l1) cs pl' := ⟨_, _, rfl, OK11.out, OX.out⟩
 have FC := Lib.hid (fresh_join FK11.out FX.out (J1X.out))
 have DC : Hid (∀ x ∈ SK11 ++ SX, x ∉ [w.heap.size, w.heap.size + 1, go]) := (fun x hx => (List.mem_append.1 hx).elim (DK11.out x) (DX.out x))
 have OC := Lib.hid (OC)
 clear OK11 FK11 DK11 OX FX DX
 obtain ⟨SC, hSC⟩ : ∃ T, SK11 ++ SX = T := ⟨_, rfl⟩
 rw [hSC] at OC FC DC
 have JC3 : ∀ x ∈ SC, x ∉ SK3 := fun x hx => by
  rw [← hSC] at hx
  exact (List.mem_append.1 hx).elim (HJ13.out x) (JX3.out x)
 have HJC := Lib.hid JC3
 clear JC3 hSC
 have OP : OwTheatre W5 (SC ++ SK3) (.slice B1 cs.length k1) (.slice C1 pl'.length l1) (.slice B3 ds.length k3) cs pl' ds := ⟨_, _, rfl, OC.out, OK3.out⟩
 have FQ := Lib.hid (fresh_join FC.out FK3.out (HJC.out))
 have DQ : Hid (∀ x ∈ SC ++ SK3, x ∉ [w.heap.size, w.heap.size + 1, go]) := (fun x hx => (List.mem_append.1 hx).elim (DC.out x) (DK3.out x))
 have OQ := Lib.hid (OP)
 clear OC FC DC OK3 FK3 DK3
 obtain ⟨SQ, hSQ⟩ : ∃ T, SC ++ SK3 = T := ⟨_, rfl⟩
 rw [hSQ] at OQ FQ DQ
 clear hSQ
 clear OP
 have c0 := (Lc 0 _ rfl).1
 have c1 := (Lc 1 _ rfl).1
 have c2 := (Lc 2 _ rfl).1
 have c3 := (Lc 3 _ rfl).1
 have c4 := (Lc 4 _ rfl).1
 have o0 := (Lo 0 _ rfl).1
 have o1 := (Lo 1 _ rfl).1
 have o2 := (Lo 2 _ rfl).1
 have o3 := (Lo 3 _ rfl).1
 have o4 := (Lo 4 _ rfl).1
 go_wp2_with fail
 refine (becomes_eq (B := w.heap.size + 1 + 1) (S := SQ) Hres.out (h.below hb) hsz OQ.out FQ.out (by have := hb.size; omega)).mono ?_
 rintro e W6 ⟨z1, z2, z3, T, rfl, owr, fr, q⟩
 clear c0 c1 c2 c3 c4 o0 o1 o2 o3 o4
 obtain ⟨⟨Z1, e1, rfl⟩, ⟨Z2, e2, rfl⟩, ⟨Z3, e3, rfl⟩⟩ := owr.rd.forms
 have hzq : W5.heap.size ≤ W6.heap.size := by have := q.size; (try simp at this); omega
 replace Lc := Lc.below q
 replace Lr := Lr.below q
 replace Lo := Lo.below q
 replace OQ := Lib.hid (OQ.out.below q)
 replace FQ := Lib.hid (fresh_mono (w' := W6) FQ.out (Nat.le_refl _) hzq)
 replace hb : Below w.heap.size w W6 := hb.trans (q.mono hb.size)
 clear q
 have FR := Lib.hid fr
 have OR := Lib.hid owr
 clear fr owr Hres
 have r0 := (Lr 0 _ rfl).1
 have rf0 := (Lr 0 _ rfl).2
 have r1 := (Lr 1 _ rfl).1
 have rf1 := (Lr 1 _ rfl).2
 have r2 := (Lr 2 _ rfl).1
 have rf2 := (Lr 2 _ rfl).2
 have r3 := (Lr 3 _ rfl).1
 have rf3 := (Lr 3 _ rfl).2
 have r4 := (Lr 4 _ rfl).1
 have rf4 := (Lr 4 _ rfl).2
 go_wp2_with fail
 refine bodyPost_ret (v := .tuple #[.agg #[.int .i64 rn, .slice Z1 rcs.length e1, .slice Z2 rpl.length e2, .slice Z3 rds.length e3, .int .i64 rm], .bool rb]) (by simp [results, Tryz.results35, go_sem, *]) rfl ⟨_, _, _, T, rfl, ?_, ?_, ?_⟩
 ·exact OR.out.chg (T := [w.heap.size + 1]) (by repeat' (with_reducible first | exact Chg.refl _ _ | refine qC ?_)) (fun x hx hx' => by have := (FR.out.2 x hx).1; simp at hx'; omega)
 ·exact fresh_mono FR.out (by omega) (by simp)
 ·exact Below.chg hb (S := [w.heap.size + 1]) (by repeat' (with_reducible first | exact Chg.refl _ _ | refine qC ?_)) hb.size (fun x hx => by simp at hx; omega)
open Go.RowKit
set_option maxHeartbeats 2000000 in
set_option maxRecDepth 100000 in
theorem sameInts_any (v v' : Value) (a b : List Int) (w : World) (h : RdL cInt 1 w v a) (hq : RdL cInt 1 w v' b) :
    Calls Tryz.prog 10 #[v, v'] w fun e w' => e = .returned (.bool (decide (a = b))) ∧ Below w.heap.size w w' := by
  obtain ⟨A, c, rfl, h1, h2⟩ := h.form
  obtain ⟨A', c', rfl, h1', h2'⟩ := hq.form
  by_cases hl : a.length = b.length
  · go_enter Tryz.func10, Tryz.ntmps10
    go_wp2_with fail
    go_loopw [5] (fun i wr => ∃ k : Nat, k ≤ a.length ∧ i = .int .i64 k ∧ Hid (∀ j, j < k → a.getD j 0 = b.getD j 0) ∧ Below w.heap.size w wr) (fun i _ => a.length - (intOf i).toNat)
    case atStart => exact ⟨0, Nat.zero_le _, rfl, fun j hj => absurd hj (by omega), by (repeat' (first | exact Below.refl _ _ | refine qS ?_ _ | refine qA ?_ _ | refine qD ?_ | refine qN ?_ _ | refine qT ?_ (by assumption)))⟩
    case round =>
      obtain ⟨k, hk, rfl, hall, hb⟩ := hrel
      have hz := hb.size
      by_cases hlt : k < a.length
      · have hltb : k < b.length := by omega
        obtain ⟨g, off, rfl, hg, hc⟩ := (h.below hb).cell cInt_len (by omega) hlt
        have k0 := hc 0 _ rfl
        obtain ⟨g', off', rfl, hg', hc'⟩ := (hq.below hb).cell cInt_len (by omega) hltb
        have k2 := hc' 0 _ rfl
        simp only [Nat.add_zero, Nat.mul_one] at k0 k2
        clear hc hc'
        by_cases he : a[k] = b[k]
        · have he' : (a[k] != b[k]) = false := by rw [bne_eq_false_iff_eq]; exact he
          have He := Lib.hid he
          clear he
          go_wp2_with fail
          go_quiet (fail)
          go_wp2_with fail
          go_roundw
          case rel => exact ⟨k + 1, by omega, by go_num, (fun j hj => by
            rcases Nat.lt_succ_iff_lt_or_eq.1 hj with h | rfl
            · exact hall.out j h
            · rw [getD_at hlt, getD_at hltb]; exact He.out), by (repeat' (first | exact Below.refl _ _ | refine qS ?_ _ | refine qA ?_ _ | refine qD ?_ | refine qN ?_ _ | refine qT ?_ (by assumption)))⟩
          case measure => simp [intOf]; omega
        · have he' : (a[k] != b[k]) = true := by rw [bne_iff_ne]; exact he
          have He := Lib.hid he
          clear he
          go_wp2_with fail
          go_quiet (fail)
          go_wp2_with fail
          go_ret
          exact ⟨ret_bool (decide_eq_false (fun e => He.out (by subst e; rfl))).symm, by (repeat' (first | exact Below.refl _ _ | refine qS ?_ _ | refine qA ?_ _ | refine qD ?_ | refine qN ?_ _ | refine qT ?_ (by assumption)))⟩
      · go_wp2_with fail
        go_ret
        exact ⟨ret_bool (decide_eq_true (ext_getD hl (fun j hj => hall.out j (by omega)))).symm, by (repeat' (first | exact Below.refl _ _ | refine qS ?_ _ | refine qA ?_ _ | refine qD ?_ | refine qN ?_ _ | refine qT ?_ (by assumption)))⟩
  · go_enter Tryz.func10, Tryz.ntmps10
    go_wp2_with fail
    go_ret
    exact ⟨ret_bool (decide_eq_false (fun e => hl (by rw [e]))).symm, by (repeat' (first | exact Below.refl _ _ | refine qS ?_ _ | refine qA ?_ _ | refine qD ?_ | refine qN ?_ _ | refine qT ?_ (by assumption)))⟩
open Go.RowKit
theorem chg_low {w V W' : World} {g : Nat} {S : List Nat} (h : Chg [g] w V) (hc : Chg S V W') (hS : ∀ b ∈ S, b = g ∨ w.heap.size ≤ b) : Chg [g] w W' :=
 ⟨hc.os.trans h.os, hc.tape.trans h.tape, hc.output.trans h.output, Nat.le_trans h.size hc.size, fun k hk hn => (hc.block k (Nat.lt_of_lt_of_le hk h.size) (fun hm => (hS k hm).elim (fun e => hn (by simp [e])) (fun e => by omega))).trans (h.block k hk hn)⟩
theorem chg_drew {S : List Nat} {w w' : World} (h : Chg S w w') : Chg S w w'.drew := ⟨h.os, h.tape, h.output, h.size, h.block⟩
def CrossPost (w0 w : World) (g : Nat) (A : Option Addr) (c : Nat) (bs : List Int) (e : Ending) (w' : World) : Prop :=
 ∃ (n : Nat) (v : Value) (l : List RCross), e = .returned (.tuple #[.int .i64 n, v]) ∧ w'.ownsRow w.heap.size 79 2 v l.length (l.flatMap cCross) ∧ (2 ≤ n ∧ n ≤ 5) ∧ l.length ≤ 9 ∧ (∀ t ∈ l, 0 ≤ t.1 ∧ t.1 ≤ (n : Int) - 2) ∧ Cur w0 w' g A c bs ∧ Chg [g] w w'
set_option maxHeartbeats 4000000 in
set_option maxRecDepth 100000 in
theorem l08List_any (w0 w : World) (g : Nat) (A : Option Addr) (c : Nat) (bs : List Int) (hcur : Cur w0 w g A c bs) :
  Calls Tryz.prog 72 #[.pointer (some ⟨g, 0, none⟩)] w (CrossPost w0 w g A c bs) := by
 have hglt := hcur.lt
 have hw0 := hcur.below.size
 obtain ⟨i0, hi0, hz0, hz1, hz2⟩ := info_parts infoCross
 go_enter Tryz.func72, Tryz.ntmps72
 go_wp2_with fail
 refine (l01Below_any 4 w0 w g A c bs hcur (by omega) (by omega)).mono ?_
 rintro e w1 ⟨r, rfl, ⟨hr0, hr1⟩, hc1, hch1⟩
 obtain ⟨p, rfl⟩ := Int.eq_ofNat_of_zero_le hr0
 have hp4 : p < 4 := by omega
 have hz1' := hch1.size
 go_wp2_with fail
 have hn : 2 + (p : Int) = ((2 + p : Nat) : Int) := by omega
 try rw [hn]
 obtain ⟨n, hn'⟩ : ∃ n, 2 + p = n := ⟨_, rfl⟩
 have hn25 : 2 ≤ n ∧ n ≤ 5 := by omega
 try rw [hn']
 clear hn hn' hr0 hr1 hp4
 refine (l01Below_any 10 w0 _ g A c bs (hc1.keep ((Below.refl _ _).alloc (Nat.le_refl _) _)) (by omega) (by omega)).mono ?_
 rintro e w2 ⟨r2, rfl, ⟨hr20, hr21⟩, hc2, hch2⟩
 obtain ⟨m, rfl⟩ := Int.eq_ofNat_of_zero_le hr20
 have hm9 : m ≤ 9 := by omega
 have hown0 := own_chg (World.ownsRow_made (size := 2) (e := 79) w1 #[] 0 hz1' (by simp [maxLen]) rfl) hch2 (by simp [Value.ownBlock]; omega)
 have hch12 := (hch1.alloc (.cells #[] 79)).trans hch2
 clear hr20 hr21 hch1 hch2 hc1 hz1'
 go_wp2_with fail
 go_loopw [5, 6] (fun q i wr => ∃ (k : Nat) (l : List RCross), k ≤ m ∧ i = .int .i64 ((m - k : Nat) : Int) ∧ Hid (l.length = k) ∧ wr.ownsRow w.heap.size 79 2 q l.length (l.flatMap cCross) ∧ Hid (∀ t ∈ l, 0 ≤ t.1 ∧ t.1 ≤ (n : Int) - 2) ∧ Cur w0 wr g A c bs ∧ Chg [g] w wr) (fun _ i _ => (intOf i).toNat)
 case atStart => exact ⟨0, [], Nat.zero_le _, rfl, rfl, hown0, by simp [Hid], hc2, hch12⟩
 case round =>
  obtain ⟨k, l, hk, rfl, hl, hown, hval, hc, hch⟩ := hrel
  clear hown0 hc2 hch12
  have hzw := hch.size
  obtain ⟨Aq, cq, rfl, _, _⟩ := (RdS.of_own hown).form
  by_cases hlt : k < m
  ·obtain ⟨q, hq⟩ : ∃ q, m - k = q + 1 := ⟨m - k - 1, by omega⟩
   rw [hq]
   have Hm := Lib.hid hq
   have hll := hl.out
   have hl9 : l.length < 9 := by omega
   have hl' := Lib.hid hll
   have hq9 : q ≤ 9 := by omega
   clear hll hl hq
   go_wp2_with fail
   refine (l01Below_any ((n : Int) - 1) w0 wr g A c bs hc (by omega) (by omega)).mono ?_
   rintro e w3 ⟨xa, rfl, ⟨ha0, ha1⟩, hc3, hch3⟩
   have hown3 := own_draw hown hch3 hglt
   have hchw3 := hch.trans hch3
   have HA : Hid (0 ≤ xa ∧ xa ≤ (n : Int) - 2) := (by show _ ∧ _; omega)
   clear hown hc hch hch3 ha0 ha1
   go_wp2_with fail
   refine (l01Once_any 2 w0 w3 g A c bs hc3 (by omega) (by omega)).mono ?_
   rintro e w4 ⟨xf, rfl, hc4, hch4⟩
   have hown4 := own_draw hown3 hch4 hglt
   have hchw4 := hchw3.trans hch4
   have hz4 := hchw4.size
   clear hown3 hc3 hchw3 hch4
   go_upto_region 7 with (fail)
   have Lb : Loc (w4.alloc (.cells #[.int .i64 xa, .bool xf] 79)) w4.heap.size [.int .i64 xa, .bool xf] := Loc.new w4 #[.int .i64 xa, .bool xf] 79
   have hal : Below w4.heap.size w4 (w4.alloc (.cells #[.int .i64 xa, .bool xf] 79)) := (Below.refl _ _).alloc (Nat.le_refl _) _
   have hc5 := hc4.keep hal
   have hch5 := hchw4.trans (Chg.of_below hal _)
   have hown5 := own_below hown4 hal
   have hzb : w4.heap.size < (w4.alloc (.cells #[.int .i64 xa, .bool xf] 79)).heap.size := by simp
   have hgb : g ≠ w4.heap.size := by omega
   have hbw : w.heap.size ≤ w4.heap.size := hz4
   have hqb : ∀ b ∈ (Value.slice Aq l.length cq).ownBlock.toList, b ≠ w4.heap.size := fun b hb => by have := (hown4.lt b (by simpa using hb)).2; omega
   obtain ⟨xb, hxb⟩ : ∃ xb, w4.heap.size = xb := ⟨_, rfl⟩
   rw [hxb] at Lb hzb hgb hbw hqb
   generalize w4.alloc (.cells #[.int .i64 xa, .bool xf] 79) = V at *
   try rw [hxb]
   clear hal hc4 hchw4 hown4 hz4 hxb
   have HQB := Lib.hid hqb
   clear hqb
   by_cases h0 : 0 < l.length
   ·obtain ⟨t, ht⟩ : ∃ t, l.length = t + 1 := ⟨l.length - 1, by omega⟩
    have hd : decide (0 < l.length) = true := decide_eq_true h0
    have k0 := (Lb 0 _ rfl).1
    have k1 := (Lb 1 _ rfl).1
    have hdI : decide ((0 : Int) < (l.length : Int)) = true := decide_eq_true (by omega)
    have Ht := Lib.hid ht
    clear ht
    go_wp2_with fail
    refine (l01Once_any 3 w0 V g A c bs hc5 (by omega) (by omega)).mono ?_
    rintro e w6 ⟨b, rfl, hc6, hch6⟩
    have hown6 := own_draw hown5 hch6 hglt
    have Lb6 := Lb.chg hch6 (by simpa using hgb.symm)
    have hchw6 := hch5.trans hch6
    clear k0 k1 hown5 hc5 hch5 hch6 Lb
    cases b
    ·have HO := Lib.hid hown6
     have HC := Lib.hid hc6
     have HCH := Lib.hid hchw6
     have k0 := (Lb6 0 _ rfl).1
     have k1 := (Lb6 1 _ rfl).1
     clear hown6 hc6 hchw6
     have hownW := HO.out
     have hcW := HC.out
     have hchW := HCH.out
     go_wp2_with (at_builtin; refine wpList_appendR _ rfl (.tmp 48) (.tmp 50) _ rfl w.heap.size 79 i0 _ 2 16 Tryz.underlying24 hi0 hz0 hz1 hz2 rfl (by omega) _ l.length (l.flatMap cCross) rfl (hownW.alloc _) _ 1 [.int .i64 xa, .bool xf] rfl (rdS_new w6 #[.int .i64 xa, .bool xf] _ 2 1 rfl (by simp [maxLen])) (by simp [Value.oneCell']) (by simp [maxLen]; omega) (by omega) (by have := hchW.size; simp; omega) ?_; intro v3 w3 hown3 hgr3)
     have hch3 := chg_of_own (hchW.alloc (.cells #[.int .i64 xa, .bool xf] 79)) (hownW.alloc _) hgr3
     have hc3 := cur_own (hcW.keep ((Below.refl _ _).alloc (Nat.le_refl _) (.cells #[.int .i64 xa, .bool xf] 79))) (hownW.alloc _) hgr3 hglt hw0
     go_wp2_with fail
     go_roundw
     case rel =>
      refine ⟨k + 1, l ++ [(xa, xf)], by omega, int_eq (by have := Hm.out; omega), by show _ = _; rw [List.length_append, hl'.out]; rfl, ?_, ?_, hc3, hch3⟩
      ·rw [List.length_append, List.flatMap_append]; exact hown3
      ·intro t ht
       rcases List.mem_append.1 ht with h | h
       ·exact hval.out t h
       ·simp at h; subst h; exact HA.out
     case measure => simp [intOf]
    ·have k0 := (Lb6 0 _ rfl).1
     have k1 := (Lb6 1 _ rfl).1
     have f0 := (Lb6 0 _ rfl).2
     have f1 := (Lb6 1 _ rfl).2
     obtain ⟨gq, cq', e⟩ := own_form hown6 h0
     injection e with e1 e2 e3
     subst e1 e3
     clear e2
     have hq' : t < l.length := by have := Ht.out; omega
     obtain ⟨gq', oq, e, _, hcell⟩ := RdL.cell (RdS.of_own hown6) cCross_len (by omega) hq'
     injection e with e
     injection e with e1 e2 e3
     subst e1 e2
     clear e3
     have r0 := hcell 0 _ rfl
     have r1 := hcell 1 _ rfl
     simp only [Nat.add_zero, Nat.zero_add] at r0 r1
     have HV := Lib.hid (hval.out _ (List.getElem_mem hq'))
     have hw1 : IntKind.i64.wrap ((l.length : Int) - 1) = (t : Int) := by rw [IntWalk.i64_in _ (by omega)]; have := Ht.out; omega
     have ht1 : (t : Int) < (l.length : Int) := by omega
     have ht0 : (0 : Int) ≤ (t : Int) := by omega
     have htn : ((t : Int)).toNat = t := by omega
     clear hcell
     generalize l[t] = lt at *
     obtain ⟨la, lf⟩ := lt
     simp only at r0 r1
     go_wp2_with fail
     go_still_tail 16, (by kernel_rfl)
     change wpList _ _ _ _ _ w6.drew
     go_upto_region 9 with (fail)
     have hst : Chg [xb] w6 ((w6.setCell ⟨xb, 0, none⟩ (.int .i64 la)).setCell ⟨xb, 1, none⟩ (.bool !lf)).drew := chg_drew (by repeat' (with_reducible first | exact Chg.refl _ _ | refine qC ?_))
     have LbN := ((Lb6.set (i := 0) (u := .int .i64 la) (v := .int .i64 xa) rfl).set (i := 1) (u := .bool !lf) (v := .bool xf) rfl).drew
     have HC := Lib.hid (hc6.chg hst (by simpa using hgb) (by simp; omega))
     have HCH := Lib.hid (chg_low hchw6 hst (by simp; omega))
     have HO := Lib.hid (own_chg hown6 hst (fun b hb => by simpa using HQB.out b hb))
     clear k0 k1 f0 f1 r0 r1 hown6 hc6 hchw6 Lb6 hst hw1 ht1 ht0 htn HA
     generalize ((w6.setCell ⟨xb, 0, none⟩ (.int .i64 la)).setCell ⟨xb, 1, none⟩ (.bool !lf)).drew = W at *
     have k0 := (LbN 0 _ rfl).1
     have k1 := (LbN 1 _ rfl).1
     have hownW := HO.out
     have hcW := HC.out
     have hchW := HCH.out
     go_wp2_with (at_builtin; refine wpList_appendR _ rfl (.tmp 48) (.tmp 50) _ rfl w.heap.size 79 i0 _ 2 16 Tryz.underlying24 hi0 hz0 hz1 hz2 rfl (by omega) _ l.length (l.flatMap cCross) rfl (hownW.alloc _) _ 1 [.int .i64 la, .bool (!lf)] rfl (rdS_new W #[.int .i64 la, .bool (!lf)] _ 2 1 rfl (by simp [maxLen])) (by simp [Value.oneCell']) (by simp [maxLen]; omega) (by omega) (by have := hchW.size; simp; omega) ?_; intro v3 w3 hown3 hgr3)
     have hch3 := chg_of_own (hchW.alloc (.cells #[.int .i64 la, .bool (!lf)] 79)) (hownW.alloc _) hgr3
     have hc3 := cur_own (hcW.keep ((Below.refl _ _).alloc (Nat.le_refl _) (.cells #[.int .i64 la, .bool (!lf)] 79))) (hownW.alloc _) hgr3 hglt hw0
     go_wp2_with fail
     go_roundw
     case rel =>
      refine ⟨k + 1, l ++ [(la, (!lf))], by omega, int_eq (by have := Hm.out; omega), by show _ = _; rw [List.length_append, hl'.out]; rfl, ?_, ?_, hc3, hch3⟩
      ·rw [List.length_append, List.flatMap_append]; exact hown3
      ·intro t ht
       rcases List.mem_append.1 ht with h | h
       ·exact hval.out t h
       ·simp at h; subst h; exact HV.out
     case measure => simp [intOf]
   ·have hd : decide (0 < l.length) = false := decide_eq_false h0
    have k0 := (Lb 0 _ rfl).1
    have k1 := (Lb 1 _ rfl).1
    have HO := Lib.hid hown5
    have HC := Lib.hid hc5
    have HCH := Lib.hid hch5
    have hownW := HO.out
    have hcW := HC.out
    have hchW := HCH.out
    go_wp2_with (at_builtin; refine wpList_appendR _ rfl (.tmp 48) (.tmp 50) _ rfl w.heap.size 79 i0 _ 2 16 Tryz.underlying24 hi0 hz0 hz1 hz2 rfl (by omega) _ l.length (l.flatMap cCross) rfl (hownW.alloc _) _ 1 [.int .i64 xa, .bool xf] rfl (rdS_new V #[.int .i64 xa, .bool xf] _ 2 1 rfl (by simp [maxLen])) (by simp [Value.oneCell']) (by simp [maxLen]; omega) (by omega) (by have := hchW.size; simp; omega) ?_; intro v3 w3 hown3 hgr3)
    have hch3 := chg_of_own (hchW.alloc (.cells #[.int .i64 xa, .bool xf] 79)) (hownW.alloc _) hgr3
    have hc3 := cur_own (hcW.keep ((Below.refl _ _).alloc (Nat.le_refl _) (.cells #[.int .i64 xa, .bool xf] 79))) (hownW.alloc _) hgr3 hglt hw0
    go_wp2_with fail
    go_roundw
    case rel =>
     refine ⟨k + 1, l ++ [(xa, xf)], by omega, int_eq (by have := Hm.out; omega), by show _ = _; rw [List.length_append, hl'.out]; rfl, ?_, ?_, hc3, hch3⟩
     ·rw [List.length_append, List.flatMap_append]; exact hown3
     ·intro t ht
      rcases List.mem_append.1 ht with h | h
      ·exact hval.out t h
      ·simp at h; subst h; exact HA.out
    case measure => simp [intOf]
  ·obtain rfl : k = m := by omega
   rw [Nat.sub_self]
   have hl9 : l.length ≤ 9 := by have := hl.out; omega
   clear hl
   go_wp2_with fail
   go_ret2
   exact ⟨n, _, l, rfl, hown, hn25, hl9, hval.out, hc, hch⟩
def PickIPost (l : List Int) (w0 w : World) (g : Nat) (A : Option Addr) (c : Nat) (bs : List Int) (e : Ending) (w' : World) : Prop :=
 ∃ x ∈ l, e = .returned (.int .i64 x) ∧ Cur w0 w' g A c bs ∧ Chg [g] w w'
set_option maxHeartbeats 2000000 in
set_option maxRecDepth 100000 in
theorem l01PickInt_any (b : Nat) (l : List Int) (w0 w : World) (g : Nat) (A : Option Addr) (c : Nat) (bs : List Int) (hcur : Cur w0 w g A c bs)
  (hl : 0 < l.length ∧ l.length ≤ 256) (hb : b ≠ g) (hc : ∀ j (h : j < l.length), w.cell? ⟨b, j, none⟩ = some (.int .i64 l[j])) :
  Calls Tryz.prog 52 #[.pointer (some ⟨g, 0, none⟩), .slice (some ⟨b, 0, none⟩) l.length l.length] w (PickIPost l w0 w g A c bs) := by
 have HC := Lib.hid hc
 clear hc
 go_enter Tryz.func52, Tryz.ntmps52
 go_wp2_with fail
 refine (l01Below_any l.length w0 _ g A c bs hcur (by omega) (by omega)).mono ?_
 rintro e w1 ⟨r, rfl, ⟨hr0, hr1⟩, hc1, hch1⟩
 obtain ⟨n, rfl⟩ := Int.eq_ofNat_of_zero_le hr0
 have hn : n < l.length := by omega
 have k0 := carryChg hch1 (HC.out n hn) (by simpa using hb)
 have hm := Lib.hid (List.getElem_mem hn)
 generalize l[n] = s at *
 go_wp2_with fail
 go_ret
 exact ⟨s, hm.out, rfl, hc1, hch1⟩
def PlD (r : RPl) : Prop := strictB r.1 0 5 = true ∧ 0 ≤ r.2 ∧ r.2 ≤ 2
def AscTo (j : Nat) (l : List Int) : Prop := l.Pairwise (· < ·) ∧ (∀ x ∈ l, 0 ≤ x ∧ x < (j : Int)) ∧ l.length ≤ j
theorem AscTo.start : AscTo 0 [] := ⟨List.Pairwise.nil, by simp, Nat.le_refl _⟩
theorem AscTo.skip {j : Nat} {l : List Int} (h : AscTo j l) : AscTo (j + 1) l := ⟨h.1, fun x hx => by have := h.2.1 x hx; omega, Nat.le_succ_of_le h.2.2⟩
theorem AscTo.snoc {j : Nat} {l : List Int} (h : AscTo j l) : AscTo (j + 1) (l ++ [(j : Int)]) := by
 refine ⟨List.pairwise_append.2 ⟨h.1, List.pairwise_singleton _ _, fun a ha b hb => ?_⟩, fun x hx => ?_, by simpa using h.2.2⟩
 ·rw [List.mem_singleton] at hb; subst hb
  exact (h.2.1 a ha).2
 ·rcases List.mem_append.1 hx with hx | hx
  ·have := h.2.1 x hx; omega
  ·rw [List.mem_singleton] at hx; subst hx; omega
theorem AscTo.strict {l : List Int} (h : AscTo 6 l) : strictB l 0 5 = true := by
 rw [strictB, Bool.and_eq_true]
 exact ⟨asc_of_pairwise _ h.1, List.all_eq_true.2 (fun x hx => inB_iff.2 (by have := h.2.1 x hx; omega))⟩
def PlsPost (w0 w : World) (g : Nat) (A : Option Addr) (c : Nat) (bs : List Int) (e : Ending) (w' : World) : Prop :=
 ∃ (v : Value) (l : List RPl) (S : List Nat), e = .returned v ∧ OwPls w' S v l ∧ Fresh w.heap.size w' S ∧ (1 ≤ l.length ∧ l.length ≤ 5) ∧ (∀ r ∈ l, PlD r) ∧ Cur w0 w' g A c bs ∧ Chg [g] w w'
set_option maxHeartbeats 8000000 in
set_option maxRecDepth 100000 in
theorem l13List_any (w0 w : World) (g : Nat) (A : Option Addr) (c : Nat) (bs : List Int) (hcur : Cur w0 w g A c bs) :
  Calls Tryz.prog 73 #[.pointer (some ⟨g, 0, none⟩)] w (PlsPost w0 w g A c bs) := by
 have hglt := hcur.lt
 have hw0 := hcur.below.size
 obtain ⟨i0, hi0, hz0, hz1, hz2⟩ := info_parts infoInt
 obtain ⟨i1, hi1, hp0, hp1, hp2⟩ := info_parts infoPlayer
 go_enter Tryz.func73, Tryz.ntmps73
 go_wp2_with fail
 refine (l01Below_any 5 w0 _ g A c bs (hcur.keep ((Below.refl _ _).alloc (Nat.le_refl _) _)) (by omega) (by omega)).mono ?_
 rintro e w1 ⟨r, rfl, ⟨hr0, hr1⟩, hc1, hch1⟩
 obtain ⟨p, rfl⟩ := Int.eq_ofNat_of_zero_le hr0
 have hp4 : p ≤ 4 := by omega
 obtain ⟨hps0, hps1⟩ := pls_start w w.heap.size (Nat.le_refl _)
 have how0 := hps0.chg hch1 (by simp; omega)
 have hfr0 := fresh_mono hps1 (Nat.le_refl _) hch1.size
 have hchw1 := ((Chg.refl [g] w).alloc (.cells #[] 55)).trans hch1
 clear hps0 hps1 hch1 hr0 hr1
 go_wp2_with fail
 have hn : 1 + (p : Int) = ((1 + p : Nat) : Int) := by omega
 rw [hn]
 obtain ⟨n, hn'⟩ : ∃ n, 1 + p = n := ⟨_, rfl⟩
 have hn5 : 1 ≤ n ∧ n ≤ 5 := by omega
 rw [hn']
 clear hn hn' hp4
 go_loopw [3, 5] (fun q i wr => ∃ (k : Nat) (ll : List RPl) (S : List Nat), k ≤ n ∧ i = .int .i64 k ∧ OwPls wr S q ll ∧ Fresh w.heap.size wr S ∧ Hid (ll.length = k) ∧ Hid (∀ r ∈ ll, PlD r) ∧ Cur w0 wr g A c bs ∧ Chg [g] w wr) (fun _ i _ => n - (intOf i).toNat)
 case atStart => exact ⟨0, [], _, Nat.zero_le _, rfl, how0, hfr0, rfl, by simp [Hid], hc1, hchw1⟩
 case round =>
  obtain ⟨k, ll, S, hk, rfl, how, hfr, hll, hval, hc, hch⟩ := hrel
  clear how0 hfr0 hc1 hchw1
  have hzw := hch.size
  obtain ⟨Aq, cq, rfl, _, _⟩ := how.rd.form
  by_cases hlt : k < n
  ·have hll5 : ll.length ≤ 4 := by have := hll.out; omega
   obtain ⟨wo, rfl⟩ : ∃ wo : World, wo = wr := ⟨_, rfl⟩
   go_wp2_with fail
   refine (l01PickInt_any wo.heap.size [0, 1, 1, 2, 2] w0 _ g A c bs (hc.keep ((Below.refl _ _).alloc (Nat.le_refl _) _)) (by decide) (by have := hc.lt; omega) (fun j hj => by
    rw [cell_of_row _ wo.heap.size j _ _ (0, 0) (heap_alloc_new wo _)]
    match j, hj with
    | 0, _ => rfl
    | 1, _ => rfl
    | 2, _ => rfl
    | 3, _ => rfl
    | 4, _ => rfl
    | n + 5, h => exact absurd h (by simp))).mono ?_
   rintro e w2 ⟨fr, hfre, rfl, hc2, hch2⟩
   have hfr2 : 0 ≤ fr ∧ fr ≤ 2 := by simp at hfre; omega
   have hal : Below wo.heap.size wo (wo.alloc (.cells #[.int .i64 0, .int .i64 1, .int .i64 1, .int .i64 2, .int .i64 2] 3)) := (Below.refl _ _).alloc (Nat.le_refl _) _
   have how2 := (how.below hal).chg hch2 (fun b hb hb' => by have := (hfr.2 b hb).1; simp at hb'; omega)
   have hfr2' := fresh_mono hfr (Nat.le_refl _) (Nat.le_trans hal.size hch2.size)
   have hchw2 := (hch.trans (Chg.of_below hal [g])).trans hch2
   have hz2' := hchw2.size
   clear how hfr hc hch hch2 hal hfre
   go_wp2_with fail
   have Lb : Loc (w2.alloc (.cells #[.slice none 0 0, .int .i64 fr] 55)) w2.heap.size [.slice none 0 0, .int .i64 fr] := Loc.new w2 #[.slice none 0 0, .int .i64 fr] 55
   have hal : Below w2.heap.size w2 (w2.alloc (.cells #[.slice none 0 0, .int .i64 fr] 55)) := (Below.refl _ _).alloc (Nat.le_refl _) _
   have hc5 := hc2.keep hal
   have hch5 := hchw2.trans (Chg.of_below hal _)
   have how5 := how2.below hal
   have hfr5 := fresh_mono hfr2' (Nat.le_refl _) hal.size
   have HSP : Hid (∀ b ∈ S, b ∉ [g, w2.heap.size]) := fun b hb hb' => by have := hfr2'.2 b hb; simp at hb'; omega
   have hSlt : Hid (∀ b ∈ S, b < w2.heap.size) := fun b hb => (hfr2'.2 b hb).2
   have hgb : g ≠ w2.heap.size := by omega
   have hown5 : (w2.alloc (.cells #[.slice none 0 0, .int .i64 fr] 55)).ownsRow (w2.alloc (.cells #[.slice none 0 0, .int .i64 fr] 55)).heap.size 3 1 (.slice none 0 0) 0 [] := World.ownsRow_nil _ _ _ _
   have hzp : w2.heap.size + 1 ≤ (w2.alloc (.cells #[.slice none 0 0, .int .i64 fr] 55)).heap.size := by simp
   obtain ⟨pb, hpb⟩ : ∃ pb, w2.heap.size = pb := ⟨_, rfl⟩
   rw [hpb] at Lb HSP hSlt hgb hzp hz2'
   generalize w2.alloc (.cells #[.slice none 0 0, .int .i64 fr] 55) = V at *
   try rw [hpb]
   clear hal hc2 hchw2 how2 hfr2' hpb
   have HOW := Lib.hid how5
   have HFR := Lib.hid hfr5
   have HCH := Lib.hid hch5
   clear how5 hfr5 hch5
   go_loopw [7] (fun i wi => ∃ (j : Nat) (v : Value) (l : List Int), j ≤ 6 ∧ i = .int .i64 j ∧ Loc wi pb [v, .int .i64 fr] ∧ wi.ownsRow V.heap.size 3 1 v l.length (l.flatMap cInt) ∧ Hid (AscTo j l) ∧ Cur w0 wi g A c bs ∧ Chg [g, pb] V wi) (fun i _ => 6 - (intOf i).toNat)
   case atStart => exact ⟨0, _, [], by omega, rfl, Lb, hown5, AscTo.start, hc5, Chg.refl _ _⟩
   case round =>
    obtain ⟨j, v, l, hj, rfl, Lj, hown, hasc, hc, hch⟩ := hrel
    clear Lb hown5 hc5
    obtain ⟨Av, cv, rfl, _, _⟩ := (RdS.of_own hown).form
    have hzi := hch.size
    by_cases hj6 : j < 6
    ·have hl6 : l.length ≤ 6 := by have := hasc.out.2.2; omega
     go_wp2_with fail
     refine (l01Once_any 2 w0 wr g A c bs hc (by omega) (by omega)).mono ?_
     rintro e w6 ⟨b, rfl, hc6, hch6⟩
     have Lj6 := Lj.chg hch6 (by simpa using hgb.symm)
     have hown6 := own_draw hown hch6 (by omega)
     have hchw6 : Chg [g, pb] V w6 := hch.trans (hch6.mono (by simp))
     have hz6 := hchw6.size
     clear Lj hown hc hch hch6
     cases b
     ·go_wp2_with fail
      go_roundw
      case rel => exact ⟨j + 1, _, l, by omega, by go_num, Lj6, hown6, hasc.out.skip, hc6, hchw6⟩
      case measure => simp [intOf]; omega
     ·have p0 := (Lj6 0 _ rfl).1
      go_wp2_with (at_builtin; go_must (refine wpList_appendR _ rfl (.tmp 28) (.tmp 30) _ rfl V.heap.size 3 i0 _ 1 8 Tryz.underlying28 hi0 hz0 hz1 hz2 rfl (by omega) _ l.length (l.flatMap cInt) rfl (hown6.alloc _) _ 1 [.int .i64 j] rfl (rdS_new w6 #[.int .i64 j] _ 1 1 rfl (by simp [maxLen])) (by simp [Value.oneCell']) (by simp [maxLen]; omega) (by omega) (by simp; omega) ?_); intro v3 w3 hown3 hgr3; obtain ⟨A3, c3, rfl, _, _⟩ := (RdS.of_own hown3).form; go_must (have Lj3 := (Lj6.alloc (.cells #[.int .i64 j] 3)).chg (Chg.of_grown (v := .slice Av l.length cv) hgr3) (fun hm => by have := ((hown6.alloc (.cells #[.int .i64 j] 3)).lt _ (by simpa using hm)).1; omega)); have q0 := (Lj3 0 _ rfl).1; have q1 := (Lj3 0 _ rfl).2; clear p0)
      have hch3 : Chg [g, pb] V w3 := chg_of_own (hchw6.alloc (.cells #[.int .i64 j] 3)) (hown6.alloc (.cells #[.int .i64 j] 3)) hgr3
      have hst : Chg [pb] w3 (w3.setCell ⟨pb, 0, none⟩ (.slice A3 (l.length + 1) c3)) := chg_set (Chg.refl _ _) (by simp)
      have hc3 := (cur_own (hc6.keep ((Below.refl _ _).alloc (Nat.le_refl _) (.cells #[.int .i64 j] 3))) (hown6.alloc (.cells #[.int .i64 j] 3)) hgr3 (by omega) (by omega)).chg hst (by simpa using hgb) (by simp; omega)
      have LbN := Lj3.set (i := 0) (u := .slice A3 (l.length + 1) c3) (v := .slice Av l.length cv) rfl
      have hownN := own_chg hown3 hst (fun b hb hb' => by have := (hown3.lt b (by simpa using hb)).1; simp at hb'; omega)
      go_roundw
      case rel =>
       refine ⟨j + 1, _, l ++ [(j : Int)], by omega, by go_num, LbN, ?_, hasc.out.snoc, hc3, hch3.trans (hst.mono (by simp))⟩
       rw [List.length_append, List.flatMap_append]; exact hownN
      case measure => simp [intOf]; omega
    ·obtain rfl : j = 6 := by omega
     have hl6 := hasc.out.2.2
     have how6 := HOW.out.chg hch HSP.out
     have hfr6 := fresh_mono HFR.out (Nat.le_refl _) hch.size
     obtain ⟨vs, hvl, hownq, hrows, hSe⟩ := how6
     have hown1 : wr.ownsRow w.heap.size 55 2 (.slice Aq ll.length cq) ll.length (vs.flatMap cPl) := by
      have := own_up hownq (fun b hb => hfr6.2 b (by rw [hSe]; exact List.mem_append_left _ hb))
      rwa [hvl] at this
     have Hvl := Lib.hid hvl
     have Hrows := Lib.hid hrows
     have HFP := Lib.hid hfr6
     have HSe := Lib.hid hSe
     have hchF := chg_low HCH.out hch (by simp; omega)
     have hzF := hchF.size
     have p0 := (Lj 0 _ rfl).1
     have p1 := (Lj 1 _ rfl).1
     have bA : Below wr.heap.size wr (wr.alloc (.cells #[.slice Av l.length cv, .int .i64 fr] 55)) := (Below.refl _ _).alloc (Nat.le_refl _) _
     have hkE : OwL 3 cInt 1 (wr.alloc (.cells #[.slice Av l.length cv, .int .i64 fr] 55)) _ (.slice Av l.length cv) l := OwL.mk_ (own_below hown bA)
     have hfE : Fresh w.heap.size (wr.alloc (.cells #[.slice Av l.length cv, .int .i64 fr] 55)) (Value.slice Av l.length cv).ownBlock.toList := fresh_mono (fresh_of hown) (by omega) bA.size
     have hdE : ∀ b ∈ (Value.slice Aq ll.length cq).ownBlock.toList ++ plBlocks vs, b ∉ (Value.slice Av l.length cv).ownBlock.toList := fun b hb hb' => by
      have h1 := hSlt.out b (by rw [HSe.out]; exact hb)
      have h2 := (hown.lt b (by simpa using hb')).1
      omega
     clear hvl hrows hownq hfr6 hSe
     go_wp2_with (at_builtin; go_must (refine wpList_appendB _ rfl (.tmp 33) (.tmp 35) _ rfl w.heap.size 55 i1 _ 2 32 Tryz.underlying25 hi1 hp0 hp1 hp2 rfl (by omega) _ ll.length (vs.flatMap cPl) rfl (hown1.alloc _) _ 1 [.slice Av l.length cv, .int .i64 fr] rfl (rdS_new wr #[.slice Av l.length cv, .int .i64 fr] _ 2 1 rfl (by simp [maxLen])) (by simp [Value.oneCell']) (by simp [maxLen]; omega) (by omega) (by simp; omega) ?_); intro v3 w3 own3 gr3 at3)
     have hsn := pls_snoc (B := w.heap.size) (w := wr.alloc (.cells #[.slice Av l.length cv, .int .i64 fr] 55)) (w' := w3) (q := .slice Aq ll.length cq) (u := .slice Av l.length cv) (r := l) (n := fr) (ll := ll) Hvl.out (fun i p r hp hr => ⟨(Hrows.out i p r hp hr).1, own_below (Hrows.out i p r hp hr).2 bA⟩) (by rw [← HSe.out]; exact fresh_mono HFP.out (Nat.le_refl _) bA.size) hkE hfE hdE (by rw [Hvl.out]; exact own3) gr3 at3
     have hch3 := chg_of_own (hchF.alloc (.cells #[.slice Av l.length cv, .int .i64 fr] 55)) (hown1.alloc (.cells #[.slice Av l.length cv, .int .i64 fr] 55)) gr3
     have hc3 := cur_own (hc.keep bA) (hown1.alloc (.cells #[.slice Av l.length cv, .int .i64 fr] 55)) gr3 hglt hw0
     go_wp2_with fail
     go_roundw
     case rel =>
      refine ⟨k + 1, ll ++ [(l, fr)], _, by omega, by go_num, hsn.1, hsn.2, by show _ = _; rw [List.length_append, hll.out]; rfl, ?_, hc3, hch3⟩
      intro r hr
      rcases List.mem_append.1 hr with hr | hr
      ·exact hval.out r hr
      ·simp at hr; subst hr; exact ⟨hasc.out.strict, hfr2⟩
     case measure => simp [intOf]; omega
  ·obtain rfl : k = n := by omega
   go_wp2_with fail
   go_ret
   exact ⟨_, ll, S, rfl, how, hfr, by have := hll.out; omega, hval.out, hc, hch⟩
open Go.RowKit
theorem getD_app {l : List Int} {d : Int} {k : Nat} (h : k < l.length) : (l ++ [d]).getD k 0 = l.getD k 0 := by
 rw [List.getD_eq_getElem?_getD, List.getD_eq_getElem?_getD, List.getElem?_append_left h]
theorem getD_app_end (l : List Int) (d : Int) : (l ++ [d]).getD l.length 0 = d := by
 rw [List.getD_eq_getElem?_getD, List.getElem?_append_right (Nat.le_refl _), Nat.sub_self]; rfl
theorem runR_app (l : List Int) (d : Int) : ∀ k, k ≤ l.length → runR (l ++ [d]) k = runR l k := by
 intro k
 induction k with
 | zero => intro _; rfl
 | succ k ih =>
  intro hk
  rw [runR, runR, ih (by omega), getD_app (by omega), getD_app (by omega)]
theorem runB_app (l : List Int) (d : Int) : ∀ k, k ≤ l.length → runB (l ++ [d]) k = runB l k := by
 intro k
 induction k with
 | zero => intro _; rfl
 | succ k ih =>
  intro hk
  rw [runB, runB, ih (by omega), runR_app l d _ hk]
def mostStep (st : List Int × Nat) (d : Int) : List Int × Nat :=
 if (if st.1.length = 0 ∨ st.1.getD (st.1.length - 1) 0 ≠ d - 1 then 0 else st.2) = 5 then (st.1, 5)
 else (st.1 ++ [d], (if st.1.length = 0 ∨ st.1.getD (st.1.length - 1) 0 ≠ d - 1 then 0 else st.2) + 1)
theorem mostStep_new {out : List Int} {r : Nat} {d : Int} (h : out.length = 0 ∨ out.getD (out.length - 1) 0 ≠ d - 1) : mostStep (out, r) d = (out ++ [d], 1) := by
 unfold mostStep
 simp only
 rw [if_pos h, if_neg (by omega)]
theorem mostStep_skip {out : List Int} {d : Int} (h : ¬ (out.length = 0 ∨ out.getD (out.length - 1) 0 ≠ d - 1)) : mostStep (out, 5) d = (out, 5) := by
 unfold mostStep
 simp only
 rw [if_neg h, if_pos rfl]
theorem mostStep_run {out : List Int} {r : Nat} {d : Int} (h : ¬ (out.length = 0 ∨ out.getD (out.length - 1) 0 ≠ d - 1)) (h5 : r ≠ 5) : mostStep (out, r) d = (out ++ [d], r + 1) := by
 unfold mostStep
 simp only
 rw [if_neg h, if_neg h5]
def mostTo (l : List Int) (k : Nat) : List Int × Nat := (l.take k).foldl mostStep ([], 0)
def mostL (l : List Int) : List Int := (mostTo l l.length).1
theorem mostTo_succ (l : List Int) {k : Nat} (h : k < l.length) : mostTo l (k + 1) = mostStep (mostTo l k) l[k] := foldl_take_succ _ _ l h
structure MostOk (l : List Int) (k : Nat) (st : List Int × Nat) : Prop where
 asc : st.1.Pairwise (· < ·)
 mem : ∀ x ∈ st.1, x ∈ l.take k
 len : st.1.length ≤ k
 row : runR st.1 st.1.length = st.2
 five : st.2 ≤ 5
 best : runB st.1 st.1.length ≤ 5
theorem MostOk.step {l : List Int} {k : Nat} {st : List Int × Nat} (h : MostOk l k st) (hk : k < l.length) (hl : l.Pairwise (· < ·)) : MostOk l (k + 1) (mostStep st l[k]) := by
 obtain ⟨out, r⟩ := st
 obtain ⟨h1, h2, h3, h4, h5, h6⟩ := h
 simp only at h1 h2 h3 h4 h5 h6
 have ht := take_snoc_l l hk
 have hnew : ∀ x ∈ out, x < l[k] := fun x hx => by
  have := h2 x hx
  obtain ⟨i, hi, e⟩ := List.getElem_of_mem this
  rw [List.getElem_take] at e
  rw [← e]
  exact List.pairwise_iff_getElem.1 hl i k _ hk (by simp at hi; omega)
 have hkeep : ∀ x ∈ out, x ∈ l.take (k + 1) := fun x hx => by rw [ht]; exact List.mem_append_left _ (h2 x hx)
 have happ : ∀ r', (r' = (if out.length = 0 ∨ out.getD (out.length - 1) 0 ≠ l[k] - 1 then 0 else r)) → r' ≠ 5 → MostOk l (k + 1) (out ++ [l[k]], r' + 1) := by
  intro r' hr' hne
  have hrun : runR (out ++ [l[k]]) (out.length + 1) = r' + 1 := by
   rw [runR, runR_app _ _ _ (Nat.le_refl _), getD_app_end]
   by_cases h0 : out.length = 0
   ·rw [if_pos (.inl h0)] at hr'
    rw [if_neg (by omega), hr']
   ·rw [getD_app (by omega)]
    by_cases hd : out.getD (out.length - 1) 0 = l[k] - 1
    ·rw [if_neg (by rintro (e | e); exact h0 e; exact e hd)] at hr'
     rw [if_pos ⟨by omega, by omega⟩, h4, hr']
    ·rw [if_pos (.inr hd)] at hr'
     rw [if_neg (by omega), hr']
  have hr5 : r' ≤ 5 := by rw [hr']; split <;> omega
  refine ⟨List.pairwise_append.2 ⟨h1, List.pairwise_singleton _ _, fun a ha b hb => ?_⟩, fun x hx => ?_, by simpa using h3, ?_, by simp only; omega, ?_⟩
  ·rw [List.mem_singleton] at hb; subst hb; exact hnew a ha
  ·rcases List.mem_append.1 hx with hx | hx
   ·exact hkeep x hx
   ·rw [ht]; exact List.mem_append_right _ hx
  ·simp only [List.length_append, List.length_singleton]; exact hrun
  ·simp only [List.length_append, List.length_singleton]
   rw [runB, runB_app _ _ _ (Nat.le_refl _), hrun]
   omega
 unfold mostStep
 simp only
 by_cases hr : (if out.length = 0 ∨ out.getD (out.length - 1) 0 ≠ l[k] - 1 then 0 else r) = 5
 ·rw [if_pos hr]
  have : r = 5 := by
   by_cases hc : out.length = 0 ∨ out.getD (out.length - 1) 0 ≠ l[k] - 1
   ·rw [if_pos hc] at hr; omega
   ·rw [if_neg hc] at hr; exact hr
  subst this
  exact ⟨h1, hkeep, by simp only; omega, h4, Nat.le_refl _, h6⟩
 ·rw [if_neg hr]
  exact happ _ rfl hr
theorem mostTo_ok {l : List Int} (hl : l.Pairwise (· < ·)) : ∀ k, k ≤ l.length → MostOk l k (mostTo l k) := by
 intro k
 induction k with
 | zero => intro _; exact ⟨List.Pairwise.nil, by simp [mostTo], Nat.le_refl _, rfl, Nat.zero_le _, Nat.zero_le _⟩
 | succ k ih => intro hk; rw [mostTo_succ l (by omega)]; exact (ih (by omega)).step (by omega) hl
theorem most_len {l : List Int} (hs : seasonB l = true) : (mostL l).length ≤ l.length := by
 have hst : strictB l 0 365 = true := by rw [season_t (season_bd hs).1] at hs; exact hs
 exact (mostTo_ok (strict_lt hst).1 l.length (Nat.le_refl _)).len
theorem most_keeps {l : List Int} (hs : seasonB l = true) : keepsB (mostL l) 5 = true := by
 have hbd := season_bd hs
 have hst : strictB l 0 365 = true := by rw [season_t hbd.1] at hs; exact hs
 have hl := (strict_lt hst).1
 have ho := mostTo_ok hl l.length (Nat.le_refl _)
 have hsea : seasonB (mostL l) = true := by
  have hlen : (mostL l).length ≤ 60 := Nat.le_trans ho.len hbd.1
  rw [season_t hlen, strictB, Bool.and_eq_true]
  refine ⟨asc_of_pairwise _ ho.asc, List.all_eq_true.2 (fun x hx => inB_iff.2 ?_)⟩
  have := ho.mem x hx
  rw [List.take_length] at this
  exact hbd.2 x this
 rw [keepsB, Bool.and_eq_true, Bool.and_eq_true]
 refine ⟨⟨hsea, by decide⟩, decide_eq_true ?_⟩
 rw [runF_t hsea]
 have := ho.best
 unfold mostL
 omega
set_option maxHeartbeats 8000000 in
set_option maxRecDepth 100000 in
theorem mostShows_any (v : Value) (l : List Int) (w : World) (h : RdL cInt 1 w v l) (hs : seasonB l = true) :
  Calls Tryz.prog 50 #[v, .int .i64 5] w fun e w' => ∃ v', e = .returned v' ∧ w'.ownsRow w.heap.size 3 1 v' (mostL l).length ((mostL l).flatMap cInt) ∧ Below w.heap.size w w' := by
 have h0 := h
 obtain ⟨A, c, rfl, h1, h2⟩ := h.form
 obtain ⟨i0, hi0, hz0, hz1, hz2⟩ := info_parts infoInt
 have hbd := season_bd hs
 have HBD := Lib.hid hbd.2
 have hl60 := hbd.1
 have hst : strictB l 0 365 = true := by have := season_t hbd.1; rw [← this]; exact hs
 have HL := Lib.hid (strict_lt hst).1
 have hal : Below w.heap.size w (w.alloc (.cells #[] 3)) := (Below.refl _ _).alloc (Nat.le_refl _) _
 have hown0 : (w.alloc (.cells #[] 3)).ownsRow w.heap.size 3 1 (.slice (some ⟨w.heap.size, 0, none⟩) 0 0) 0 [] := World.ownsRow_made (size := 1) (e := 3) w #[] 0 (Nat.le_refl _) (by simp [maxLen]) rfl
 have hSO := specSeasonOk_any (.slice A l.length c) l _ (h0.below hal)
 rw [hs] at hSO
 have hIN := fun W => l01In_any 5 1 60 W
 have hin : inB 5 1 60 = true := by decide
 rw [hin] at hIN
 clear hbd hst hin hs
 go_enter Tryz.func50, Tryz.ntmps50
 go_wp2_with fail
 refine hSO.mono ?_
 rintro e w1 ⟨rfl, hb1⟩
 have hown1 := own_below hown0 hb1
 have hbw1 : Below w.heap.size w w1 := bl_trans hal hb1
 clear hSO hown0 hal hb1
 go_wp2_with (go_at_call 77; refine (hIN _).mono ?_; rintro e w2 ⟨rfl, rfl⟩)
 go_loopw [5, 6, 7] (fun q r i wr => ∃ (k : Nat) (out : List Int) (row : Nat), k ≤ l.length ∧ i = .int .i64 k ∧ r = .int .i64 row ∧ Hid (mostTo l k = (out, row)) ∧ wr.ownsRow w.heap.size 3 1 q out.length (out.flatMap cInt) ∧ Below w.heap.size w wr) (fun _ _ i _ => l.length - (intOf i).toNat)
 case atStart => exact ⟨0, [], 0, Nat.zero_le _, rfl, rfl, rfl, hown1, hbw1⟩
 case round =>
  obtain ⟨k, out, row, hk, rfl, rfl, hmt, hown, hb⟩ := hrel
  clear hown1 hbw1 hIN
  have HOK : Hid (MostOk l k (out, row)) := by have := mostTo_ok HL.out k hk; rw [hmt.out] at this; exact this
  have hrow5 : row ≤ 5 := HOK.out.five
  have holen : out.length ≤ 60 := by have := HOK.out.len; simp only at this; omega
  obtain ⟨Aq, cq, rfl, hoc, hocc⟩ := (RdS.of_own hown).form
  by_cases hlt : k < l.length
  ·obtain ⟨g, off, rfl, hg, hcell⟩ := (h0.below hb).cell cInt_len (by omega) hlt
   have d0 := hcell 0 _ rfl
   simp only [Nat.add_zero, Nat.mul_one] at d0
   clear hcell
   have hd := HBD.out _ (List.getElem_mem hlt)
   have HS := Lib.hid (mostTo_succ l hlt)
   rw [hmt.out] at HS
   generalize l[k] = d at *
   have hwd : IntKind.i64.wrap (d - 1) = d - 1 := IntWalk.i64_in _ (by omega)
   by_cases h0l : out.length = 0
   ·have hz : ((out.length : Int) == 0) = true := by rw [beq_iff_eq]; omega
    have HE : Hid (mostTo l (k + 1) = (out ++ [d], 1)) := by
     show _ = _
     rw [HS.out]; exact mostStep_new (.inl h0l)
    clear h0l
    go_wp2_with fail
    go_quiet (fail)
    rename_i nq
    have hbq : Below wr.heap.size wr (wr.drewN nq) := below_drewN (Below.refl _ _) nq
    have hown2 := own_below hown hbq
    have hb2 := bl_trans hb hbq
    replace d0 := carry hbq d0
    generalize wr.drewN nq = wq at *
    clear hown hbq
    go_wp2_with (at_builtin; go_must (refine wpList_appendR _ rfl (.tmp 47) (.tmp 52) _ rfl w.heap.size 3 i0 _ 1 8 Tryz.underlying28 hi0 hz0 hz1 hz2 rfl (by omega) _ out.length (out.flatMap cInt) rfl (hown2.alloc _) _ 1 [.int .i64 d] rfl (rdS_new wq #[.int .i64 d] _ 1 1 rfl (by simp [maxLen])) (by simp [Value.oneCell']) (by simp [maxLen]; omega) (by omega) (by have := hb2.size; simp; omega) ?_); intro v3 w3 hown3 hgr3)
    have hb3 : Below w.heap.size w w3 := (hb2.alloc hb2.size _).trans (below_own (hown2.alloc (.cells #[.int .i64 d] 3)) hgr3 (by have := hb2.size; simp; omega))
    go_wp2_with fail
    go_roundw
    case rel => exact ⟨k + 1, out ++ [d], 1, by omega, by go_num, rfl, HE.out, by rw [List.length_append, List.flatMap_append]; exact hown3, hb3⟩
    case measure => simp [intOf]; omega
   ·have hz : ((out.length : Int) == 0) = false := by rw [beq_eq_false_iff_ne]; omega
    obtain ⟨t, ht⟩ : ∃ t, out.length = t + 1 := ⟨out.length - 1, by omega⟩
    have hq' : t < out.length := by omega
    obtain ⟨gq, oq, e, _, hcq⟩ := RdL.cell (RdS.of_own hown) cInt_len (by omega) hq'
    subst e
    have x0 := hcq 0 _ rfl
    simp only [Nat.add_zero, Nat.mul_one] at x0
    have HX : Hid (out.getD (out.length - 1) 0 = out[t]) := by
     show _ = _
     rw [show out.length - 1 = t by omega, List.getD_eq_getElem?_getD, List.getElem?_eq_getElem hq']; rfl
    have HL0 := Lib.hid h0l
    have hw1 : IntKind.i64.wrap ((out.length : Int) - 1) = (t : Int) := by rw [IntWalk.i64_in _ (by omega)]; omega
    have ht1 : (t : Int) < (out.length : Int) := by omega
    have ht0 : (0 : Int) ≤ (t : Int) := by omega
    have htn : ((t : Int)).toNat = t := by omega
    have HT := Lib.hid ht
    clear hcq h0l ht
    generalize out[t] = x at *
    by_cases hx : x = d - 1
    ·have hd1 : (x != d - 1) = false := by rw [bne_eq_false_iff_eq]; exact hx
     have HNO : Hid (¬ (out.length = 0 ∨ out.getD (out.length - 1) 0 ≠ d - 1)) := by
      rintro (h | h)
      ·exact HL0.out h
      ·exact h (HX.out.trans hx)
     clear hx
     by_cases h5 : row = 5
     ·subst h5
      have HE : Hid (mostTo l (k + 1) = (out, 5)) := by
       show _ = _
       rw [HS.out]; exact mostStep_skip HNO.out
      go_wp2_with fail
      go_quiet (fail)
      rename_i nq
      have hbq : Below wr.heap.size wr (wr.drewN nq) := below_drewN (Below.refl _ _) nq
      have hown2 := own_below hown hbq
      have hb2 := bl_trans hb hbq
      replace d0 := carry hbq d0
      generalize wr.drewN nq = wq at *
      clear hown hbq
      go_wp2_with fail
      go_roundw
      case rel => exact ⟨k + 1, out, 5, by omega, by go_num, rfl, HE.out, hown2, hb2⟩
      case measure => simp [intOf]; omega
     ·have hd5 : ((row : Int) == 5) = false := by rw [beq_eq_false_iff_ne]; omega
      have HE : Hid (mostTo l (k + 1) = (out ++ [d], row + 1)) := by
       show _ = _
       rw [HS.out]; exact mostStep_run HNO.out h5
      clear h5
      go_wp2_with fail
      go_quiet (fail)
      rename_i nq
      have hbq : Below wr.heap.size wr (wr.drewN nq) := below_drewN (Below.refl _ _) nq
      have hown2 := own_below hown hbq
      have hb2 := bl_trans hb hbq
      replace d0 := carry hbq d0
      generalize wr.drewN nq = wq at *
      clear hown hbq
      go_wp2_with (at_builtin; go_must (refine wpList_appendR _ rfl (.tmp 47) (.tmp 52) _ rfl w.heap.size 3 i0 _ 1 8 Tryz.underlying28 hi0 hz0 hz1 hz2 rfl (by omega) _ out.length (out.flatMap cInt) rfl (hown2.alloc _) _ 1 [.int .i64 d] rfl (rdS_new wq #[.int .i64 d] _ 1 1 rfl (by simp [maxLen])) (by simp [Value.oneCell']) (by simp [maxLen]; omega) (by omega) (by have := hb2.size; simp; omega) ?_); intro v3 w3 hown3 hgr3)
      have hb3 : Below w.heap.size w w3 := (hb2.alloc hb2.size _).trans (below_own (hown2.alloc (.cells #[.int .i64 d] 3)) hgr3 (by have := hb2.size; simp; omega))
      go_wp2_with fail
      go_roundw
      case rel => exact ⟨k + 1, out ++ [d], row + 1, by omega, by go_num, by first | rfl | exact int_eq (by omega), HE.out, by rw [List.length_append, List.flatMap_append]; exact hown3, hb3⟩
      case measure => simp [intOf]; omega
    ·have hd1 : (x != d - 1) = true := by rw [bne_iff_ne]; exact hx
     have HE : Hid (mostTo l (k + 1) = (out ++ [d], 1)) := by
      show _ = _
      rw [HS.out]; exact mostStep_new (.inr (by rw [HX.out]; exact hx))
     clear hx
     go_wp2_with fail
     go_quiet (fail)
     rename_i nq
     have hbq : Below wr.heap.size wr (wr.drewN nq) := below_drewN (Below.refl _ _) nq
     have hown2 := own_below hown hbq
     have hb2 := bl_trans hb hbq
     replace d0 := carry hbq d0
     generalize wr.drewN nq = wq at *
     clear hown hbq
     go_wp2_with (at_builtin; go_must (refine wpList_appendR _ rfl (.tmp 47) (.tmp 52) _ rfl w.heap.size 3 i0 _ 1 8 Tryz.underlying28 hi0 hz0 hz1 hz2 rfl (by omega) _ out.length (out.flatMap cInt) rfl (hown2.alloc _) _ 1 [.int .i64 d] rfl (rdS_new wq #[.int .i64 d] _ 1 1 rfl (by simp [maxLen])) (by simp [Value.oneCell']) (by simp [maxLen]; omega) (by omega) (by have := hb2.size; simp; omega) ?_); intro v3 w3 hown3 hgr3)
     have hb3 : Below w.heap.size w w3 := (hb2.alloc hb2.size _).trans (below_own (hown2.alloc (.cells #[.int .i64 d] 3)) hgr3 (by have := hb2.size; simp; omega))
     go_wp2_with fail
     go_roundw
     case rel => exact ⟨k + 1, out ++ [d], 1, by omega, by go_num, rfl, HE.out, by rw [List.length_append, List.flatMap_append]; exact hown3, hb3⟩
     case measure => simp [intOf]; omega
  ·obtain rfl : k = l.length := by omega
   have HF : Hid (mostL l = out) := by show _ = _; unfold mostL; rw [hmt.out]
   go_wp2_with fail
   go_ret
   exact ⟨_, rfl, by rw [HF.out]; exact hown, hb⟩
def DaysPost (w0 w : World) (g : Nat) (A : Option Addr) (c : Nat) (bs : List Int) (e : Ending) (w' : World) : Prop :=
 ∃ (v : Value) (l : List Int), e = .returned v ∧ w'.ownsRow w.heap.size 3 1 v l.length (l.flatMap cInt) ∧ (seasonB l = true ∧ l.length ≤ 13) ∧ Cur w0 w' g A c bs ∧ Chg [g] w w'
set_option maxHeartbeats 4000000 in
set_option maxRecDepth 100000 in
theorem l33Days_any (w0 w : World) (g : Nat) (A : Option Addr) (c : Nat) (bs : List Int) (hcur : Cur w0 w g A c bs) :
  Calls Tryz.prog 51 #[.pointer (some ⟨g, 0, none⟩)] w (DaysPost w0 w g A c bs) := by
 have hglt := hcur.lt
 have hw0 := hcur.below.size
 obtain ⟨i0, hi0, hz0, hz1, hz2⟩ := info_parts infoInt
 go_enter Tryz.func51, Tryz.ntmps51
 go_wp2_with fail
 refine (l01Below_any 14 w0 _ g A c bs (hcur.keep ((Below.refl _ _).alloc (Nat.le_refl _) _)) (by omega) (by omega)).mono ?_
 rintro e w1 ⟨r, rfl, ⟨hr0, hr1⟩, hc1, hch1⟩
 obtain ⟨n, rfl⟩ := Int.eq_ofNat_of_zero_le hr0
 have hn : n ≤ 13 := by omega
 have hown1 := own_draw (World.ownsRow_made (size := 1) (e := 3) w #[] 0 (Nat.le_refl _) (by simp [maxLen]) rfl) hch1 hglt
 have hchw1 := ((Chg.refl [g] w).alloc (.cells #[] 3)).trans hch1
 clear hr0 hr1 hch1
 go_wp2_with fail
 go_loopw [3, 4, 6] (fun q t i wr => ∃ (k : Nat) (at_ : Int) (l : List Int), k ≤ n ∧ i = .int .i64 k ∧ t = .int .i64 at_ ∧ (-1 ≤ at_ ∧ at_ ≤ 6 * (k : Int) - 1) ∧ Hid (l.length = k) ∧ Hid (l.Pairwise (· < ·) ∧ ∀ x ∈ l, 0 ≤ x ∧ x ≤ at_) ∧ wr.ownsRow w.heap.size 3 1 q l.length (l.flatMap cInt) ∧ Cur w0 wr g A c bs ∧ Chg [g] w wr) (fun _ _ i _ => n - (intOf i).toNat)
 case atStart => exact ⟨0, -1, [], Nat.zero_le _, rfl, rfl, by omega, rfl, ⟨List.Pairwise.nil, by simp⟩, hown1, hc1, hchw1⟩
 case round =>
  obtain ⟨k, at_, l, hk, rfl, rfl, hat, hll, hval, hown, hc, hch⟩ := hrel
  clear hown1 hc1 hchw1
  have hzw := hch.size
  obtain ⟨Aq, cq, rfl, _, _⟩ := (RdS.of_own hown).form
  by_cases hlt : k < n
  ·have hl13 : l.length ≤ 13 := by have := hll.out; omega
   go_wp2_with fail
   refine (l01Once_any 3 w0 wr g A c bs hc (by omega) (by omega)).mono ?_
   rintro e w3 ⟨b, rfl, hc3, hch3⟩
   have hown3 := own_draw hown hch3 hglt
   have hchw3 := hch.trans hch3
   have hz3 := hchw3.size
   clear hown hc hch hch3
   have fin : ∀ a : Int, at_ + 1 ≤ a → a ≤ at_ + 6 → Hid ((l ++ [a]).Pairwise (· < ·) ∧ ∀ x ∈ l ++ [a], 0 ≤ x ∧ x ≤ a) := fun a h1 h2 => by
    refine ⟨List.pairwise_append.2 ⟨hval.out.1, List.pairwise_singleton _ _, fun x hx y hy => ?_⟩, fun x hx => ?_⟩
    ·rw [List.mem_singleton] at hy; subst hy; have := hval.out.2 x hx; omega
    ·rcases List.mem_append.1 hx with hx | hx
     ·have := hval.out.2 x hx; omega
     ·rw [List.mem_singleton] at hx; subst hx; omega
   have FIN := Lib.hid fin
   clear fin
   cases b
   ·obtain ⟨a, ha⟩ : ∃ a : Int, at_ + 1 = a := ⟨_, rfl⟩
    have hab : at_ + 1 ≤ a ∧ a ≤ at_ + 6 := by omega
    go_upto_region 10 with (fail)
    (try rw [ha])
    clear ha
    have hownW := hown3
    go_wp2_with (at_builtin; go_must (refine wpList_appendR _ rfl (.tmp 23) (.tmp 25) _ rfl w.heap.size 3 i0 _ 1 8 Tryz.underlying28 hi0 hz0 hz1 hz2 rfl (by omega) _ l.length (l.flatMap cInt) rfl (hownW.alloc _) _ 1 [.int .i64 a] rfl (rdS_new w3 #[.int .i64 a] _ 1 1 rfl (by simp [maxLen])) (by simp [Value.oneCell']) (by simp [maxLen]; omega) (by omega) (by simp; omega) ?_); intro v9 w9 hown9 hgr9)
    have hch9 := chg_of_own (hchw3.alloc (.cells #[.int .i64 a] 3)) (hownW.alloc _) hgr9
    have hc9 := cur_own (hc3.keep ((Below.refl _ _).alloc (Nat.le_refl _) (.cells #[.int .i64 a] 3))) (hownW.alloc _) hgr9 hglt hw0
    go_wp2_with fail
    go_roundw
    case rel => exact ⟨k + 1, a, l ++ [a], by omega, by go_num, rfl, by omega, by show _ = _; rw [List.length_append, hll.out]; rfl, FIN.out a hab.1 hab.2, by rw [List.length_append, List.flatMap_append]; exact hown9, hc9, hch9⟩
    case measure => simp [intOf]; omega
   ·go_wp2_with fail
    refine (l01Below_any 6 w0 w3 g A c bs hc3 (by omega) (by omega)).mono ?_
    rintro e w5 ⟨r, rfl, ⟨hr0, hr1⟩, hc5, hch5⟩
    have hown5 := own_draw hown3 hch5 hglt
    have hchw5 := hchw3.trans hch5
    have hz5 := hchw5.size
    clear hown3 hc3 hchw3 hch5
    obtain ⟨a, ha⟩ : ∃ a : Int, at_ + 1 + r = a := ⟨_, rfl⟩
    have hab : at_ + 1 ≤ a ∧ a ≤ at_ + 6 := by omega
    go_upto_region 10 with (fail)
    (try rw [ha])
    clear ha
    have hownW := hown5
    go_wp2_with (at_builtin; go_must (refine wpList_appendR _ rfl (.tmp 23) (.tmp 25) _ rfl w.heap.size 3 i0 _ 1 8 Tryz.underlying28 hi0 hz0 hz1 hz2 rfl (by omega) _ l.length (l.flatMap cInt) rfl (hownW.alloc _) _ 1 [.int .i64 a] rfl (rdS_new w5 #[.int .i64 a] _ 1 1 rfl (by simp [maxLen])) (by simp [Value.oneCell']) (by simp [maxLen]; omega) (by omega) (by simp; omega) ?_); intro v9 w9 hown9 hgr9)
    have hch9 := chg_of_own (hchw5.alloc (.cells #[.int .i64 a] 3)) (hownW.alloc _) hgr9
    have hc9 := cur_own (hc5.keep ((Below.refl _ _).alloc (Nat.le_refl _) (.cells #[.int .i64 a] 3))) (hownW.alloc _) hgr9 hglt hw0
    go_wp2_with fail
    go_roundw
    case rel => exact ⟨k + 1, a, l ++ [a], by omega, by go_num, rfl, by omega, by show _ = _; rw [List.length_append, hll.out]; rfl, FIN.out a hab.1 hab.2, by rw [List.length_append, List.flatMap_append]; exact hown9, hc9, hch9⟩
    case measure => simp [intOf]; omega
  ·obtain rfl : k = n := by omega
   have hsea : Hid (seasonB l = true ∧ l.length ≤ 13) := by
    have h1 := hll.out
    refine ⟨?_, by omega⟩
    rw [season_t (by omega), strictB, Bool.and_eq_true]
    exact ⟨asc_of_pairwise _ hval.out.1, List.all_eq_true.2 (fun x hx => inB_iff.2 (by have := hval.out.2 x hx; omega))⟩
   go_wp2_with fail
   go_ret
   exact ⟨_, l, rfl, hown, hsea.out, hc, hch⟩
open Go.RowKit
def canAt (pl : List RPl) (x : Int) (ld : List Int) (p : Nat) : Bool := decide (ld.getD p 0 < (pl.getD p ([], 0)).2) && knowsB (pl.getD p ([], 0)) x
def bump (ld : List Int) (p : Nat) : List Int := ld.set p (ld.getD p 0 + 1)
def canS (pl : List RPl) : List Int → List Int → Bool
 | [], _ => true
 | x :: ps, ld => (List.range pl.length).any (fun p => canAt pl x ld p && canS pl ps (bump ld p))
theorem bump_len (ld : List Int) (p : Nat) : (bump ld p).length = ld.length := by simp [bump]
def zeroL (n : Nat) : List Int := List.replicate n 0
def canF (pl : List RPl) (ps : List Int) : Bool := (playersB pl && strictB ps 0 6) && canS pl ps (zeroL pl.length)
theorem canF_f1 {pl : List RPl} {ps : List Int} (h : playersB pl = false) : canF pl ps = false := by rw [canF, h]; rfl
theorem canF_f2 {pl : List RPl} {ps : List Int} (h : strictB ps 0 6 = false) : canF pl ps = false := by rw [canF, h, Bool.and_false]; rfl
theorem canF_t {pl : List RPl} {ps : List Int} (h1 : playersB pl = true) (h2 : strictB ps 0 6 = true) : canF pl ps = canS pl ps (zeroL pl.length) := by rw [canF, h1, h2]; rfl
theorem canS_t {pl : List RPl} {x : Int} {ps ld : List Int} {p : Nat} (hp : p < pl.length) (h1 : canAt pl x ld p = true) (h2 : canS pl ps (bump ld p) = true) : canS pl (x :: ps) ld = true := by
 rw [canS, List.any_eq_true]
 exact ⟨p, List.mem_range.2 hp, by rw [h1, h2]; rfl⟩
def TriedF (pl : List RPl) (x : Int) (ps ld : List Int) (k : Nat) : Prop := ∀ p, p < k → (canAt pl x ld p && canS pl ps (bump ld p)) = false
theorem TriedF.zero (pl : List RPl) (x : Int) (ps ld : List Int) : TriedF pl x ps ld 0 := fun p h => absurd h (by omega)
theorem TriedF.no {pl : List RPl} {x : Int} {ps ld : List Int} {k : Nat} (h : TriedF pl x ps ld k) (h1 : canAt pl x ld k = false) : TriedF pl x ps ld (k + 1) := fun p hp => by
 rcases Nat.lt_succ_iff_lt_or_eq.1 hp with h2 | rfl
 ·exact h p h2
 ·rw [h1]; rfl
theorem TriedF.sub {pl : List RPl} {x : Int} {ps ld : List Int} {k : Nat} (h : TriedF pl x ps ld k) (h1 : canS pl ps (bump ld k) = false) : TriedF pl x ps ld (k + 1) := fun p hp => by
 rcases Nat.lt_succ_iff_lt_or_eq.1 hp with h2 | rfl
 ·exact h p h2
 ·rw [h1, Bool.and_false]
theorem TriedF.end_ {pl : List RPl} {x : Int} {ps ld : List Int} (h : TriedF pl x ps ld pl.length) : canS pl (x :: ps) ld = false := by
 rw [canS]
 exact Bool.eq_false_iff.2 (fun h2 => by
  obtain ⟨p, hp, h3⟩ := List.any_eq_true.1 h2
  rw [h p (List.mem_range.1 hp)] at h3
  exact absurd h3 (by simp))
theorem canAt_eq {pl : List RPl} {x : Int} {ld : List Int} {p : Nat} (hp : p < pl.length) (hl : p < ld.length) : canAt pl x ld p = (decide (ld[p] < pl[p].2) && knowsB pl[p] x) := by
 unfold canAt
 rw [List.getD_eq_getElem?_getD, List.getElem?_eq_getElem hl, List.getD_eq_getElem?_getD, List.getElem?_eq_getElem hp]; rfl
theorem bump_eq {ld : List Int} {p : Nat} (hl : p < ld.length) : bump ld p = ld.set p (ld[p] + 1) := by
 unfold bump
 rw [List.getD_eq_getElem?_getD, List.getElem?_eq_getElem hl]; rfl
def whyF (n : Int) (cs : List RCross) (pl : List RPl) : Int :=
 if companyB n cs pl = true then (if orderF n.toNat cs = upN n.toNat then (if woundL n.toNat cs = [] then (if canF pl (upN n.toNat) = true then 0 else 3) else 2) else 1) else -1
theorem whyF_m {n : Int} {cs : List RCross} {pl : List RPl} (h : companyB n cs pl = false) : whyF n cs pl = -1 := if_neg (by rw [h]; simp)
theorem whyF_1 {n : Int} {cs : List RCross} {pl : List RPl} (h : companyB n cs pl = true) (h1 : ¬ orderF n.toNat cs = upN n.toNat) : whyF n cs pl = 1 := by rw [whyF, if_pos h, if_neg h1]
theorem whyF_2 {n : Int} {cs : List RCross} {pl : List RPl} (h : companyB n cs pl = true) (h1 : orderF n.toNat cs = upN n.toNat) (h2 : ¬ woundL n.toNat cs = []) : whyF n cs pl = 2 := by rw [whyF, if_pos h, if_pos h1, if_neg h2]
theorem whyF_3 {n : Int} {cs : List RCross} {pl : List RPl} (h : companyB n cs pl = true) (h1 : orderF n.toNat cs = upN n.toNat) (h2 : woundL n.toNat cs = []) (h3 : canF pl (upN n.toNat) = false) : whyF n cs pl = 3 := by rw [whyF, if_pos h, if_pos h1, if_pos h2, if_neg (by rw [h3]; simp)]
theorem whyF_0 {n : Int} {cs : List RCross} {pl : List RPl} (h : companyB n cs pl = true) (h1 : orderF n.toNat cs = upN n.toNat) (h2 : woundL n.toNat cs = []) (h3 : canF pl (upN n.toNat) = true) : whyF n cs pl = 0 := by rw [whyF, if_pos h, if_pos h1, if_pos h2, if_pos h3]
open Go.RowKit
theorem swapL_swapL : ∀ (l : List Int) (k : Nat), k + 1 < l.length → swapL (swapL l k) k = l := by
 intro l
 induction l with
 | nil => intro k h; simp at h
 | cons a l ih =>
  intro k h
  cases k with
  | zero =>
   match l, h with
   | b :: l, _ => rw [swapL_zero, swapL_zero]
  | succ k => rw [swapL_succ, swapL_succ, ih k (by simpa using h)]
theorem swapL_at {l : List Int} {k : Nat} (h : k + 1 < l.length) : (swapL l k).getD k 0 = l.getD (k + 1) 0 := by
 unfold swapL
 simp only [List.getD_eq_getElem?_getD, List.getElem?_set, List.length_set]
 rw [if_neg (show ¬ k + 1 = k by omega)]
 simp only [if_true]
 rw [if_pos (show k < l.length by omega), Option.getD_some]
theorem swapL_at1 {l : List Int} {k : Nat} (h : k + 1 < l.length) : (swapL l k).getD (k + 1) 0 = l.getD k 0 := by
 unfold swapL
 simp only [List.getD_eq_getElem?_getD, List.getElem?_set, List.length_set]
 simp only [if_true]
 rw [if_pos h, Option.getD_some]
theorem swapL_ne {l : List Int} {k j : Nat} (h1 : j ≠ k) (h2 : j ≠ k + 1) : (swapL l k).getD j 0 = l.getD j 0 := by
 unfold swapL
 simp only [List.getD_eq_getElem?_getD, List.getElem?_set, List.length_set]
 rw [if_neg (fun e => h2 e.symm), if_neg (fun e => h1 e.symm)]
theorem upN_getD {n i : Nat} (h : i < n) : (upN n).getD i 0 = (i : Int) := by
 unfold upN
 rw [List.getD_eq_getElem?_getD, List.getElem?_map, List.getElem?_range h]; rfl
theorem ord_ne {n : Nat} {o : List Int} (h : IsOrd n o) {i j x y : Nat} (hi : i < n) (hj : j < n) (hij : i ≠ j) (hx : o.getD i 0 = (x : Int)) (hy : o.getD j 0 = (y : Int)) : x ≠ y := by
 have hl := h.len
 have h1 : i < o.length := by omega
 have h2 : j < o.length := by omega
 have := h.ne h1 h2 hij
 rw [List.getD_eq_getElem?_getD, List.getElem?_eq_getElem h1, Option.getD_some] at hx
 rw [List.getD_eq_getElem?_getD, List.getElem?_eq_getElem h2, Option.getD_some] at hy
 intro e
 subst e
 exact this (by rw [hx, hy])
structure Adds (n : Nat) (t t' : List (List Int)) (x y : Nat) (d : Int) : Prop where
 sq : Sq n t'
 cell : ∀ i j, cellT t' i j = if (i = x ∧ j = y) ∨ (i = y ∧ j = x) then cellT t i j + d else cellT t i j
theorem Adds.st {n : Nat} {o : List Int} {t t' : List (List Int)} {x y : Nat} {d : Int} (h : IsSt n (o, t)) (ha : Adds n t t' x y d) : IsSt n (o, t') := by
 refine ⟨h.ord, ha.sq, fun i j => ?_⟩
 show cellT t' i j = cellT t' j i
 have hs : cellT t i j = cellT t j i := h.sym i j
 rw [ha.cell, ha.cell, hs]
 by_cases h1 : (i = x ∧ j = y) ∨ (i = y ∧ j = x)
 ·rw [if_pos h1, if_pos (h1.symm.imp (fun e => ⟨e.2, e.1⟩) (fun e => ⟨e.2, e.1⟩))]
 ·rw [if_neg h1, if_neg (fun e => h1 (e.symm.imp (fun e => ⟨e.2, e.1⟩) (fun e => ⟨e.2, e.1⟩)))]
theorem step_at {n : Nat} {o : List Int} {t : List (List Int)} (h : IsSt n (o, t)) {k : Nat} (hk : k + 1 < n) (f : Bool) {x y : Nat} (hx : o.getD k 0 = (x : Int)) (hy : o.getD (k + 1) 0 = (y : Int)) :
  x < n ∧ y < n ∧ x ≠ y ∧ ∃ t', twStep (o, t) ((k : Int), f) = (swapL o k, t') ∧ Adds n t t' x y (stepB f) ∧ IsSt n (swapL o k, t') := by
 obtain ⟨x', y', hx', hy', hne, e1, e2, e3, e4⟩ := pair_of h.ord hk
 have ex : x = x' := by have := hx.symm.trans e1; omega
 have ey : y = y' := by have := hy.symm.trans e2; omega
 subst ex ey
 have hst := h.step (c := ((k : Int), f)) ⟨by simp, by simp; omega⟩
 rw [twStep_of (_n := n) (c := ((k : Int), f)) e3 e4] at hst ⊢
 exact ⟨hx', hy', hne, _, rfl, ⟨hst.sq, fun i j => add2_cell h.sq hx' hy' hne _ i j⟩, hst⟩
def ParSt (n : Nat) (st : List Int × List (List Int)) : Prop := ∀ p q : Nat, p < q → q < n → ∀ a b : Nat, st.1.getD p 0 = (a : Int) → st.1.getD q 0 = (b : Int) → cellT st.2 a b % 2 = if b < a then 1 else 0
theorem ParSt.start (n : Nat) : ParSt n (upN n, zeroT n) := by
 intro p q hpq hq a b ha hb
 have ha : (upN n).getD p 0 = (a : Int) := ha
 have hb : (upN n).getD q 0 = (b : Int) := hb
 rw [upN_getD (by omega)] at ha
 rw [upN_getD (by omega)] at hb
 show cellT (zeroT n) a b % 2 = _
 rw [zeroT_cell, if_neg (by omega)]; rfl
theorem ParSt.step {n : Nat} {o : List Int} {t : List (List Int)} (h : IsSt n (o, t)) (hp : ParSt n (o, t)) {k : Nat} (hk : k + 1 < n) (f : Bool) : ParSt n (twStep (o, t) ((k : Int), f)) := by
 have hl : o.length = n := h.ord.len
 obtain ⟨x, y, _, _, _, ex, ey, _, _⟩ := pair_of h.ord hk
 obtain ⟨hx, hy, hne, t', e, ad, s'⟩ := step_at h hk f ex ey
 rw [e]
 have other : ∀ p q a b : Nat, p < q → q < n → ¬ (p = k ∧ q = k + 1) → o.getD p 0 = (a : Int) → o.getD q 0 = (b : Int) → cellT t' a b % 2 = if b < a then 1 else 0 := by
  intro p q a b hpq hq hno ha hb
  rw [ad.cell, if_neg, ]
  ·exact hp p q hpq hq a b ha hb
  ·rintro (⟨rfl, rfl⟩ | ⟨rfl, rfl⟩)
   ·have h1 : p = k := Classical.byContradiction fun hn => ord_ne h.ord (show p < n by omega) (show k < n by omega) hn ha ex rfl
    have h2 : q = k + 1 := Classical.byContradiction fun hn => ord_ne h.ord hq hk hn hb ey rfl
    exact hno ⟨h1, h2⟩
   ·have h1 : p = k + 1 := Classical.byContradiction fun hn => ord_ne h.ord (show p < n by omega) hk hn ha ey rfl
    have h2 : q = k := Classical.byContradiction fun hn => ord_ne h.ord hq (show k < n by omega) hn hb ex rfl
    omega
 intro p q hpq hq a b ha hb
 have ga : (swapL o k).getD p 0 = (a : Int) := ha
 have gb : (swapL o k).getD q 0 = (b : Int) := hb
 clear ha hb
 show cellT t' a b % 2 = _
 by_cases h1 : p = k
 ·subst h1
  rw [swapL_at (by omega)] at ga
  by_cases h2 : q = p + 1
  ·subst h2
   rw [swapL_at1 (by omega)] at gb
   have ea : a = y := by have := ga.symm.trans ey; omega
   have eb : b = x := by have := gb.symm.trans ex; omega
   subst ea eb
   have h3 : cellT t b a % 2 = if a < b then 1 else 0 := hp p (p + 1) (by omega) hq b a ex ey
   have h4 : cellT t a b = cellT t b a := h.sym a b
   rw [ad.cell, if_pos (.inr ⟨rfl, rfl⟩), h4]
   have hs : stepB f = 1 ∨ stepB f = -1 := by cases f; exact .inr rfl; exact .inl rfl
   by_cases h5 : a < b
   ·rw [if_pos h5] at h3
    rw [if_neg (by omega)]
    omega
   ·rw [if_neg h5] at h3
    rw [if_pos (by omega)]
    omega
  ·rw [swapL_ne (by omega) h2] at gb
   exact other (p + 1) q a b (by omega) hq (by omega) ga gb
 ·by_cases h2 : p = k + 1
  ·subst h2
   rw [swapL_at1 (by omega)] at ga
   rw [swapL_ne (by omega) (by omega)] at gb
   exact other k q a b (by omega) hq (by omega) ga gb
  ·rw [swapL_ne h1 h2] at ga
   by_cases h3 : q = k
   ·subst h3
    rw [swapL_at (by omega)] at gb
    exact other p (q + 1) a b (by omega) hk (by omega) ga gb
   ·by_cases h4 : q = k + 1
    ·subst h4
     rw [swapL_at1 (by omega)] at gb
     exact other p k a b (by omega) (by omega) (by omega) ga gb
    ·rw [swapL_ne h3 h4] at gb
     exact other p q a b hpq hq (by omega) ga gb
theorem cross_nat {n : Nat} {c : RCross} (h : 0 ≤ c.1 ∧ c.1 ≤ (n : Int) - 2) : ∃ k : Nat, c = ((k : Int), c.2) ∧ k + 1 < n := ⟨c.1.toNat, by rw [show ((c.1.toNat : Nat) : Int) = c.1 by omega], by omega⟩
theorem ParSt.fold {n : Nat} : ∀ (cs : List RCross) {st : List Int × List (List Int)}, IsSt n st → ParSt n st → (∀ c ∈ cs, 0 ≤ c.1 ∧ c.1 ≤ (n : Int) - 2) → ParSt n (cs.foldl twStep st) := by
 intro cs
 induction cs with
 | nil => intro st _ h _; exact h
 | cons c cs ih =>
  intro st h hp hc
  rw [List.foldl_cons]
  have hb := hc c List.mem_cons_self
  refine ih (h.step hb) ?_ (fun x hx => hc x (List.mem_cons_of_mem _ hx))
  obtain ⟨k, e, hk⟩ := cross_nat hb
  rw [e]
  exact ParSt.step (o := st.1) (t := st.2) h hp hk _
theorem twSt_app (n : Nat) (a b : List RCross) : twSt n (a ++ b) = b.foldl twStep (twSt n a) := by unfold twSt; rw [List.foldl_append]
/- reduced crossings -/
theorem cancel {n : Nat} {st : List Int × List (List Int)} (h : IsSt n st) {l c : RCross} (hb : 0 ≤ l.1 ∧ l.1 ≤ (n : Int) - 2) (h1 : l.1 = c.1) (h2 : l.2 ≠ c.2) : twStep (twStep st l) c = st := by
 obtain ⟨o, t⟩ := st
 have hl : o.length = n := h.ord.len
 obtain ⟨k, e, hk⟩ := cross_nat hb
 have ec : c = ((k : Int), c.2) := by rw [show c = (c.1, c.2) from rfl, ← h1, e]
 rw [e, ec]
 obtain ⟨x, y, _, _, _, ex, ey, _, _⟩ := pair_of h.ord hk
 obtain ⟨_, _, hne, t1, e1, a1, s1⟩ := step_at h hk l.2 ex ey
 obtain ⟨_, _, _, t2, e2, a2, s2⟩ := step_at s1 hk c.2 ((swapL_at (by omega)).trans ey) ((swapL_at1 (by omega)).trans ex)
 rw [e1, e2, swapL_swapL o k (by omega)]
 have : t2 = t := by
  refine sq_ext a2.sq h.sq (fun i j _ _ => ?_)
  rw [a2.cell, a1.cell]
  have hs : stepB l.2 + stepB c.2 = 0 := by
   cases hl2 : l.2 <;> cases hc2 : c.2 <;> simp [hl2, hc2] at h2 <;> rfl
  by_cases h1 : (i = x ∧ j = y) ∨ (i = y ∧ j = x)
  ·rw [if_pos h1, if_pos h1.symm]; show _ = cellT t i j; omega
  ·rw [if_neg h1, if_neg (fun e => h1 e.symm)]
 rw [this]
theorem red_split {out : List RCross} (h : 0 < out.length) : out = out.take (out.length - 1) ++ [lastC out] := by
 unfold lastC
 rw [List.getD_eq_getElem?_getD, List.getElem?_eq_getElem (show out.length - 1 < out.length by omega), Option.getD_some]
 have := take_snoc_l out (show out.length - 1 < out.length by omega)
 rw [show out.length - 1 + 1 = out.length by omega, List.take_length] at this
 exact this
theorem red_step_st {n : Nat} {out : List RCross} {c : RCross} (h : ∀ c ∈ out, 0 ≤ c.1 ∧ c.1 ≤ (n : Int) - 2) (hc : 0 ≤ c.1 ∧ c.1 ≤ (n : Int) - 2) : twSt n (redStep out c) = twStep (twSt n out) c ∧ ∀ x ∈ redStep out c, 0 ≤ x.1 ∧ x.1 ≤ (n : Int) - 2 := by
 unfold redStep
 by_cases hu : undoB out c = true
 ·rw [if_pos hu]
  unfold undoB at hu
  rw [Bool.and_eq_true, Bool.and_eq_true, decide_eq_true_eq, decide_eq_true_eq] at hu
  obtain ⟨h0, h1, h2⟩ := hu
  have hsp := red_split h0
  have h2 : (lastC out).2 ≠ c.2 := by simpa using h2
  refine ⟨?_, fun x hx => h x (List.mem_of_mem_take hx)⟩
  have e1 : twSt n out = twStep (twSt n (out.take (out.length - 1))) (lastC out) := by
   conv => lhs; rw [hsp]
   rw [twSt_app]; rfl
  rw [e1]
  have hm : lastC out ∈ out := by
   have : lastC out ∈ out.take (out.length - 1) ++ [lastC out] := by simp
   rwa [← hsp] at this
  exact (cancel (IsSt.tw (fun x hx => h x (List.mem_of_mem_take hx))) (h _ hm) h1 h2).symm
 ·rw [if_neg hu, twSt_app]
  exact ⟨rfl, fun x hx => (List.mem_append.1 hx).elim (h x) (fun e => by rw [List.mem_singleton.1 e]; exact hc)⟩
theorem red_state {n : Nat} : ∀ (cs out : List RCross), (∀ c ∈ out, 0 ≤ c.1 ∧ c.1 ≤ (n : Int) - 2) → (∀ c ∈ cs, 0 ≤ c.1 ∧ c.1 ≤ (n : Int) - 2) → twSt n (cs.foldl redStep out) = cs.foldl twStep (twSt n out) ∧ ∀ x ∈ cs.foldl redStep out, 0 ≤ x.1 ∧ x.1 ≤ (n : Int) - 2 := by
 intro cs
 induction cs with
 | nil => intro out h _; exact ⟨rfl, h⟩
 | cons c cs ih =>
  intro out h hc
  rw [List.foldl_cons, List.foldl_cons]
  obtain ⟨e1, e2⟩ := red_step_st h (hc c List.mem_cons_self)
  rw [← e1]
  exact ih _ e2 (fun x hx => hc x (List.mem_cons_of_mem _ hx))
theorem redF_state {n : Nat} {cs : List RCross} (h : ∀ c ∈ cs, 0 ≤ c.1 ∧ c.1 ≤ (n : Int) - 2) : twSt n (redF cs) = twSt n cs ∧ ∀ x ∈ redF cs, 0 ≤ x.1 ∧ x.1 ≤ (n : Int) - 2 := red_state cs [] (fun _ hx => by simp at hx) h
theorem redF_valid {n : Nat} {cs : List RCross} (h : crossesB n cs = true) : crossesB n (redF cs) = true := by
 obtain ⟨h1, h2, h3⟩ := crosses_len h
 have h4 := (redF_state h3).2
 have h5 := redF_all cs
 refine crosses_t (inB_iff.2 h1) (by omega) ?_
 rw [List.all_eq_true]
 intro c hc
 exact inB_iff.2 (h4 c hc)
/- going home -/
open Go.RowKit
def slLen : Value → Nat
 | .slice _ n _ => n
 | _ => 0
def boolN : Value → Nat
 | .bool b => if b = true then 1 else 0
 | _ => 0
def Apart (v u : Value) : Prop := ∀ b ∈ v.ownBlock.toList, b ∉ u.ownBlock.toList
structure SortSt (m : Nat) (l d o : List Int) : Prop where
 ord : IsOrd m o
 eq : swapsF l = d ++ swapsF o
theorem SortSt.len {m : Nat} {l d o : List Int} (h : SortSt m l d o) : d.length + inv o = inv l := by
 have := congrArg List.length h.eq
 rw [swapsF_len, List.length_append, swapsF_len] at this
 exact this.symm
theorem SortSt.step {m : Nat} {l d o : List Int} (h : SortSt m l d o) {k : Nat} (hk : FirstDesc o k) : SortSt m l (d ++ [(k : Int)]) (swapL o k) := by
 refine ⟨h.ord.swap (by have := hk.lt; rwa [h.ord.len] at this), ?_⟩
 rw [h.eq, swapsF_step hk, List.append_assoc]; rfl
theorem inv_49 {m : Nat} {l : List Int} (h : IsOrd m l) (hm : m ≤ 7) : inv l ≤ 49 := by
 have h1 := inv_le l
 rw [h.len] at h1
 have : m * m ≤ 7 * 7 := Nat.mul_le_mul hm hm
 omega
theorem SortSt.end_ {m : Nat} {l d o : List Int} (h : SortSt m l d o) (h0 : inv o = 0) : swapsF l = d := by rw [h.eq, swapsF_zero h0, List.append_nil]
def UpTo (o : List Int) (k : Nat) : Prop := ∀ j (_ : j < k) (h : j + 1 < o.length), o[j] < o[j + 1]
theorem UpTo.zero (o : List Int) : UpTo o 0 := fun j h => absurd h (by omega)
theorem UpTo.succ {o : List Int} {k : Nat} (h : UpTo o k) (hk : k + 1 < o.length) (hx : o[k] < o[k + 1]) : UpTo o (k + 1) := fun j hj h1 => by
 rcases Nat.lt_succ_iff_lt_or_eq.1 hj with h2 | rfl
 ·exact h j h2 h1
 ·exact hx
theorem UpTo.all {o : List Int} {k : Nat} (h : UpTo o k) (hk : o.length ≤ k + 1) : inv o = 0 := no_desc o (fun j hj => h j (by omega) hj)
theorem UpTo.first {m : Nat} {o : List Int} {k : Nat} (h : UpTo o k) (ho : IsOrd m o) (hk : k + 1 < o.length) (hx : ¬ o[k] < o[k + 1]) : FirstDesc o k :=
 ⟨hk, fun j hj => h j hj (by omega), by have := ho.ne (i := k) (j := k + 1) (by omega) hk (by omega); omega⟩
theorem own_lt {w : World} {B : Nat} {e : TypeId} {size n : Nat} {v : Value} {xs : List Value} (h : w.ownsRow B e size v n xs) : ∀ b ∈ v.ownBlock.toList, B ≤ b ∧ b < w.heap.size := fun b hb => (fresh_of h).2 b hb
theorem apart_new {w w' : World} {B B' n n' : Nat} {e e' : TypeId} {size size' : Nat} {v u : Value} {xs xs' : List Value} (h : w'.ownsRow B e size v n xs) (hu : w.ownsRow B' e' size' u n' xs') (hB : w.heap.size ≤ B) : Apart v u := fun b hb hb' => by
 have h1 := (own_lt h b hb).1
 have h2 := (own_lt hu b hb').2
 omega
theorem apart_grow {w : World} {B n : Nat} {e : TypeId} {size : Nat} {v u u' : Value} {xs : List Value} (h : w.ownsRow B e size v n xs) (hap : Apart v u) {N : Nat} (hN : w.heap.size ≤ N) (hat : u'.ownBlock = u.ownBlock ∨ u'.ownBlock = some N) : Apart v u' := fun b hb hb' => by
 rcases hat with e | e
 ·rw [e] at hb'; exact hap b hb hb'
 ·rw [e] at hb'
  have h1 := (own_lt h b hb).2
  simp at hb'
  omega
set_option maxHeartbeats 4000000 in
set_option maxRecDepth 100000 in
theorem specSorting_any (m : Nat) (v : Value) (l : List Int) (w : World) (h : RdL cInt 1 w v l) (hord : IsOrd m l) (hm : 1 ≤ m ∧ m ≤ 7) :
  Calls Tryz.prog 113 #[v] w fun e w' => ∃ v', e = .returned v' ∧ w'.ownsRow w.heap.size 3 1 v' (swapsF l).length ((swapsF l).flatMap cInt) ∧ Below w.heap.size w w' := by
 have h0 := h
 obtain ⟨A, c, rfl, h1, h2⟩ := h.form
 obtain ⟨iI, hiI, hzI0, hzI1, hzI2⟩ := info_parts infoInt
 have hl7 : l.length ≤ 7 := by rw [hord.len]; omega
 have hi49 := inv_49 hord hm.2
 have HO := Lib.hid hord
 have HS0 : Hid (SortSt m l [] l) := ⟨hord, rfl⟩
 clear hord
 have hownA := World.ownsRow_made (size := 1) (e := 3) w #[] 0 (Nat.le_refl _) (by simp [maxLen]) rfl
 have hown1 : ((w.alloc (.cells #[] 3)).alloc (.cells #[] 3)).ownsRow (w.heap.size + 1) 3 1 (.slice (some ⟨w.heap.size + 1, 0, none⟩) 0 0) 0 [] := by
  have := World.ownsRow_made (size := 1) (e := 3) (w.alloc (.cells #[] 3)) #[] 0 (Nat.le_refl _) (by simp [maxLen]) rfl
  simpa using this
 have hownB := hownA.alloc (.cells #[] 3)
 have hal : Below w.heap.size w ((w.alloc (.cells #[] 3)).alloc (.cells #[] 3)) := ((Below.refl _ _).alloc (Nat.le_refl _) _).alloc (by simp) _
 have h3 := h0.below hal
 go_enter Tryz.func113, Tryz.ntmps113
 go_wp2_with (at_builtin; refine wpList_append_empty _ rfl (.tmp 7) (.tmp 8) _ rfl (w.heap.size + 1) 3 iI _ 1 8 Tryz.underlying28 hiI hzI0 hzI1 hzI2 rfl (by omega) (w.heap.size + 1) rfl hown1 _ l.length (l.flatMap cInt) rfl h3 (oneCell_flat cInt_one l) (by simp [maxLen] <;> omega) (by omega) (by simp) ?_; intro v1 w1 own1 b1 at1)
 have hb1 : Below w.heap.size w w1 := Below.trans hal (b1.mono (by simp <;> omega))
 have hz1 := hb1.size
 have hp1 := own_below hownB b1
 have hap1 : Apart v1 (.slice (some ⟨w.heap.size, 0, none⟩) 0 0) := fun b hb hb' => by
  have := (own_lt own1 b hb).1
  simp [Value.ownBlock] at hb'
  omega
 have HAP := Lib.hid hap1
 have own1' := own_mono own1 (Nat.zero_le _)
 clear hownA hown1 hownB hal h3 b1 at1 own1 hap1
 obtain ⟨A1, c1, rfl, _, _⟩ := (RdS.of_own own1').form
 go_wp2_with fail
 go_loopw [3, 4, 5] (fun p q _ wr => ∃ d o : List Int, wr.ownsRow w.heap.size 3 1 p d.length (d.flatMap cInt) ∧ wr.ownsRow 0 3 1 q o.length (o.flatMap cInt) ∧ Hid (Apart q p) ∧ Hid (SortSt m l d o) ∧ Below w.heap.size w wr) (fun p _ _ _ => 49 - slLen p)
 case atStart => exact ⟨[], l, hp1, own1', HAP, HS0, hb1⟩
 case round =>
  obtain ⟨d, o, hp, hq, hap, hst, hb⟩ := hrel
  clear hp1 own1' HAP HS0 hb1 hz1
  have hrq : RdL cInt 1 wr _ o := RdS.of_own hq
  obtain ⟨Ap, cp, rfl, _, _⟩ := (RdS.of_own hp).form
  obtain ⟨Aq, cq, rfl, _, _⟩ := hrq.form
  have hsl := hst.out.len
  have hol : o.length ≤ 7 := by rw [hst.out.ord.len]; omega
  have Hok := Lib.hid (hst.out.ord.okB hm)
  have hz := hb.size
  have hC := specCountInv_any _ o wr hrq Hok.out
  obtain ⟨I, hI⟩ : ∃ I, inv o = I := ⟨_, rfl⟩
  rw [hI] at hC hsl
  have HI := Lib.hid hI
  clear hI
  have hd49 : d.length + I ≤ 49 := by omega
  clear hsl
  go_wp2_with fail
  refine hC.mono ?_
  rintro e w2 ⟨rfl, hb2⟩
  have hz2 := hb2.size
  have hp2 := own_below hp hb2
  have hq2 := own_below hq hb2
  have hrq2 : RdL cInt 1 w2 _ o := RdS.of_own hq2
  have hbb : Below w.heap.size w w2 := bl_trans hb hb2
  clear hp hq hC hb hb2
  by_cases hI0 : I = 0
  ·subst hI0
   clear hd49
   go_wp2_with fail
   go_ret
   rw [hst.out.end_ HI.out]
   exact ⟨_, rfl, hp2, hbb⟩
  ·have hI1 : 0 < I := by omega
   have hol2 : 2 ≤ o.length := by
    apply Classical.byContradiction
    intro hn
    have := (UpTo.zero o).all (by omega)
    rw [HI.out] at this
    omega
   clear hI0
   have hIi : (0 : Int) < (I : Int) := by omega
   go_wp2_with fail
   go_loopw [5] (fun i wi => ∃ (k d2 : Nat), i = .int .i64 k ∧ k + 1 < o.length ∧ Hid (UpTo o k) ∧ wi = w2.drewN d2) (fun i _ => 7 - (intOf i).toNat)
   case atStart => exact ⟨0, 0, rfl, by omega, UpTo.zero o, rfl⟩
   case round =>
    obtain ⟨k, d2, rfl, hk, hup, rfl⟩ := hrel
    obtain ⟨g1, off1, rfl, hg1, hc1⟩ := hrq2.cell (k := k) cInt_len (by omega) (by omega)
    obtain ⟨g2, off2, hA2, hg2, hc2⟩ := hrq2.cell (k := k + 1) cInt_len (by omega) hk
    injection hA2 with hA2
    injection hA2 with e1 e2
    subst e1 e2
    have k1 := hc1 0 _ rfl
    have k2 := hc2 0 _ rfl
    simp only [Nat.add_zero, Nat.mul_one] at k1 k2
    clear hc1 hc2
    have e1 : ((k : Int) + 1).toNat = k + 1 := by omega
    have HX : Hid (o[k] < o[k + 1] → UpTo o (k + 1)) := fun hx => hup.out.succ hk hx
    have HY : Hid (¬ o[k] < o[k + 1] → FirstDesc o k) := fun hx => hup.out.first hst.out.ord hk hx
    by_cases hx : o[k] < o[k + 1]
    ·have hk2 : k + 1 + 1 < o.length := by
      apply Classical.byContradiction
      intro hn
      have := (HX.out hx).all (by omega)
      rw [HI.out] at this
      omega
     have hxu := HX.out hx
     have HXU := Lib.hid hxu
     clear hxu HX HY
     have hx' : decide (o[k] < o[k + 1]) = true := decide_eq_true hx
     generalize o[k + 1] = y at *
     generalize o[k] = x at *
     go_wp2_with fail
     go_quiet (fail)
     rename_i nq
     go_wp2_with fail
     go_roundw
     case rel => exact ⟨k + 1, _, by go_num, hk2, HXU.out, rfl⟩
     case measure => simp [intOf]; omega
    ·have hfd := HY.out hx
     have HFD := Lib.hid hfd
     clear hfd HX HY
     have hx' : decide (o[k] < o[k + 1]) = false := decide_eq_false hx
     generalize o[k + 1] = y at *
     generalize o[k] = x at *
     go_wp2_with fail
     go_quiet (fail)
     rename_i nq
     have hq3 := own_below hq2 (below_drewN (Below.refl w2.heap.size w2) nq)
     go_wp2_with fail
     refine (specSwap_any _ o k _ (hrq2.below (below_drewN (Below.refl _ _) _)) Hok.out hk).mono ?_
     rintro e w3 ⟨v3, rfl, own3, hb3⟩
     obtain ⟨A3, c3, rfl, _, _⟩ := (RdS.of_own own3).form
     have hb23 : Below w2.heap.size w2 w3 := bl_trans (below_drewN (Below.refl _ _) _) hb3
     have hz3 := hb23.size
     have hp3 := own_below hp2 hb23
     have own3' : w3.ownsRow w2.heap.size 3 1 (.slice A3 o.length c3) (swapL o k).length ((swapL o k).flatMap cInt) := by rw [swapL_len]; exact own_mono own3 (by simp)
     have hap3 := Lib.hid (apart_new own3' hp2 (Nat.le_refl _))
     have hbb3 : Below w.heap.size w w3 := bl_trans hbb hb23
     have HS3 : Hid (SortSt m l (d ++ [(k : Int)]) (swapL o k)) := hst.out.step HFD.out
     have H3 := Lib.hid own3'
     clear own3 own3' hb3 hb23 hq3 hq2 hrq2 hrq
     go_wp2_with (at_builtin; refine wpList_appendB _ rfl (.tmp 31) (.tmp 33) _ rfl w.heap.size 3 iI _ 1 8 Tryz.underlying28 hiI hzI0 hzI1 hzI2 rfl (by omega) _ d.length (d.flatMap cInt) rfl (hp3.alloc _) _ 1 [.int .i64 k] rfl (rdS_new w3 #[.int .i64 k] _ 1 1 rfl (by simp [maxLen])) (by simp [Value.oneCell']) (by simp [maxLen]; omega) (by omega) (by simp; omega) ?_; intro v4 w4 own4 gr4 at4)
     obtain ⟨A4, c4, rfl, _, _⟩ := (RdS.of_own own4).form
     have hch := Chg.of_grown gr4
     have hb4 := below_own (hp3.alloc _) gr4 (by simp; omega)
     have q4 := Lib.hid (own_chg (H3.out.alloc _) hch hap3.out)
     have ap4 := Lib.hid (apart_grow (H3.out.alloc _) hap3.out (Nat.le_refl _) at4)
     clear gr4 at4 hch
     go_wp2_with fail
     go_roundw
     case rel => exact ⟨d ++ [(k : Int)], swapL o k, by rw [List.length_append, List.flatMap_append]; exact own4, own_mono q4.out (Nat.zero_le _), ap4.out, HS3.out, (hbb3.alloc (by omega) _).trans hb4⟩
     case measure => simp [slLen]; omega
def wayL (sw : List Int) : List RCross := sw.map (fun k => (k, true))
theorem wayL_snoc (sw : List Int) {k : Nat} (h : k < sw.length) : wayL (sw.take (k + 1)) = wayL (sw.take k) ++ [(sw[k], true)] := by unfold wayL; rw [take_snoc_l sw h, List.map_append]; rfl
theorem wayL_len (sw : List Int) : (wayL sw).length = sw.length := by simp [wayL]
set_option maxHeartbeats 4000000 in
set_option maxRecDepth 100000 in
theorem specBringHome_any (n : Int) (v : Value) (cs : List RCross) (w : World) (h : RdL cCross 2 w v cs) :
  Calls Tryz.prog 94 #[.int .i64 n, v] w fun e w' => ∃ v', e = .returned (.tuple #[v', .bool (crossesB n cs)]) ∧ w'.ownsRow w.heap.size 79 2 v' (homeL n cs).length ((homeL n cs).flatMap cCross) ∧ Below w.heap.size w w' := by
 have h0 := h
 obtain ⟨A, c, rfl, h1, h2⟩ := h.form
 obtain ⟨iX, hiX, hzX0, hzX1, hzX2⟩ := info_parts infoCross
 have hownA := World.ownsRow_made (size := 2) (e := 79) w #[] 0 (Nat.le_refl _) (by simp [maxLen]) rfl
 have hal : Below w.heap.size w (w.alloc (.cells #[] 79)) := (Below.refl _ _).alloc (Nat.le_refl _) _
 have h3 := h0.below hal
 go_enter Tryz.func94, Tryz.ntmps94
 go_wp2_with fail
 refine twoB (specCrossesOk_any n _ cs _ h3) (fun w1 hq hb1 => ?_) (fun w1 hq hb1 => ?_)
 ·obtain ⟨hn, hlen, hcs⟩ := crosses_len hq.out
  obtain ⟨m, rfl⟩ := Int.eq_ofNat_of_zero_le (show 0 ≤ n by omega)
  have hm : 1 ≤ m ∧ m ≤ 7 := by omega
  have hz1 := hb1.size
  simp at hz1
  have hb01 : Below w.heap.size w w1 := bl_trans hal hb1
  have hown1 := own_below hownA hb1
  have hO := specOrderAfter_any (m : Int) _ cs w1 (h0.below hb01)
  rw [ordR_t hq.out] at hO
  have HOrd := Lib.hid (IsOrd.order hcs)
  have HQ := Lib.hid hq.out
  have HH := Lib.hid (homeL_t hq.out)
  have Hm := Lib.hid hm
  clear hal h3 hownA hb1 hq hcs hn
  go_wp2_with fail
  refine hO.mono ?_
  rintro e w2 ⟨v2, rfl, own2, hb2⟩
  have hr2 : RdL cInt 1 w2 v2 (orderF m cs) := RdS.of_own own2
  have hb02 : Below w.heap.size w w2 := bl_trans hb01 hb2
  have hz2 := hb2.size
  have hown2 := own_below hown1 hb2
  clear own2 hb2 hO hown1 hb01
  obtain ⟨A2, c2, rfl, _, _⟩ := hr2.form
  have hi49 := inv_49 HOrd.out Hm.out.2
  rw [← swapsF_len] at hi49
  go_wp2_with fail
  refine (specSorting_any m _ (orderF m cs) _ hr2 HOrd.out Hm.out).mono ?_
  rintro e w3 ⟨v3, rfl, own3, hb3⟩
  have hb03 : Below w.heap.size w w3 := bl_trans hb02 hb3
  have hz3 := hb3.size
  have hown3 := own_below hown2 hb3
  have hap3 := Lib.hid (apart_new own3 hown2 (Nat.le_refl _))
  have own3' := own_mono own3 (Nat.zero_le _)
  obtain ⟨sw, hsw⟩ : ∃ sw, swapsF (orderF m cs) = sw := ⟨_, rfl⟩
  rw [hsw] at own3' hi49
  have HH2 : Hid (homeL (m : Int) cs = wayL sw) := by rw [← hsw]; exact HH.out
  clear own3 hb3 hr2 hown2 hb02 HH hsw
  obtain ⟨A3, c3, rfl, _, _⟩ := (RdS.of_own own3').form
  go_wp2_with fail
  go_loopw [6, 8] (fun p i wr => ∃ k : Nat, k ≤ sw.length ∧ i = .int .i64 k ∧ wr.ownsRow w.heap.size 79 2 p k ((wayL (sw.take k)).flatMap cCross) ∧ wr.ownsRow 0 3 1 (.slice A3 sw.length c3) sw.length (sw.flatMap cInt) ∧ Hid (Apart (.slice A3 sw.length c3) p) ∧ Below w.heap.size w wr) (fun _ i _ => sw.length - (intOf i).toNat)
  case atStart => exact ⟨0, Nat.zero_le _, rfl, hown3, own3', hap3, hb03⟩
  case round =>
   obtain ⟨k, hk, rfl, hp, hs, hap, hb⟩ := hrel
   clear hown3 own3' hap3 hb03
   have hz := hb.size
   obtain ⟨Ap, cp, rfl, _, _⟩ := (RdS.of_own hp).form
   by_cases hlt : k < sw.length
   ·have hrs : RdL cInt 1 wr (.slice A3 sw.length c3) sw := RdS.of_own hs
    obtain ⟨g, off, rfl, hg, hc⟩ := hrs.cell cInt_len (by omega) hlt
    have k0 := hc 0 _ rfl
    simp only [Nat.add_zero, Nat.mul_one] at k0
    clear hc
    have Hw := Lib.hid (wayL_snoc sw hlt)
    generalize sw[k] = x at *
    go_wp2_with (at_builtin; refine wpList_appendB _ rfl (.tmp 25) (.tmp 31) _ rfl w.heap.size 79 iX _ 2 16 Tryz.underlying24 hiX hzX0 hzX1 hzX2 rfl (by omega) _ k ((wayL (sw.take k)).flatMap cCross) rfl (hp.alloc _) _ 1 [.int .i64 x, .bool true] rfl (rdS_new wr #[.int .i64 x, .bool true] _ 2 1 rfl (by simp [maxLen])) (by simp [Value.oneCell']) (by simp [maxLen]; omega) (by omega) (by simp; omega) ?_; intro v4 w4 own4 gr4 at4)
    obtain ⟨A4, c4, rfl, _, _⟩ := (RdS.of_own own4).form
    have hch := Chg.of_grown gr4
    have hb4 := below_own (hp.alloc _) gr4 (by simp; omega)
    have q4 := Lib.hid (own_chg (hs.alloc _) hch hap.out)
    have ap4 := Lib.hid (apart_grow (hs.alloc _) hap.out (Nat.le_refl _) at4)
    clear gr4 at4 hch
    go_wp2_with fail
    go_roundw
    case rel => exact ⟨k + 1, by omega, by go_num, by rw [Hw.out, List.flatMap_append]; exact own4, q4.out, ap4.out, (hb.alloc (by omega) _).trans hb4⟩
    case measure => simp [intOf]; omega
   ·obtain rfl : k = sw.length := by omega
    rw [List.take_length] at hp
    go_wp2_with fail
    go_ret2
    rw [HQ.out, HH2.out, wayL_len]
    exact ⟨_, rfl, hp, hb⟩
 ·have hb01 : Below w.heap.size w w1 := bl_trans hal hb1
  have hown1 := own_below hownA hb1
  clear hal h3 hownA hb1
  go_wp2_with fail
  go_ret2
  rw [hq.out, homeL_f hq.out]
  exact ⟨_, rfl, hown1, hb01⟩
end Go.Proofs.YteidpejjjphecaaGreatDoor
