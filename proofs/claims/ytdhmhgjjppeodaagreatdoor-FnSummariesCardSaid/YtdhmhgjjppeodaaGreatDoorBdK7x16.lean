/- Several texts in one: Contracts: companies that grow: with, CrossOver, TakeBack. Written by a program (gen_k7.py). Contracts: theatres that become others: becomes, HirePlayer, MovePuppet. Written by a program (gen_k10.py). Contracts: Reduced, Tidy. Written by a program (gen_k8.py). Contracts: Tidy. Written by a program (gen_k8.py). Plain laws: a number put into a list, as the reference puts it; days added; puppets taught. No program in sight. Contract: whether a player knows a puppet (of the reference). The drawing of crossings and of players. Written by a program (gen_w7.py). The drawing of seasons: ascending days; as many shows as possible. Castings in plain words: players who know a puppet and have a free hand; why a company does not play. No program in sight. Crossings in plain words: full turns, even twists at home, unwinding leaves none; reduced crossings lead to the same. No program in sight. Contracts: the exchanges that sort, the way home, of the reference. The state of the search for castings: boxes, the cast so far, the hands that are free. Plain words beside. Castings of the program: the closure that is called with a casting, the search, FirstCasting. Written by a program (gen_l1.py). Castings of the program: castings, FirstCasting, canPlay. Written by a program (gen_l1.py). Castings of the reference: the search, FirstCasting, l17Can. Written by a program (gen_l1.py). Castings of the reference: FirstCasting, l17Can. Written by a program (gen_l1.py). -/
import Derived.Deep.DeepCutAuto
import Derived.Deep.QuietTactic
import Derived.BigQuiet
import Derived.IntWalk
import Derived.Test.YtdhmhgjjppeodaaGreatDoorBdK1x7
import Derived.Test.YtdhmhgjjppeodaaGreatDoorBdK3x9
import Derived.Test.YtdhmhgjjppeodaaGreatDoorBdC1x9
import Derived.Test.YtdhmhgjjppeodaaGreatDoorBdM7x3
import Derived.Test.YtdhmhgjjppeodaaGreatDoorBdW1x3
import Derived.Test.YtdhmhgjjppeodaaGreatDoorBdI7x12
import Derived.Test.YtdhmhgjjppeodaaGreatDoorU3
import Derived.Test.YtdhmhgjjppeodaaGreatDoorBdCPControlx2
import Derived.Test.YtdhmhgjjppeodaaGreatDoorY2
import Derived.Test.YtdhmhgjjppeodaaGreatDoorBdM5x6
import Derived.Test.YtdhmhgjjppeodaaGreatDoorKC
namespace Go.Proofs.YtdhmhgjjppeodaaGreatDoor
open Go.RowKit
def RetCompany (n : Int) (ok : Bool) (d1 : List RCross) (d2 : List RPl) (w : World) (e : Ending) (w' : World) : Prop :=
 ∃ x1 x2 S, e = .returned (.tuple #[.agg #[.int .i64 n, x1, x2], .bool ok]) ∧ OwCompany w' S x1 x2 d1 d2 ∧ Fresh w.heap.size w' S ∧ Below w.heap.size w w'
def withB (n : Int) (cs : List RCross) (pl : List RPl) (l : List RCross) : Bool := companyB n cs pl && companyB n (cs ++ l) pl
def withC (n : Int) (cs : List RCross) (pl : List RPl) (l : List RCross) : List RCross := if withB n cs pl l = true then cs ++ l else cs
theorem with_f {n : Int} {cs l : List RCross} {pl : List RPl} {w w' : World} {e : Ending} (h : withB n cs pl l = false) (hr : RetCompany n false cs pl w e w') : RetCompany n (withB n cs pl l) (withC n cs pl l) pl w e w' := by rw [withC, h]; exact hr
theorem with_t {n : Int} {cs l : List RCross} {pl : List RPl} {w w' : World} {e : Ending} (h : withB n cs pl l = true) (hr : RetCompany n true (cs ++ l) pl w e w') : RetCompany n (withB n cs pl l) (withC n cs pl l) pl w e w' := by rw [withC, h]; exact hr
set_option maxHeartbeats 8000000 in
set_option maxRecDepth 100000 in
theorem l37Add_any (n : Int) (v1 v2 vl : Value) (cs : List RCross) (pl : List RPl) (l : List RCross) (w : World) (h : RdCompany w v1 v2 cs pl) (hv : RdL cCross 2 w vl l) (hll : l.length ≤ 100000) (hsz : szCompany cs pl ≤ 1048576) :
  Calls Tryz.prog 199 #[.agg #[.int .i64 n, v1, v2], vl] w (RetCompany n (withB n cs pl l) (withC n cs pl l) pl w) := by
 obtain ⟨⟨A1, n1, rfl⟩, ⟨A2, n2, rfl⟩⟩ := h.forms
 go_enter Tryz.func199, Tryz.ntmps199
 go_wp2_with fail
 refine (l37Copy_any n _ _ cs pl _ (h.below (by (repeat' (with_reducible first | exact Below.refl _ _ | assumption | refine qS ?_ _ | refine qA ?_ _ | refine qD ?_ | refine qN ?_ _)))) hsz).mono ?_
 rintro e w1 ⟨x1, x2, S, rfl, ow, f1, q1⟩
 obtain ⟨⟨B1, k1, rfl⟩, ⟨B2, k2, rfl⟩⟩ := ow.rd.forms
 have z1 := q1.size
 simp at z1
 have hb : Below w.heap.size w w1 := Below.trans (by (repeat' (with_reducible first | exact Below.refl _ _ | assumption | refine qS ?_ _ | refine qA ?_ _ | refine qD ?_ | refine qN ?_ _))) (q1.mono (by simp <;> omega))
 replace f1 := fresh_mono (B' := w.heap.size + 1 + 1) f1 (by simp) (Nat.le_refl _)
 have Lc : Loc w1 (w.heap.size) [.int .i64 n, .slice A1 cs.length n1, .slice A2 pl.length n2] := ((Loc.new w #[.int .i64 n, .slice A1 cs.length n1, .slice A2 pl.length n2] 27).alloc _).below q1
 have Lr : Loc w1 (w.heap.size + 1) [.int .i64 0, .slice none 0 0, .slice none 0 0] := by
  have := (Loc.new (w.alloc (.cells #[.int .i64 n, .slice A1 cs.length n1, .slice A2 pl.length n2] 27)) #[.int .i64 0, .slice none 0 0, .slice none 0 0] 27).below q1
  simpa using this
 go_upto_region 2 with (fail)
 obtain ⟨g, hgz⟩ : ∃ g, w1.heap.size = g := ⟨_, rfl⟩
 replace Lc : Loc (w1.alloc (.cells #[.int .i64 n, .slice B1 cs.length k1, .slice B2 pl.length k2] 27)) (w.heap.size) [.int .i64 n, .slice A1 cs.length n1, .slice A2 pl.length n2] := Lc.alloc _
 replace Lr : Loc (w1.alloc (.cells #[.int .i64 n, .slice B1 cs.length k1, .slice B2 pl.length k2] 27)) (w.heap.size + 1) [.int .i64 0, .slice none 0 0, .slice none 0 0] := Lr.alloc _
 have Lo : Loc (w1.alloc (.cells #[.int .i64 n, .slice B1 cs.length k1, .slice B2 pl.length k2] 27)) (w1.heap.size) [.int .i64 n, .slice B1 cs.length k1, .slice B2 pl.length k2] := Loc.new w1 #[.int .i64 n, .slice B1 cs.length k1, .slice B2 pl.length k2] 27
 replace hb : Below w.heap.size w (w1.alloc (.cells #[.int .i64 n, .slice B1 cs.length k1, .slice B2 pl.length k2] 27)) := by (repeat' (with_reducible first | exact Below.refl _ _ | assumption | refine qS ?_ _ | refine qA ?_ _ | refine qD ?_ | refine qN ?_ _))
 replace ow := ow.below (w' := (w1.alloc (.cells #[.int .i64 n, .slice B1 cs.length k1, .slice B2 pl.length k2] 27))) (by (repeat' (with_reducible first | exact Below.refl _ _ | assumption | refine qS ?_ _ | refine qA ?_ _ | refine qD ?_ | refine qN ?_ _)))
 have hS : ∀ b ∈ S, b < g := fun b hb => by have := (f1.2 b hb).2; omega
 replace f1 := fresh_mono (w' := (w1.alloc (.cells #[.int .i64 n, .slice B1 cs.length k1, .slice B2 pl.length k2] 27))) f1 (Nat.le_refl _) (by simp)
 have hgW : g < (w1.alloc (.cells #[.int .i64 n, .slice B1 cs.length k1, .slice B2 pl.length k2] 27)).heap.size := by simp; omega
 have hg2 : w.heap.size + 1 + 1 ≤ g := by omega
 clear q1
 generalize w1.alloc (.cells #[.int .i64 n, .slice B1 cs.length k1, .slice B2 pl.length k2] 27) = W at *
 rw [hgz] at Lo ⊢
 clear hgz z1 w1
 have hcl : cs.length ≤ 1048576 := by unfold szCompany at hsz; omega
 obtain ⟨S1, S2, rfl, o1, o2⟩ := ow
 have hv' := hv.below hb
 obtain ⟨Av, cv, rfl, _, _⟩ := hv.form
 obtain ⟨i0, hi0, hz0, hz1, hz2⟩ := info_parts infoCross
 have e1 := o1.2
 subst e1
 have hown : W.ownsRow (w.heap.size + 1 + 1) 74 2 (.slice B1 cs.length k1) cs.length (cs.flatMap cCross) := own_up o1.1 (fun b hb => f1.2 b (List.mem_append_left _ hb))
 have Hf := Lib.hid f1
 have HS := Lib.hid hS
 have O2 := Lib.hid o2
 have Hown := Lib.hid hown
 clear f1 hS o2 hown o1
 have o0 := (Lo 0 _ rfl).1
 have o1 := (Lo 1 _ rfl).1
 have o2 := (Lo 2 _ rfl).1
 have of1 := (Lo 1 _ rfl).2
 go_upto_region 3 with (at_builtin; refine wpList_appendB _ rfl (.tmp 10) (.tmp 11) _ rfl (w.heap.size + 1 + 1) 74 i0 _ 2 16 Tryz.underlying24 hi0 hz0 hz1 hz2 rfl (by omega) _ cs.length (cs.flatMap cCross) rfl Hown.out _ l.length (l.flatMap cCross) rfl hv' (oneCell_flat cCross_one l) (by simp [maxLen]; omega) (by omega) (by omega) ?_; intro v3 w3 own3 gr3 at3; obtain ⟨B3, k3, rfl, _, _⟩ := (RdS.of_own own3).form; have hch := Chg.of_grown gr3; have ho1 := carryChg hch o1 (fun hm => Nat.lt_irrefl _ (HS.out _ (List.mem_append_left _ hm))); have hof1 := carryChgF hch o1 of1 (fun hm => Nat.lt_irrefl _ (HS.out _ (List.mem_append_left _ hm))); clear o0 o1 o2 of1 hv')
 have hc0 : w.heap.size ∉ (Value.slice B1 cs.length k1).ownBlock.toList := fun hm => by have := (Hf.out.2 _ (List.mem_append_left _ hm)).1; omega
 have hc1 : w.heap.size + 1 ∉ (Value.slice B1 cs.length k1).ownBlock.toList := fun hm => by have := (Hf.out.2 _ (List.mem_append_left _ hm)).1; omega
 have hcg : g ∉ (Value.slice B1 cs.length k1).ownBlock.toList := fun hm => Nat.lt_irrefl _ (HS.out _ (List.mem_append_left _ hm))
 replace Lc := (Lc.chg hch hc0).far (g := g) (i := 1) (u := .slice B3 (cs.length + l.length) k3) (by omega)
 replace Lr := (Lr.chg hch hc1).far (g := g) (i := 1) (u := .slice B3 (cs.length + l.length) k3) (by omega)
 replace Lo : Loc (w3.setCell ⟨g, 1, none⟩ (.slice B3 (cs.length + l.length) k3)) (g) [.int .i64 n, .slice B3 (cs.length + l.length) k3, .slice B2 pl.length k2] := (Lo.chg hch hcg).set (i := 1) (v := .slice B1 cs.length k1) rfl
 obtain ⟨_, _, hdj, hdj'⟩ := nodup2 Hf.out.1
 obtain ⟨f3, hd3⟩ := fresh_app own3 at3 (T := S2) (fun b hb => ⟨(Hf.out.2 b (List.mem_append_right _ hb)).2, hdj' b hb⟩)
 have hs3 := gr3.size
 have f2 := fresh_mono (w' := w3) (fresh_right Hf.out) (Nat.le_refl _) hs3
 have fj := fresh_join f3 f2 hd3
 have hgn : ∀ b ∈ (Value.slice B3 (cs.length + l.length) k3).ownBlock.toList ++ S2, b ≠ g := by
  intro b hb e
  subst e
  rcases List.mem_append.1 hb with hb | hb
  ·rcases at3 with h3 | h3
   ·rw [h3] at hb; exact hcg hb
   ·rw [h3] at hb; simp at hb; omega
  ·exact Nat.lt_irrefl _ (HS.out _ (List.mem_append_right _ hb))
 have o3 : OwL 74 cCross 2 w3 (Value.slice B3 (cs.length + l.length) k3).ownBlock.toList (.slice B3 (cs.length + l.length) k3) (cs ++ l) := ⟨by rw [List.length_append, List.flatMap_append]; exact own_mono own3 (Nat.zero_le _), rfl⟩
 have ow3 : OwCompany w3 ((Value.slice B3 (cs.length + l.length) k3).ownBlock.toList ++ S2) (.slice B3 (cs.length + l.length) k3) (.slice B2 pl.length k2) (cs ++ l) pl := ⟨_, _, rfl, o3, O2.out.chg hch hdj'⟩
 have hset : Chg [g] w3 (w3.setCell ⟨g, 1, none⟩ (.slice B3 (cs.length + l.length) k3)) := by repeat' (with_reducible first | exact Chg.refl _ _ | refine qC ?_)
 have ow4 := ow3.chg hset (fun b hb => by have := hgn b hb; simpa using this)
 have f4 := fresh_mono (w' := (w3.setCell ⟨g, 1, none⟩ (.slice B3 (cs.length + l.length) k3))) fj (Nat.le_refl _) hset.size
 have hb3 : Below w.heap.size w (w3.setCell ⟨g, 1, none⟩ (.slice B3 (cs.length + l.length) k3)) := Below.chg (Below.chg hb hch hb.size (fun b hm => by have := (Hf.out.2 b (List.mem_append_left _ hm)).1; omega)) hset (by have := hb.size; omega) (by simp; omega)
 have hgW3 : g < (w3.setCell ⟨g, 1, none⟩ (.slice B3 (cs.length + l.length) k3)).heap.size := by rw [World.size_setCell]; omega
 clear hc0 hc1 hcg hdj hdj' f3 hd3 hs3 f2 fj o3 ow3 hset Hf HS O2 Hown own3 gr3 at3 hch ho1 hof1 hb hgW
 generalize w3.setCell ⟨g, 1, none⟩ (.slice B3 (cs.length + l.length) k3) = W3 at *
 obtain ⟨S3, hS3⟩ : ∃ S3, (Value.slice B3 (cs.length + l.length) k3).ownBlock.toList ++ S2 = S3 := ⟨_, rfl⟩
 rw [hS3] at ow4 f4 hgn
 clear hS3
 have OW := Lib.hid ow4
 have FW := Lib.hid f4
 have HG := Lib.hid hgn
 clear ow4 f4 hgn
 have c0 := (Lc 0 _ rfl).1
 have c1 := (Lc 1 _ rfl).1
 have c2 := (Lc 2 _ rfl).1
 have o0 := (Lo 0 _ rfl).1
 have o1 := (Lo 1 _ rfl).1
 have o2 := (Lo 2 _ rfl).1
 go_wp2_with fail
 refine twoB (specCompanyOk_any n _ _ cs pl _ (h.below hb3)) (fun w4 hq q4 => ?_) (fun w4 hq q4 => ?_)
 ·have z4 := q4.size
  replace Lc := Lc.below q4
  replace Lr := Lr.below q4
  replace Lo := Lo.below q4
  have hb4 : Below w.heap.size w w4 := hb3.trans (q4.mono (by have := hb3.size; omega))
  have OW4 := Lib.hid (OW.out.below q4)
  clear c0 c1 c2 o0 o1 o2
  have o0 := (Lo 0 _ rfl).1
  have o1 := (Lo 1 _ rfl).1
  have o2 := (Lo 2 _ rfl).1
  go_wp2_with fail
  refine twoB (specCompanyOk_any n _ _ (cs ++ l) pl _ (OW4.out.rd)) (fun w5 hq' q5 => ?_) (fun w5 hq' q5 => ?_)
  ·have z5 := q5.size
   replace Lr := Lr.below q5
   replace Lo := Lo.below q5
   have hb5 : Below w.heap.size w w5 := hb4.trans (q5.mono (by have := hb4.size; omega))
   have OW5 := Lib.hid (OW4.out.below q5)
   clear o0 o1 o2
   have o0 := (Lo 0 _ rfl).1
   have o1 := (Lo 1 _ rfl).1
   have o2 := (Lo 2 _ rfl).1
   have r0 := (Lr 0 _ rfl).1
   have rf0 := (Lr 0 _ rfl).2
   have r1 := (Lr 1 _ rfl).1
   have rf1 := (Lr 1 _ rfl).2
   have r2 := (Lr 2 _ rfl).1
   have rf2 := (Lr 2 _ rfl).2
   go_wp2_with fail
   refine bodyPost_ret (v := .tuple #[.agg #[.int .i64 n, .slice B3 (cs.length + l.length) k3, .slice B2 pl.length k2], .bool true]) (by simp [results, Tryz.results199, go_sem, *]) rfl (with_t (by rw [withB, hq.out, hq'.out]; rfl) ⟨_, _, S3, rfl, ?_, ?_, ?_⟩)
   ·exact OW5.out.chg (T := [w.heap.size + 1]) (by repeat' (with_reducible first | exact Chg.refl _ _ | refine qC ?_)) (fun b hb => by have := FW.out.2 b hb; simp; omega)
   ·exact fresh_mono FW.out (by omega) (by simp; omega)
   ·exact Below.chg hb5 (S := [w.heap.size + 1]) (by repeat' (with_reducible first | exact Chg.refl _ _ | refine qC ?_)) hb5.size (by simp)
  ·have z5 := q5.size
   replace Lc := Lc.below q5
   replace Lr := Lr.below q5
   have hb5 : Below w.heap.size w w5 := hb4.trans (q5.mono (by have := hb4.size; omega))
   clear o0 o1 o2
   have c0 := (Lc 0 _ rfl).1
   have c1 := (Lc 1 _ rfl).1
   have c2 := (Lc 2 _ rfl).1
   go_wp2_with fail
   refine (l37Copy_any n _ _ cs pl _ (h.below hb5) hsz).mono ?_
   rintro e w6 ⟨y1, y2, T, rfl, ow6, f6, q6⟩
   obtain ⟨⟨D1, m1, rfl⟩, ⟨D2, m2, rfl⟩⟩ := ow6.rd.forms
   have Lr6 := Lr.below q6
   have z6 := q6.size
   have zb := hb5.size
   have hb6 : Below w.heap.size w w6 := hb5.trans (q6.mono (by omega))
   replace f6 := fresh_mono (B' := w.heap.size + 1 + 1) f6 (by omega) (Nat.le_refl _)
   clear c0 c1 c2
   have r0 := (Lr6 0 _ rfl).1
   have rf0 := (Lr6 0 _ rfl).2
   have r1 := (Lr6 1 _ rfl).1
   have rf1 := (Lr6 1 _ rfl).2
   have r2 := (Lr6 2 _ rfl).1
   have rf2 := (Lr6 2 _ rfl).2
   have OW6 := Lib.hid ow6
   have F6 := Lib.hid f6
   clear ow6 f6
   go_wp2_with fail
   refine bodyPost_ret (v := .tuple #[.agg #[.int .i64 n, .slice D1 cs.length m1, .slice D2 pl.length m2], .bool false]) (by simp [results, Tryz.results199, go_sem, *]) rfl (with_f (by rw [withB, hq'.out, Bool.and_false]) ⟨_, _, T, rfl, ?_, ?_, ?_⟩)
   ·exact OW6.out.chg (T := [w.heap.size + 1]) (by repeat' (with_reducible first | exact Chg.refl _ _ | refine qC ?_)) (fun b hb => by have := F6.out.2 b hb; simp; omega)
   ·exact fresh_mono F6.out (by omega) (by simp)
   ·exact Below.chg hb6 (S := [w.heap.size + 1]) (by repeat' (with_reducible first | exact Chg.refl _ _ | refine qC ?_)) hb6.size (by simp)
 ·have z4 := q4.size
  replace Lc := Lc.below q4
  replace Lr := Lr.below q4
  have hb4 : Below w.heap.size w w4 := hb3.trans (q4.mono (by have := hb3.size; omega))
  clear c0 c1 c2 o0 o1 o2
  have c0 := (Lc 0 _ rfl).1
  have c1 := (Lc 1 _ rfl).1
  have c2 := (Lc 2 _ rfl).1
  go_wp2_with fail
  refine (l37Copy_any n _ _ cs pl _ (h.below hb4) hsz).mono ?_
  rintro e w6 ⟨y1, y2, T, rfl, ow6, f6, q6⟩
  obtain ⟨⟨D1, m1, rfl⟩, ⟨D2, m2, rfl⟩⟩ := ow6.rd.forms
  have Lr6 := Lr.below q6
  have z6 := q6.size
  have zb := hb4.size
  have hb6 : Below w.heap.size w w6 := hb4.trans (q6.mono (by omega))
  replace f6 := fresh_mono (B' := w.heap.size + 1 + 1) f6 (by omega) (Nat.le_refl _)
  clear c0 c1 c2
  have r0 := (Lr6 0 _ rfl).1
  have rf0 := (Lr6 0 _ rfl).2
  have r1 := (Lr6 1 _ rfl).1
  have rf1 := (Lr6 1 _ rfl).2
  have r2 := (Lr6 2 _ rfl).1
  have rf2 := (Lr6 2 _ rfl).2
  have OW6 := Lib.hid ow6
  have F6 := Lib.hid f6
  clear ow6 f6
  go_wp2_with fail
  refine bodyPost_ret (v := .tuple #[.agg #[.int .i64 n, .slice D1 cs.length m1, .slice D2 pl.length m2], .bool false]) (by simp [results, Tryz.results199, go_sem, *]) rfl (with_f (by rw [withB, hq.out]; rfl) ⟨_, _, T, rfl, ?_, ?_, ?_⟩)
  ·exact OW6.out.chg (T := [w.heap.size + 1]) (by repeat' (with_reducible first | exact Chg.refl _ _ | refine qC ?_)) (fun b hb => by have := F6.out.2 b hb; simp; omega)
  ·exact fresh_mono F6.out (by omega) (by simp)
  ·exact Below.chg hb6 (S := [w.heap.size + 1]) (by repeat' (with_reducible first | exact Chg.refl _ _ | refine qC ?_)) hb6.size (by simp)
theorem own_prefix {w : World} {B : Nat} {e : TypeId} {size n c m : Nat} {A : Option Addr} {xs : List Value} (h : w.ownsRow B e size (.slice A n c) n xs) (hm : m ≤ n) (hn : 0 < n) : w.ownsRow B e size (.slice A m c) m (xs.take (m * size)) := by
 refine ⟨by rw [List.length_take, h.1]; exact Nat.min_eq_left (Nat.mul_le_mul_right _ hm), ?_⟩
 rcases h.2 with ⟨_, h0⟩ | ⟨g, cap, cur, hv, h1, h2, h3, h4, h5, h6⟩
 ·omega
 ·injection hv with e1 e2 e3
  subst e1 e3
  exact .inr ⟨g, c, cur, rfl, h1, h2, by omega, h4, h5, by rw [← h6, List.take_take, Nat.min_eq_left (Nat.mul_le_mul_right _ hm)]⟩
open Go.RowKit
structure Th where
 n : Int
 m : Int
 cs : List RCross
 pl : List RPl
 ds : List Int
def Th.ok (t : Th) : Bool := theatreB t.n t.m t.cs t.pl t.ds
def Th.sz (t : Th) : Nat := szTheatre t.cs t.pl t.ds
open Go.RowKit
open Go.RowKit
open Go.RowKit
/- days -/
/- players -/
def knowsB (p : RPl) (x : Int) : Bool := p.1.any (fun y => decide (y = x))
open Go.RowKit
open Go.RowKit
theorem chg_low {w V W' : World} {g : Nat} {S : List Nat} (h : Chg [g] w V) (hc : Chg S V W') (hS : ∀ b ∈ S, b = g ∨ w.heap.size ≤ b) : Chg [g] w W' :=
 ⟨hc.os.trans h.os, hc.tape.trans h.tape, hc.output.trans h.output, Nat.le_trans h.size hc.size, fun k hk hn => (hc.block k (Nat.lt_of_lt_of_le hk h.size) (fun hm => (hS k hm).elim (fun e => hn (by simp [e])) (fun e => by omega))).trans (h.block k hk hn)⟩
theorem chg_drew {S : List Nat} {w w' : World} (h : Chg S w w') : Chg S w w'.drew := ⟨h.os, h.tape, h.output, h.size, h.block⟩
def CrossPost (w0 w : World) (g : Nat) (A : Option Addr) (c : Nat) (bs : List Int) (e : Ending) (w' : World) : Prop :=
 ∃ (n : Nat) (v : Value) (l : List RCross), e = .returned (.tuple #[.int .i64 n, v]) ∧ w'.ownsRow w.heap.size 74 2 v l.length (l.flatMap cCross) ∧ (2 ≤ n ∧ n ≤ 5) ∧ l.length ≤ 9 ∧ (∀ t ∈ l, 0 ≤ t.1 ∧ t.1 ≤ (n : Int) - 2) ∧ Cur w0 w' g A c bs ∧ Chg [g] w w'
set_option maxHeartbeats 4000000 in
set_option maxRecDepth 100000 in
theorem l08List_any (w0 w : World) (g : Nat) (A : Option Addr) (c : Nat) (bs : List Int) (hcur : Cur w0 w g A c bs) :
  Calls Tryz.prog 166 #[.pointer (some ⟨g, 0, none⟩)] w (CrossPost w0 w g A c bs) := by
 have hglt := hcur.lt
 have hw0 := hcur.below.size
 obtain ⟨i0, hi0, hz0, hz1, hz2⟩ := info_parts infoCross
 go_enter Tryz.func166, Tryz.ntmps166
 go_wp2_with fail
 refine (l01Below_any 4 w0 w g A c bs hcur (by omega) (by omega)).mono ?_
 rintro e w1 ⟨r, rfl, ⟨hr0, hr1⟩, hc1, hch1⟩
 obtain ⟨p, rfl⟩ := Int.eq_ofNat_of_zero_le hr0
 have hp4 : p < 4 := by omega
 have hz1' := hch1.size
 go_wp2_with fail
 have hn : 2 + (p : Int) = ((2 + p : Nat) : Int) := by omega
 try rw [hn]
 obtain ⟨n, hn'⟩ : ∃ n, 2 + p = n := ⟨_, rfl⟩
 have hn25 : 2 ≤ n ∧ n ≤ 5 := by omega
 try rw [hn']
 clear hn hn' hr0 hr1 hp4
 refine (l01Below_any 10 w0 _ g A c bs (hc1.keep ((Below.refl _ _).alloc (Nat.le_refl _) _)) (by omega) (by omega)).mono ?_
 rintro e w2 ⟨r2, rfl, ⟨hr20, hr21⟩, hc2, hch2⟩
 obtain ⟨m, rfl⟩ := Int.eq_ofNat_of_zero_le hr20
 have hm9 : m ≤ 9 := by omega
 have hown0 := own_chg (World.ownsRow_made (size := 2) (e := 74) w1 #[] 0 hz1' (by simp [maxLen]) rfl) hch2 (by simp [Value.ownBlock]; omega)
 have hch12 := (hch1.alloc (.cells #[] 74)).trans hch2
 clear hr20 hr21 hch1 hch2 hc1 hz1'
 go_wp2_with fail
 go_loopw [5, 6] (fun q i wr => ∃ (k : Nat) (l : List RCross), k ≤ m ∧ i = .int .i64 ((m - k : Nat) : Int) ∧ Hid (l.length = k) ∧ wr.ownsRow w.heap.size 74 2 q l.length (l.flatMap cCross) ∧ Hid (∀ t ∈ l, 0 ≤ t.1 ∧ t.1 ≤ (n : Int) - 2) ∧ Cur w0 wr g A c bs ∧ Chg [g] w wr) (fun _ i _ => (intOf i).toNat)
 case atStart => exact ⟨0, [], Nat.zero_le _, rfl, rfl, hown0, by simp [Hid], hc2, hch12⟩
 case round =>
  obtain ⟨k, l, hk, rfl, hl, hown, hval, hc, hch⟩ := hrel
  clear hown0 hc2 hch12
  have hzw := hch.size
  obtain ⟨Aq, cq, rfl, _, _⟩ := (RdS.of_own hown).form
  by_cases hlt : k < m
  ·obtain ⟨q, hq⟩ : ∃ q, m - k = q + 1 := ⟨m - k - 1, by omega⟩
   rw [hq]
   have Hm := Lib.hid hq
   have hll := hl.out
   have hl9 : l.length < 9 := by omega
   have hl' := Lib.hid hll
   have hq9 : q ≤ 9 := by omega
   clear hll hl hq
   go_wp2_with fail
   refine (l01Below_any ((n : Int) - 1) w0 wr g A c bs hc (by omega) (by omega)).mono ?_
   rintro e w3 ⟨xa, rfl, ⟨ha0, ha1⟩, hc3, hch3⟩
   have hown3 := own_draw hown hch3 hglt
   have hchw3 := hch.trans hch3
   have HA : Hid (0 ≤ xa ∧ xa ≤ (n : Int) - 2) := (by show _ ∧ _; omega)
   clear hown hc hch hch3 ha0 ha1
   go_wp2_with fail
   refine (l01Once_any 2 w0 w3 g A c bs hc3 (by omega) (by omega)).mono ?_
   rintro e w4 ⟨xf, rfl, hc4, hch4⟩
   have hown4 := own_draw hown3 hch4 hglt
   have hchw4 := hchw3.trans hch4
   have hz4 := hchw4.size
   clear hown3 hc3 hchw3 hch4
   go_upto_region 7 with (fail)
   have Lb : Loc (w4.alloc (.cells #[.int .i64 xa, .bool xf] 74)) w4.heap.size [.int .i64 xa, .bool xf] := Loc.new w4 #[.int .i64 xa, .bool xf] 74
   have hal : Below w4.heap.size w4 (w4.alloc (.cells #[.int .i64 xa, .bool xf] 74)) := (Below.refl _ _).alloc (Nat.le_refl _) _
   have hc5 := hc4.keep hal
   have hch5 := hchw4.trans (Chg.of_below hal _)
   have hown5 := own_below hown4 hal
   have hzb : w4.heap.size < (w4.alloc (.cells #[.int .i64 xa, .bool xf] 74)).heap.size := by simp
   have hgb : g ≠ w4.heap.size := by omega
   have hbw : w.heap.size ≤ w4.heap.size := hz4
   have hqb : ∀ b ∈ (Value.slice Aq l.length cq).ownBlock.toList, b ≠ w4.heap.size := fun b hb => by have := (hown4.lt b (by simpa using hb)).2; omega
   obtain ⟨xb, hxb⟩ : ∃ xb, w4.heap.size = xb := ⟨_, rfl⟩
   rw [hxb] at Lb hzb hgb hbw hqb
   generalize w4.alloc (.cells #[.int .i64 xa, .bool xf] 74) = V at *
   try rw [hxb]
   clear hal hc4 hchw4 hown4 hz4 hxb
   have HQB := Lib.hid hqb
   clear hqb
   by_cases h0 : 0 < l.length
   ·obtain ⟨t, ht⟩ : ∃ t, l.length = t + 1 := ⟨l.length - 1, by omega⟩
    have hd : decide (0 < l.length) = true := decide_eq_true h0
    have k0 := (Lb 0 _ rfl).1
    have k1 := (Lb 1 _ rfl).1
    have hdI : decide ((0 : Int) < (l.length : Int)) = true := decide_eq_true (by omega)
    have Ht := Lib.hid ht
    clear ht
    go_wp2_with fail
    refine (l01Once_any 3 w0 V g A c bs hc5 (by omega) (by omega)).mono ?_
    rintro e w6 ⟨b, rfl, hc6, hch6⟩
    have hown6 := own_draw hown5 hch6 hglt
    have Lb6 := Lb.chg hch6 (by simpa using hgb.symm)
    have hchw6 := hch5.trans hch6
    clear k0 k1 hown5 hc5 hch5 hch6 Lb
    cases b
    ·have HO := Lib.hid hown6
     have HC := Lib.hid hc6
     have HCH := Lib.hid hchw6
     have k0 := (Lb6 0 _ rfl).1
     have k1 := (Lb6 1 _ rfl).1
     clear hown6 hc6 hchw6
     have hownW := HO.out
     have hcW := HC.out
     have hchW := HCH.out
     go_wp2_with (at_builtin; refine wpList_appendR _ rfl (.tmp 48) (.tmp 50) _ rfl w.heap.size 74 i0 _ 2 16 Tryz.underlying24 hi0 hz0 hz1 hz2 rfl (by omega) _ l.length (l.flatMap cCross) rfl (hownW.alloc _) _ 1 [.int .i64 xa, .bool xf] rfl (rdS_new w6 #[.int .i64 xa, .bool xf] _ 2 1 rfl (by simp [maxLen])) (by simp [Value.oneCell']) (by simp [maxLen]; omega) (by omega) (by have := hchW.size; simp; omega) ?_; intro v3 w3 hown3 hgr3)
     have hch3 := chg_of_own (hchW.alloc (.cells #[.int .i64 xa, .bool xf] 74)) (hownW.alloc _) hgr3
     have hc3 := cur_own (hcW.keep ((Below.refl _ _).alloc (Nat.le_refl _) (.cells #[.int .i64 xa, .bool xf] 74))) (hownW.alloc _) hgr3 hglt hw0
     go_wp2_with fail
     go_roundw
     case rel =>
      refine ⟨k + 1, l ++ [(xa, xf)], by omega, int_eq (by have := Hm.out; omega), by show _ = _; rw [List.length_append, hl'.out]; rfl, ?_, ?_, hc3, hch3⟩
      ·rw [List.length_append, List.flatMap_append]; exact hown3
      ·intro t ht
       rcases List.mem_append.1 ht with h | h
       ·exact hval.out t h
       ·simp at h; subst h; exact HA.out
     case measure => simp [intOf]
    ·have k0 := (Lb6 0 _ rfl).1
     have k1 := (Lb6 1 _ rfl).1
     have f0 := (Lb6 0 _ rfl).2
     have f1 := (Lb6 1 _ rfl).2
     obtain ⟨gq, cq', e⟩ := own_form hown6 h0
     injection e with e1 e2 e3
     subst e1 e3
     clear e2
     have hq' : t < l.length := by have := Ht.out; omega
     obtain ⟨gq', oq, e, _, hcell⟩ := RdL.cell (RdS.of_own hown6) cCross_len (by omega) hq'
     injection e with e
     injection e with e1 e2 e3
     subst e1 e2
     clear e3
     have r0 := hcell 0 _ rfl
     have r1 := hcell 1 _ rfl
     simp only [Nat.add_zero, Nat.zero_add] at r0 r1
     have HV := Lib.hid (hval.out _ (List.getElem_mem hq'))
     have hw1 : IntKind.i64.wrap ((l.length : Int) - 1) = (t : Int) := by rw [IntWalk.i64_in _ (by omega)]; have := Ht.out; omega
     have ht1 : (t : Int) < (l.length : Int) := by omega
     have ht0 : (0 : Int) ≤ (t : Int) := by omega
     have htn : ((t : Int)).toNat = t := by omega
     clear hcell
     generalize l[t] = lt at *
     obtain ⟨la, lf⟩ := lt
     simp only at r0 r1
     go_wp2_with fail
     go_still_tail 16, (by kernel_rfl)
     change wpList _ _ _ _ _ w6.drew
     go_upto_region 9 with (fail)
     have hst : Chg [xb] w6 ((w6.setCell ⟨xb, 0, none⟩ (.int .i64 la)).setCell ⟨xb, 1, none⟩ (.bool !lf)).drew := chg_drew (by repeat' (with_reducible first | exact Chg.refl _ _ | refine qC ?_))
     have LbN := ((Lb6.set (i := 0) (u := .int .i64 la) (v := .int .i64 xa) rfl).set (i := 1) (u := .bool !lf) (v := .bool xf) rfl).drew
     have HC := Lib.hid (hc6.chg hst (by simpa using hgb) (by simp; omega))
     have HCH := Lib.hid (chg_low hchw6 hst (by simp; omega))
     have HO := Lib.hid (own_chg hown6 hst (fun b hb => by simpa using HQB.out b hb))
     clear k0 k1 f0 f1 r0 r1 hown6 hc6 hchw6 Lb6 hst hw1 ht1 ht0 htn HA
     generalize ((w6.setCell ⟨xb, 0, none⟩ (.int .i64 la)).setCell ⟨xb, 1, none⟩ (.bool !lf)).drew = W at *
     have k0 := (LbN 0 _ rfl).1
     have k1 := (LbN 1 _ rfl).1
     have hownW := HO.out
     have hcW := HC.out
     have hchW := HCH.out
     go_wp2_with (at_builtin; refine wpList_appendR _ rfl (.tmp 48) (.tmp 50) _ rfl w.heap.size 74 i0 _ 2 16 Tryz.underlying24 hi0 hz0 hz1 hz2 rfl (by omega) _ l.length (l.flatMap cCross) rfl (hownW.alloc _) _ 1 [.int .i64 la, .bool (!lf)] rfl (rdS_new W #[.int .i64 la, .bool (!lf)] _ 2 1 rfl (by simp [maxLen])) (by simp [Value.oneCell']) (by simp [maxLen]; omega) (by omega) (by have := hchW.size; simp; omega) ?_; intro v3 w3 hown3 hgr3)
     have hch3 := chg_of_own (hchW.alloc (.cells #[.int .i64 la, .bool (!lf)] 74)) (hownW.alloc _) hgr3
     have hc3 := cur_own (hcW.keep ((Below.refl _ _).alloc (Nat.le_refl _) (.cells #[.int .i64 la, .bool (!lf)] 74))) (hownW.alloc _) hgr3 hglt hw0
     go_wp2_with fail
     go_roundw
     case rel =>
      refine ⟨k + 1, l ++ [(la, (!lf))], by omega, int_eq (by have := Hm.out; omega), by show _ = _; rw [List.length_append, hl'.out]; rfl, ?_, ?_, hc3, hch3⟩
      ·rw [List.length_append, List.flatMap_append]; exact hown3
      ·intro t ht
       rcases List.mem_append.1 ht with h | h
       ·exact hval.out t h
       ·simp at h; subst h; exact HV.out
     case measure => simp [intOf]
   ·have hd : decide (0 < l.length) = false := decide_eq_false h0
    have k0 := (Lb 0 _ rfl).1
    have k1 := (Lb 1 _ rfl).1
    have HO := Lib.hid hown5
    have HC := Lib.hid hc5
    have HCH := Lib.hid hch5
    have hownW := HO.out
    have hcW := HC.out
    have hchW := HCH.out
    go_wp2_with (at_builtin; refine wpList_appendR _ rfl (.tmp 48) (.tmp 50) _ rfl w.heap.size 74 i0 _ 2 16 Tryz.underlying24 hi0 hz0 hz1 hz2 rfl (by omega) _ l.length (l.flatMap cCross) rfl (hownW.alloc _) _ 1 [.int .i64 xa, .bool xf] rfl (rdS_new V #[.int .i64 xa, .bool xf] _ 2 1 rfl (by simp [maxLen])) (by simp [Value.oneCell']) (by simp [maxLen]; omega) (by omega) (by have := hchW.size; simp; omega) ?_; intro v3 w3 hown3 hgr3)
    have hch3 := chg_of_own (hchW.alloc (.cells #[.int .i64 xa, .bool xf] 74)) (hownW.alloc _) hgr3
    have hc3 := cur_own (hcW.keep ((Below.refl _ _).alloc (Nat.le_refl _) (.cells #[.int .i64 xa, .bool xf] 74))) (hownW.alloc _) hgr3 hglt hw0
    go_wp2_with fail
    go_roundw
    case rel =>
     refine ⟨k + 1, l ++ [(xa, xf)], by omega, int_eq (by have := Hm.out; omega), by show _ = _; rw [List.length_append, hl'.out]; rfl, ?_, ?_, hc3, hch3⟩
     ·rw [List.length_append, List.flatMap_append]; exact hown3
     ·intro t ht
      rcases List.mem_append.1 ht with h | h
      ·exact hval.out t h
      ·simp at h; subst h; exact HA.out
    case measure => simp [intOf]
  ·obtain rfl : k = m := by omega
   rw [Nat.sub_self]
   have hl9 : l.length ≤ 9 := by have := hl.out; omega
   clear hl
   go_wp2_with fail
   go_ret2
   exact ⟨n, _, l, rfl, hown, hn25, hl9, hval.out, hc, hch⟩
def PickIPost (l : List Int) (w0 w : World) (g : Nat) (A : Option Addr) (c : Nat) (bs : List Int) (e : Ending) (w' : World) : Prop :=
 ∃ x ∈ l, e = .returned (.int .i64 x) ∧ Cur w0 w' g A c bs ∧ Chg [g] w w'
set_option maxHeartbeats 2000000 in
set_option maxRecDepth 100000 in
theorem l01PickInt_any (b : Nat) (l : List Int) (w0 w : World) (g : Nat) (A : Option Addr) (c : Nat) (bs : List Int) (hcur : Cur w0 w g A c bs)
  (hl : 0 < l.length ∧ l.length ≤ 256) (hb : b ≠ g) (hc : ∀ j (h : j < l.length), w.cell? ⟨b, j, none⟩ = some (.int .i64 l[j])) :
  Calls Tryz.prog 123 #[.pointer (some ⟨g, 0, none⟩), .slice (some ⟨b, 0, none⟩) l.length l.length] w (PickIPost l w0 w g A c bs) := by
 have HC := Lib.hid hc
 clear hc
 go_enter Tryz.func123, Tryz.ntmps123
 go_wp2_with fail
 refine (l01Below_any l.length w0 _ g A c bs hcur (by omega) (by omega)).mono ?_
 rintro e w1 ⟨r, rfl, ⟨hr0, hr1⟩, hc1, hch1⟩
 obtain ⟨n, rfl⟩ := Int.eq_ofNat_of_zero_le hr0
 have hn : n < l.length := by omega
 have k0 := carryChg hch1 (HC.out n hn) (by simpa using hb)
 have hm := Lib.hid (List.getElem_mem hn)
 generalize l[n] = s at *
 go_wp2_with fail
 go_ret
 exact ⟨s, hm.out, rfl, hc1, hch1⟩
def PlD (r : RPl) : Prop := strictB r.1 0 5 = true ∧ 0 ≤ r.2 ∧ r.2 ≤ 2
def AscTo (j : Nat) (l : List Int) : Prop := l.Pairwise (· < ·) ∧ (∀ x ∈ l, 0 ≤ x ∧ x < (j : Int)) ∧ l.length ≤ j
theorem AscTo.start : AscTo 0 [] := ⟨List.Pairwise.nil, by simp, Nat.le_refl _⟩
theorem AscTo.skip {j : Nat} {l : List Int} (h : AscTo j l) : AscTo (j + 1) l := ⟨h.1, fun x hx => by have := h.2.1 x hx; omega, Nat.le_succ_of_le h.2.2⟩
theorem AscTo.snoc {j : Nat} {l : List Int} (h : AscTo j l) : AscTo (j + 1) (l ++ [(j : Int)]) := by
 refine ⟨List.pairwise_append.2 ⟨h.1, List.pairwise_singleton _ _, fun a ha b hb => ?_⟩, fun x hx => ?_, by simpa using h.2.2⟩
 ·rw [List.mem_singleton] at hb; subst hb
  exact (h.2.1 a ha).2
 ·rcases List.mem_append.1 hx with hx | hx
  ·have := h.2.1 x hx; omega
  ·rw [List.mem_singleton] at hx; subst hx; omega
theorem AscTo.strict {l : List Int} (h : AscTo 6 l) : strictB l 0 5 = true := by
 rw [strictB, Bool.and_eq_true]
 exact ⟨asc_of_pairwise _ h.1, List.all_eq_true.2 (fun x hx => inB_iff.2 (by have := h.2.1 x hx; omega))⟩
def PlsPost (w0 w : World) (g : Nat) (A : Option Addr) (c : Nat) (bs : List Int) (e : Ending) (w' : World) : Prop :=
 ∃ (v : Value) (l : List RPl) (S : List Nat), e = .returned v ∧ OwPls w' S v l ∧ Fresh w.heap.size w' S ∧ (1 ≤ l.length ∧ l.length ≤ 5) ∧ (∀ r ∈ l, PlD r) ∧ Cur w0 w' g A c bs ∧ Chg [g] w w'
set_option maxHeartbeats 8000000 in
set_option maxRecDepth 100000 in
theorem l13List_any (w0 w : World) (g : Nat) (A : Option Addr) (c : Nat) (bs : List Int) (hcur : Cur w0 w g A c bs) :
  Calls Tryz.prog 167 #[.pointer (some ⟨g, 0, none⟩)] w (PlsPost w0 w g A c bs) := by
 have hglt := hcur.lt
 have hw0 := hcur.below.size
 obtain ⟨i0, hi0, hz0, hz1, hz2⟩ := info_parts infoInt
 obtain ⟨i1, hi1, hp0, hp1, hp2⟩ := info_parts infoPlayer
 go_enter Tryz.func167, Tryz.ntmps167
 go_wp2_with fail
 refine (l01Below_any 5 w0 _ g A c bs (hcur.keep ((Below.refl _ _).alloc (Nat.le_refl _) _)) (by omega) (by omega)).mono ?_
 rintro e w1 ⟨r, rfl, ⟨hr0, hr1⟩, hc1, hch1⟩
 obtain ⟨p, rfl⟩ := Int.eq_ofNat_of_zero_le hr0
 have hp4 : p ≤ 4 := by omega
 obtain ⟨hps0, hps1⟩ := pls_start w w.heap.size (Nat.le_refl _)
 have how0 := hps0.chg hch1 (by simp; omega)
 have hfr0 := fresh_mono hps1 (Nat.le_refl _) hch1.size
 have hchw1 := ((Chg.refl [g] w).alloc (.cells #[] 39)).trans hch1
 clear hps0 hps1 hch1 hr0 hr1
 go_wp2_with fail
 have hn : 1 + (p : Int) = ((1 + p : Nat) : Int) := by omega
 rw [hn]
 obtain ⟨n, hn'⟩ : ∃ n, 1 + p = n := ⟨_, rfl⟩
 have hn5 : 1 ≤ n ∧ n ≤ 5 := by omega
 rw [hn']
 clear hn hn' hp4
 go_loopw [3, 5] (fun q i wr => ∃ (k : Nat) (ll : List RPl) (S : List Nat), k ≤ n ∧ i = .int .i64 k ∧ OwPls wr S q ll ∧ Fresh w.heap.size wr S ∧ Hid (ll.length = k) ∧ Hid (∀ r ∈ ll, PlD r) ∧ Cur w0 wr g A c bs ∧ Chg [g] w wr) (fun _ i _ => n - (intOf i).toNat)
 case atStart => exact ⟨0, [], _, Nat.zero_le _, rfl, how0, hfr0, rfl, by simp [Hid], hc1, hchw1⟩
 case round =>
  obtain ⟨k, ll, S, hk, rfl, how, hfr, hll, hval, hc, hch⟩ := hrel
  clear how0 hfr0 hc1 hchw1
  have hzw := hch.size
  obtain ⟨Aq, cq, rfl, _, _⟩ := how.rd.form
  by_cases hlt : k < n
  ·have hll5 : ll.length ≤ 4 := by have := hll.out; omega
   obtain ⟨wo, rfl⟩ : ∃ wo : World, wo = wr := ⟨_, rfl⟩
   go_wp2_with fail
   refine (l01PickInt_any wo.heap.size [0, 1, 1, 2, 2] w0 _ g A c bs (hc.keep ((Below.refl _ _).alloc (Nat.le_refl _) _)) (by decide) (by have := hc.lt; omega) (fun j hj => by
    rw [cell_of_row _ wo.heap.size j _ _ (0, 0) (heap_alloc_new wo _)]
    match j, hj with
    | 0, _ => rfl
    | 1, _ => rfl
    | 2, _ => rfl
    | 3, _ => rfl
    | 4, _ => rfl
    | n + 5, h => exact absurd h (by simp))).mono ?_
   rintro e w2 ⟨fr, hfre, rfl, hc2, hch2⟩
   have hfr2 : 0 ≤ fr ∧ fr ≤ 2 := by simp at hfre; omega
   have hal : Below wo.heap.size wo (wo.alloc (.cells #[.int .i64 0, .int .i64 1, .int .i64 1, .int .i64 2, .int .i64 2] 3)) := (Below.refl _ _).alloc (Nat.le_refl _) _
   have how2 := (how.below hal).chg hch2 (fun b hb hb' => by have := (hfr.2 b hb).1; simp at hb'; omega)
   have hfr2' := fresh_mono hfr (Nat.le_refl _) (Nat.le_trans hal.size hch2.size)
   have hchw2 := (hch.trans (Chg.of_below hal [g])).trans hch2
   have hz2' := hchw2.size
   clear how hfr hc hch hch2 hal hfre
   go_wp2_with fail
   have Lb : Loc (w2.alloc (.cells #[.slice none 0 0, .int .i64 fr] 39)) w2.heap.size [.slice none 0 0, .int .i64 fr] := Loc.new w2 #[.slice none 0 0, .int .i64 fr] 39
   have hal : Below w2.heap.size w2 (w2.alloc (.cells #[.slice none 0 0, .int .i64 fr] 39)) := (Below.refl _ _).alloc (Nat.le_refl _) _
   have hc5 := hc2.keep hal
   have hch5 := hchw2.trans (Chg.of_below hal _)
   have how5 := how2.below hal
   have hfr5 := fresh_mono hfr2' (Nat.le_refl _) hal.size
   have HSP : Hid (∀ b ∈ S, b ∉ [g, w2.heap.size]) := fun b hb hb' => by have := hfr2'.2 b hb; simp at hb'; omega
   have hSlt : Hid (∀ b ∈ S, b < w2.heap.size) := fun b hb => (hfr2'.2 b hb).2
   have hgb : g ≠ w2.heap.size := by omega
   have hown5 : (w2.alloc (.cells #[.slice none 0 0, .int .i64 fr] 39)).ownsRow (w2.alloc (.cells #[.slice none 0 0, .int .i64 fr] 39)).heap.size 3 1 (.slice none 0 0) 0 [] := World.ownsRow_nil _ _ _ _
   have hzp : w2.heap.size + 1 ≤ (w2.alloc (.cells #[.slice none 0 0, .int .i64 fr] 39)).heap.size := by simp
   obtain ⟨pb, hpb⟩ : ∃ pb, w2.heap.size = pb := ⟨_, rfl⟩
   rw [hpb] at Lb HSP hSlt hgb hzp hz2'
   generalize w2.alloc (.cells #[.slice none 0 0, .int .i64 fr] 39) = V at *
   try rw [hpb]
   clear hal hc2 hchw2 how2 hfr2' hpb
   have HOW := Lib.hid how5
   have HFR := Lib.hid hfr5
   have HCH := Lib.hid hch5
   clear how5 hfr5 hch5
   go_loopw [7] (fun i wi => ∃ (j : Nat) (v : Value) (l : List Int), j ≤ 6 ∧ i = .int .i64 j ∧ Loc wi pb [v, .int .i64 fr] ∧ wi.ownsRow V.heap.size 3 1 v l.length (l.flatMap cInt) ∧ Hid (AscTo j l) ∧ Cur w0 wi g A c bs ∧ Chg [g, pb] V wi) (fun i _ => 6 - (intOf i).toNat)
   case atStart => exact ⟨0, _, [], by omega, rfl, Lb, hown5, AscTo.start, hc5, Chg.refl _ _⟩
   case round =>
    obtain ⟨j, v, l, hj, rfl, Lj, hown, hasc, hc, hch⟩ := hrel
    clear Lb hown5 hc5
    obtain ⟨Av, cv, rfl, _, _⟩ := (RdS.of_own hown).form
    have hzi := hch.size
    by_cases hj6 : j < 6
    ·have hl6 : l.length ≤ 6 := by have := hasc.out.2.2; omega
     go_wp2_with fail
     refine (l01Once_any 2 w0 wr g A c bs hc (by omega) (by omega)).mono ?_
     rintro e w6 ⟨b, rfl, hc6, hch6⟩
     have Lj6 := Lj.chg hch6 (by simpa using hgb.symm)
     have hown6 := own_draw hown hch6 (by omega)
     have hchw6 : Chg [g, pb] V w6 := hch.trans (hch6.mono (by simp))
     have hz6 := hchw6.size
     clear Lj hown hc hch hch6
     cases b
     ·go_wp2_with fail
      go_roundw
      case rel => exact ⟨j + 1, _, l, by omega, by go_num, Lj6, hown6, hasc.out.skip, hc6, hchw6⟩
      case measure => simp [intOf]; omega
     ·have p0 := (Lj6 0 _ rfl).1
      go_wp2_with (at_builtin; go_must (refine wpList_appendR _ rfl (.tmp 28) (.tmp 30) _ rfl V.heap.size 3 i0 _ 1 8 Tryz.underlying28 hi0 hz0 hz1 hz2 rfl (by omega) _ l.length (l.flatMap cInt) rfl (hown6.alloc _) _ 1 [.int .i64 j] rfl (rdS_new w6 #[.int .i64 j] _ 1 1 rfl (by simp [maxLen])) (by simp [Value.oneCell']) (by simp [maxLen]; omega) (by omega) (by simp; omega) ?_); intro v3 w3 hown3 hgr3; obtain ⟨A3, c3, rfl, _, _⟩ := (RdS.of_own hown3).form; go_must (have Lj3 := (Lj6.alloc (.cells #[.int .i64 j] 3)).chg (Chg.of_grown (v := .slice Av l.length cv) hgr3) (fun hm => by have := ((hown6.alloc (.cells #[.int .i64 j] 3)).lt _ (by simpa using hm)).1; omega)); have q0 := (Lj3 0 _ rfl).1; have q1 := (Lj3 0 _ rfl).2; clear p0)
      have hch3 : Chg [g, pb] V w3 := chg_of_own (hchw6.alloc (.cells #[.int .i64 j] 3)) (hown6.alloc (.cells #[.int .i64 j] 3)) hgr3
      have hst : Chg [pb] w3 (w3.setCell ⟨pb, 0, none⟩ (.slice A3 (l.length + 1) c3)) := chg_set (Chg.refl _ _) (by simp)
      have hc3 := (cur_own (hc6.keep ((Below.refl _ _).alloc (Nat.le_refl _) (.cells #[.int .i64 j] 3))) (hown6.alloc (.cells #[.int .i64 j] 3)) hgr3 (by omega) (by omega)).chg hst (by simpa using hgb) (by simp; omega)
      have LbN := Lj3.set (i := 0) (u := .slice A3 (l.length + 1) c3) (v := .slice Av l.length cv) rfl
      have hownN := own_chg hown3 hst (fun b hb hb' => by have := (hown3.lt b (by simpa using hb)).1; simp at hb'; omega)
      go_roundw
      case rel =>
       refine ⟨j + 1, _, l ++ [(j : Int)], by omega, by go_num, LbN, ?_, hasc.out.snoc, hc3, hch3.trans (hst.mono (by simp))⟩
       rw [List.length_append, List.flatMap_append]; exact hownN
      case measure => simp [intOf]; omega
    ·obtain rfl : j = 6 := by omega
     have hl6 := hasc.out.2.2
     have how6 := HOW.out.chg hch HSP.out
     have hfr6 := fresh_mono HFR.out (Nat.le_refl _) hch.size
     obtain ⟨vs, hvl, hownq, hrows, hSe⟩ := how6
     have hown1 : wr.ownsRow w.heap.size 39 2 (.slice Aq ll.length cq) ll.length (vs.flatMap cPl) := by
      have := own_up hownq (fun b hb => hfr6.2 b (by rw [hSe]; exact List.mem_append_left _ hb))
      rwa [hvl] at this
     have Hvl := Lib.hid hvl
     have Hrows := Lib.hid hrows
     have HFP := Lib.hid hfr6
     have HSe := Lib.hid hSe
     have hchF := chg_low HCH.out hch (by simp; omega)
     have hzF := hchF.size
     have p0 := (Lj 0 _ rfl).1
     have p1 := (Lj 1 _ rfl).1
     have bA : Below wr.heap.size wr (wr.alloc (.cells #[.slice Av l.length cv, .int .i64 fr] 39)) := (Below.refl _ _).alloc (Nat.le_refl _) _
     have hkE : OwL 3 cInt 1 (wr.alloc (.cells #[.slice Av l.length cv, .int .i64 fr] 39)) _ (.slice Av l.length cv) l := OwL.mk_ (own_below hown bA)
     have hfE : Fresh w.heap.size (wr.alloc (.cells #[.slice Av l.length cv, .int .i64 fr] 39)) (Value.slice Av l.length cv).ownBlock.toList := fresh_mono (fresh_of hown) (by omega) bA.size
     have hdE : ∀ b ∈ (Value.slice Aq ll.length cq).ownBlock.toList ++ plBlocks vs, b ∉ (Value.slice Av l.length cv).ownBlock.toList := fun b hb hb' => by
      have h1 := hSlt.out b (by rw [HSe.out]; exact hb)
      have h2 := (hown.lt b (by simpa using hb')).1
      omega
     clear hvl hrows hownq hfr6 hSe
     go_wp2_with (at_builtin; go_must (refine wpList_appendB _ rfl (.tmp 33) (.tmp 35) _ rfl w.heap.size 39 i1 _ 2 32 Tryz.underlying25 hi1 hp0 hp1 hp2 rfl (by omega) _ ll.length (vs.flatMap cPl) rfl (hown1.alloc _) _ 1 [.slice Av l.length cv, .int .i64 fr] rfl (rdS_new wr #[.slice Av l.length cv, .int .i64 fr] _ 2 1 rfl (by simp [maxLen])) (by simp [Value.oneCell']) (by simp [maxLen]; omega) (by omega) (by simp; omega) ?_); intro v3 w3 own3 gr3 at3)
     have hsn := pls_snoc (B := w.heap.size) (w := wr.alloc (.cells #[.slice Av l.length cv, .int .i64 fr] 39)) (w' := w3) (q := .slice Aq ll.length cq) (u := .slice Av l.length cv) (r := l) (n := fr) (ll := ll) Hvl.out (fun i p r hp hr => ⟨(Hrows.out i p r hp hr).1, own_below (Hrows.out i p r hp hr).2 bA⟩) (by rw [← HSe.out]; exact fresh_mono HFP.out (Nat.le_refl _) bA.size) hkE hfE hdE (by rw [Hvl.out]; exact own3) gr3 at3
     have hch3 := chg_of_own (hchF.alloc (.cells #[.slice Av l.length cv, .int .i64 fr] 39)) (hown1.alloc (.cells #[.slice Av l.length cv, .int .i64 fr] 39)) gr3
     have hc3 := cur_own (hc.keep bA) (hown1.alloc (.cells #[.slice Av l.length cv, .int .i64 fr] 39)) gr3 hglt hw0
     go_wp2_with fail
     go_roundw
     case rel =>
      refine ⟨k + 1, ll ++ [(l, fr)], _, by omega, by go_num, hsn.1, hsn.2, by show _ = _; rw [List.length_append, hll.out]; rfl, ?_, hc3, hch3⟩
      intro r hr
      rcases List.mem_append.1 hr with hr | hr
      ·exact hval.out r hr
      ·simp at hr; subst hr; exact ⟨hasc.out.strict, hfr2⟩
     case measure => simp [intOf]; omega
  ·obtain rfl : k = n := by omega
   go_wp2_with fail
   go_ret
   exact ⟨_, ll, S, rfl, how, hfr, by have := hll.out; omega, hval.out, hc, hch⟩
open Go.RowKit
theorem getD_app {l : List Int} {d : Int} {k : Nat} (h : k < l.length) : (l ++ [d]).getD k 0 = l.getD k 0 := by
 rw [List.getD_eq_getElem?_getD, List.getD_eq_getElem?_getD, List.getElem?_append_left h]
theorem getD_app_end (l : List Int) (d : Int) : (l ++ [d]).getD l.length 0 = d := by
 rw [List.getD_eq_getElem?_getD, List.getElem?_append_right (Nat.le_refl _), Nat.sub_self]; rfl
theorem runR_app (l : List Int) (d : Int) : ∀ k, k ≤ l.length → runR (l ++ [d]) k = runR l k := by
 intro k
 induction k with
 | zero => intro _; rfl
 | succ k ih =>
  intro hk
  rw [runR, runR, ih (by omega), getD_app (by omega), getD_app (by omega)]
theorem runB_app (l : List Int) (d : Int) : ∀ k, k ≤ l.length → runB (l ++ [d]) k = runB l k := by
 intro k
 induction k with
 | zero => intro _; rfl
 | succ k ih =>
  intro hk
  rw [runB, runB, ih (by omega), runR_app l d _ hk]
def mostStep (st : List Int × Nat) (d : Int) : List Int × Nat :=
 if (if st.1.length = 0 ∨ st.1.getD (st.1.length - 1) 0 ≠ d - 1 then 0 else st.2) = 5 then (st.1, 5)
 else (st.1 ++ [d], (if st.1.length = 0 ∨ st.1.getD (st.1.length - 1) 0 ≠ d - 1 then 0 else st.2) + 1)
theorem mostStep_new {out : List Int} {r : Nat} {d : Int} (h : out.length = 0 ∨ out.getD (out.length - 1) 0 ≠ d - 1) : mostStep (out, r) d = (out ++ [d], 1) := by
 unfold mostStep
 simp only
 rw [if_pos h, if_neg (by omega)]
theorem mostStep_skip {out : List Int} {d : Int} (h : ¬ (out.length = 0 ∨ out.getD (out.length - 1) 0 ≠ d - 1)) : mostStep (out, 5) d = (out, 5) := by
 unfold mostStep
 simp only
 rw [if_neg h, if_pos rfl]
theorem mostStep_run {out : List Int} {r : Nat} {d : Int} (h : ¬ (out.length = 0 ∨ out.getD (out.length - 1) 0 ≠ d - 1)) (h5 : r ≠ 5) : mostStep (out, r) d = (out ++ [d], r + 1) := by
 unfold mostStep
 simp only
 rw [if_neg h, if_neg h5]
def mostTo (l : List Int) (k : Nat) : List Int × Nat := (l.take k).foldl mostStep ([], 0)
def mostL (l : List Int) : List Int := (mostTo l l.length).1
theorem mostTo_succ (l : List Int) {k : Nat} (h : k < l.length) : mostTo l (k + 1) = mostStep (mostTo l k) l[k] := foldl_take_succ _ _ l h
structure MostOk (l : List Int) (k : Nat) (st : List Int × Nat) : Prop where
 asc : st.1.Pairwise (· < ·)
 mem : ∀ x ∈ st.1, x ∈ l.take k
 len : st.1.length ≤ k
 row : runR st.1 st.1.length = st.2
 five : st.2 ≤ 5
 best : runB st.1 st.1.length ≤ 5
theorem MostOk.step {l : List Int} {k : Nat} {st : List Int × Nat} (h : MostOk l k st) (hk : k < l.length) (hl : l.Pairwise (· < ·)) : MostOk l (k + 1) (mostStep st l[k]) := by
 obtain ⟨out, r⟩ := st
 obtain ⟨h1, h2, h3, h4, h5, h6⟩ := h
 simp only at h1 h2 h3 h4 h5 h6
 have ht := take_snoc_l l hk
 have hnew : ∀ x ∈ out, x < l[k] := fun x hx => by
  have := h2 x hx
  obtain ⟨i, hi, e⟩ := List.getElem_of_mem this
  rw [List.getElem_take] at e
  rw [← e]
  exact List.pairwise_iff_getElem.1 hl i k _ hk (by simp at hi; omega)
 have hkeep : ∀ x ∈ out, x ∈ l.take (k + 1) := fun x hx => by rw [ht]; exact List.mem_append_left _ (h2 x hx)
 have happ : ∀ r', (r' = (if out.length = 0 ∨ out.getD (out.length - 1) 0 ≠ l[k] - 1 then 0 else r)) → r' ≠ 5 → MostOk l (k + 1) (out ++ [l[k]], r' + 1) := by
  intro r' hr' hne
  have hrun : runR (out ++ [l[k]]) (out.length + 1) = r' + 1 := by
   rw [runR, runR_app _ _ _ (Nat.le_refl _), getD_app_end]
   by_cases h0 : out.length = 0
   ·rw [if_pos (.inl h0)] at hr'
    rw [if_neg (by omega), hr']
   ·rw [getD_app (by omega)]
    by_cases hd : out.getD (out.length - 1) 0 = l[k] - 1
    ·rw [if_neg (by rintro (e | e); exact h0 e; exact e hd)] at hr'
     rw [if_pos ⟨by omega, by omega⟩, h4, hr']
    ·rw [if_pos (.inr hd)] at hr'
     rw [if_neg (by omega), hr']
  have hr5 : r' ≤ 5 := by rw [hr']; split <;> omega
  refine ⟨List.pairwise_append.2 ⟨h1, List.pairwise_singleton _ _, fun a ha b hb => ?_⟩, fun x hx => ?_, by simpa using h3, ?_, by simp only; omega, ?_⟩
  ·rw [List.mem_singleton] at hb; subst hb; exact hnew a ha
  ·rcases List.mem_append.1 hx with hx | hx
   ·exact hkeep x hx
   ·rw [ht]; exact List.mem_append_right _ hx
  ·simp only [List.length_append, List.length_singleton]; exact hrun
  ·simp only [List.length_append, List.length_singleton]
   rw [runB, runB_app _ _ _ (Nat.le_refl _), hrun]
   omega
 unfold mostStep
 simp only
 by_cases hr : (if out.length = 0 ∨ out.getD (out.length - 1) 0 ≠ l[k] - 1 then 0 else r) = 5
 ·rw [if_pos hr]
  have : r = 5 := by
   by_cases hc : out.length = 0 ∨ out.getD (out.length - 1) 0 ≠ l[k] - 1
   ·rw [if_pos hc] at hr; omega
   ·rw [if_neg hc] at hr; exact hr
  subst this
  exact ⟨h1, hkeep, by simp only; omega, h4, Nat.le_refl _, h6⟩
 ·rw [if_neg hr]
  exact happ _ rfl hr
theorem mostTo_ok {l : List Int} (hl : l.Pairwise (· < ·)) : ∀ k, k ≤ l.length → MostOk l k (mostTo l k) := by
 intro k
 induction k with
 | zero => intro _; exact ⟨List.Pairwise.nil, by simp [mostTo], Nat.le_refl _, rfl, Nat.zero_le _, Nat.zero_le _⟩
 | succ k ih => intro hk; rw [mostTo_succ l (by omega)]; exact (ih (by omega)).step (by omega) hl
theorem most_len {l : List Int} (hs : seasonB l = true) : (mostL l).length ≤ l.length := by
 have hst : strictB l 0 365 = true := by rw [season_t (season_bd hs).1] at hs; exact hs
 exact (mostTo_ok (strict_lt hst).1 l.length (Nat.le_refl _)).len
theorem most_keeps {l : List Int} (hs : seasonB l = true) : keepsB (mostL l) 5 = true := by
 have hbd := season_bd hs
 have hst : strictB l 0 365 = true := by rw [season_t hbd.1] at hs; exact hs
 have hl := (strict_lt hst).1
 have ho := mostTo_ok hl l.length (Nat.le_refl _)
 have hsea : seasonB (mostL l) = true := by
  have hlen : (mostL l).length ≤ 60 := Nat.le_trans ho.len hbd.1
  rw [season_t hlen, strictB, Bool.and_eq_true]
  refine ⟨asc_of_pairwise _ ho.asc, List.all_eq_true.2 (fun x hx => inB_iff.2 ?_)⟩
  have := ho.mem x hx
  rw [List.take_length] at this
  exact hbd.2 x this
 rw [keepsB, Bool.and_eq_true, Bool.and_eq_true]
 refine ⟨⟨hsea, by decide⟩, decide_eq_true ?_⟩
 rw [runF_t hsea]
 have := ho.best
 unfold mostL
 omega
set_option maxHeartbeats 8000000 in
set_option maxRecDepth 100000 in
theorem mostShows_any (v : Value) (l : List Int) (w : World) (h : RdL cInt 1 w v l) (hs : seasonB l = true) :
  Calls Tryz.prog 121 #[v, .int .i64 5] w fun e w' => ∃ v', e = .returned v' ∧ w'.ownsRow w.heap.size 3 1 v' (mostL l).length ((mostL l).flatMap cInt) ∧ Below w.heap.size w w' := by
 have h0 := h
 obtain ⟨A, c, rfl, h1, h2⟩ := h.form
 obtain ⟨i0, hi0, hz0, hz1, hz2⟩ := info_parts infoInt
 have hbd := season_bd hs
 have HBD := Lib.hid hbd.2
 have hl60 := hbd.1
 have hst : strictB l 0 365 = true := by have := season_t hbd.1; rw [← this]; exact hs
 have HL := Lib.hid (strict_lt hst).1
 have hal : Below w.heap.size w (w.alloc (.cells #[] 3)) := (Below.refl _ _).alloc (Nat.le_refl _) _
 have hown0 : (w.alloc (.cells #[] 3)).ownsRow w.heap.size 3 1 (.slice (some ⟨w.heap.size, 0, none⟩) 0 0) 0 [] := World.ownsRow_made (size := 1) (e := 3) w #[] 0 (Nat.le_refl _) (by simp [maxLen]) rfl
 have hSO := specSeasonOk_any (.slice A l.length c) l _ (h0.below hal)
 rw [hs] at hSO
 have hIN := fun W => l01In_any 5 1 60 W
 have hin : inB 5 1 60 = true := by decide
 rw [hin] at hIN
 clear hbd hst hin hs
 go_enter Tryz.func121, Tryz.ntmps121
 go_wp2_with fail
 refine hSO.mono ?_
 rintro e w1 ⟨rfl, hb1⟩
 have hown1 := own_below hown0 hb1
 have hbw1 : Below w.heap.size w w1 := bl_trans hal hb1
 clear hSO hown0 hal hb1
 go_wp2_with (go_at_call 89; refine (hIN _).mono ?_; rintro e w2 ⟨rfl, rfl⟩)
 go_loopw [5, 6, 7] (fun q r i wr => ∃ (k : Nat) (out : List Int) (row : Nat), k ≤ l.length ∧ i = .int .i64 k ∧ r = .int .i64 row ∧ Hid (mostTo l k = (out, row)) ∧ wr.ownsRow w.heap.size 3 1 q out.length (out.flatMap cInt) ∧ Below w.heap.size w wr) (fun _ _ i _ => l.length - (intOf i).toNat)
 case atStart => exact ⟨0, [], 0, Nat.zero_le _, rfl, rfl, rfl, hown1, hbw1⟩
 case round =>
  obtain ⟨k, out, row, hk, rfl, rfl, hmt, hown, hb⟩ := hrel
  clear hown1 hbw1 hIN
  have HOK : Hid (MostOk l k (out, row)) := by have := mostTo_ok HL.out k hk; rw [hmt.out] at this; exact this
  have hrow5 : row ≤ 5 := HOK.out.five
  have holen : out.length ≤ 60 := by have := HOK.out.len; simp only at this; omega
  obtain ⟨Aq, cq, rfl, hoc, hocc⟩ := (RdS.of_own hown).form
  by_cases hlt : k < l.length
  ·obtain ⟨g, off, rfl, hg, hcell⟩ := (h0.below hb).cell cInt_len (by omega) hlt
   have d0 := hcell 0 _ rfl
   simp only [Nat.add_zero, Nat.mul_one] at d0
   clear hcell
   have hd := HBD.out _ (List.getElem_mem hlt)
   have HS := Lib.hid (mostTo_succ l hlt)
   rw [hmt.out] at HS
   generalize l[k] = d at *
   have hwd : IntKind.i64.wrap (d - 1) = d - 1 := IntWalk.i64_in _ (by omega)
   by_cases h0l : out.length = 0
   ·have hz : ((out.length : Int) == 0) = true := by rw [beq_iff_eq]; omega
    have HE : Hid (mostTo l (k + 1) = (out ++ [d], 1)) := by
     show _ = _
     rw [HS.out]; exact mostStep_new (.inl h0l)
    clear h0l
    go_wp2_with fail
    go_quiet (fail)
    rename_i nq
    have hbq : Below wr.heap.size wr (wr.drewN nq) := below_drewN (Below.refl _ _) nq
    have hown2 := own_below hown hbq
    have hb2 := bl_trans hb hbq
    replace d0 := carry hbq d0
    generalize wr.drewN nq = wq at *
    clear hown hbq
    go_wp2_with (at_builtin; go_must (refine wpList_appendR _ rfl (.tmp 47) (.tmp 52) _ rfl w.heap.size 3 i0 _ 1 8 Tryz.underlying28 hi0 hz0 hz1 hz2 rfl (by omega) _ out.length (out.flatMap cInt) rfl (hown2.alloc _) _ 1 [.int .i64 d] rfl (rdS_new wq #[.int .i64 d] _ 1 1 rfl (by simp [maxLen])) (by simp [Value.oneCell']) (by simp [maxLen]; omega) (by omega) (by have := hb2.size; simp; omega) ?_); intro v3 w3 hown3 hgr3)
    have hb3 : Below w.heap.size w w3 := (hb2.alloc hb2.size _).trans (below_own (hown2.alloc (.cells #[.int .i64 d] 3)) hgr3 (by have := hb2.size; simp; omega))
    go_wp2_with fail
    go_roundw
    case rel => exact ⟨k + 1, out ++ [d], 1, by omega, by go_num, rfl, HE.out, by rw [List.length_append, List.flatMap_append]; exact hown3, hb3⟩
    case measure => simp [intOf]; omega
   ·have hz : ((out.length : Int) == 0) = false := by rw [beq_eq_false_iff_ne]; omega
    obtain ⟨t, ht⟩ : ∃ t, out.length = t + 1 := ⟨out.length - 1, by omega⟩
    have hq' : t < out.length := by omega
    obtain ⟨gq, oq, e, _, hcq⟩ := RdL.cell (RdS.of_own hown) cInt_len (by omega) hq'
    subst e
    have x0 := hcq 0 _ rfl
    simp only [Nat.add_zero, Nat.mul_one] at x0
    have HX : Hid (out.getD (out.length - 1) 0 = out[t]) := by
     show _ = _
     rw [show out.length - 1 = t by omega, List.getD_eq_getElem?_getD, List.getElem?_eq_getElem hq']; rfl
    have HL0 := Lib.hid h0l
    have hw1 : IntKind.i64.wrap ((out.length : Int) - 1) = (t : Int) := by rw [IntWalk.i64_in _ (by omega)]; omega
    have ht1 : (t : Int) < (out.length : Int) := by omega
    have ht0 : (0 : Int) ≤ (t : Int) := by omega
    have htn : ((t : Int)).toNat = t := by omega
    have HT := Lib.hid ht
    clear hcq h0l ht
    generalize out[t] = x at *
    by_cases hx : x = d - 1
    ·have hd1 : (x != d - 1) = false := by rw [bne_eq_false_iff_eq]; exact hx
     have HNO : Hid (¬ (out.length = 0 ∨ out.getD (out.length - 1) 0 ≠ d - 1)) := by
      rintro (h | h)
      ·exact HL0.out h
      ·exact h (HX.out.trans hx)
     clear hx
     by_cases h5 : row = 5
     ·subst h5
      have HE : Hid (mostTo l (k + 1) = (out, 5)) := by
       show _ = _
       rw [HS.out]; exact mostStep_skip HNO.out
      go_wp2_with fail
      go_quiet (fail)
      rename_i nq
      have hbq : Below wr.heap.size wr (wr.drewN nq) := below_drewN (Below.refl _ _) nq
      have hown2 := own_below hown hbq
      have hb2 := bl_trans hb hbq
      replace d0 := carry hbq d0
      generalize wr.drewN nq = wq at *
      clear hown hbq
      go_wp2_with fail
      go_roundw
      case rel => exact ⟨k + 1, out, 5, by omega, by go_num, rfl, HE.out, hown2, hb2⟩
      case measure => simp [intOf]; omega
     ·have hd5 : ((row : Int) == 5) = false := by rw [beq_eq_false_iff_ne]; omega
      have HE : Hid (mostTo l (k + 1) = (out ++ [d], row + 1)) := by
       show _ = _
       rw [HS.out]; exact mostStep_run HNO.out h5
      clear h5
      go_wp2_with fail
      go_quiet (fail)
      rename_i nq
      have hbq : Below wr.heap.size wr (wr.drewN nq) := below_drewN (Below.refl _ _) nq
      have hown2 := own_below hown hbq
      have hb2 := bl_trans hb hbq
      replace d0 := carry hbq d0
      generalize wr.drewN nq = wq at *
      clear hown hbq
      go_wp2_with (at_builtin; go_must (refine wpList_appendR _ rfl (.tmp 47) (.tmp 52) _ rfl w.heap.size 3 i0 _ 1 8 Tryz.underlying28 hi0 hz0 hz1 hz2 rfl (by omega) _ out.length (out.flatMap cInt) rfl (hown2.alloc _) _ 1 [.int .i64 d] rfl (rdS_new wq #[.int .i64 d] _ 1 1 rfl (by simp [maxLen])) (by simp [Value.oneCell']) (by simp [maxLen]; omega) (by omega) (by have := hb2.size; simp; omega) ?_); intro v3 w3 hown3 hgr3)
      have hb3 : Below w.heap.size w w3 := (hb2.alloc hb2.size _).trans (below_own (hown2.alloc (.cells #[.int .i64 d] 3)) hgr3 (by have := hb2.size; simp; omega))
      go_wp2_with fail
      go_roundw
      case rel => exact ⟨k + 1, out ++ [d], row + 1, by omega, by go_num, by first | rfl | exact int_eq (by omega), HE.out, by rw [List.length_append, List.flatMap_append]; exact hown3, hb3⟩
      case measure => simp [intOf]; omega
    ·have hd1 : (x != d - 1) = true := by rw [bne_iff_ne]; exact hx
     have HE : Hid (mostTo l (k + 1) = (out ++ [d], 1)) := by
      show _ = _
      rw [HS.out]; exact mostStep_new (.inr (by rw [HX.out]; exact hx))
     clear hx
     go_wp2_with fail
     go_quiet (fail)
     rename_i nq
     have hbq : Below wr.heap.size wr (wr.drewN nq) := below_drewN (Below.refl _ _) nq
     have hown2 := own_below hown hbq
     have hb2 := bl_trans hb hbq
     replace d0 := carry hbq d0
     generalize wr.drewN nq = wq at *
     clear hown hbq
     go_wp2_with (at_builtin; go_must (refine wpList_appendR _ rfl (.tmp 47) (.tmp 52) _ rfl w.heap.size 3 i0 _ 1 8 Tryz.underlying28 hi0 hz0 hz1 hz2 rfl (by omega) _ out.length (out.flatMap cInt) rfl (hown2.alloc _) _ 1 [.int .i64 d] rfl (rdS_new wq #[.int .i64 d] _ 1 1 rfl (by simp [maxLen])) (by simp [Value.oneCell']) (by simp [maxLen]; omega) (by omega) (by have := hb2.size; simp; omega) ?_); intro v3 w3 hown3 hgr3)
     have hb3 : Below w.heap.size w w3 := (hb2.alloc hb2.size _).trans (below_own (hown2.alloc (.cells #[.int .i64 d] 3)) hgr3 (by have := hb2.size; simp; omega))
     go_wp2_with fail
     go_roundw
     case rel => exact ⟨k + 1, out ++ [d], 1, by omega, by go_num, rfl, HE.out, by rw [List.length_append, List.flatMap_append]; exact hown3, hb3⟩
     case measure => simp [intOf]; omega
  ·obtain rfl : k = l.length := by omega
   have HF : Hid (mostL l = out) := by show _ = _; unfold mostL; rw [hmt.out]
   go_wp2_with fail
   go_ret
   exact ⟨_, rfl, by rw [HF.out]; exact hown, hb⟩
def DaysPost (w0 w : World) (g : Nat) (A : Option Addr) (c : Nat) (bs : List Int) (e : Ending) (w' : World) : Prop :=
 ∃ (v : Value) (l : List Int), e = .returned v ∧ w'.ownsRow w.heap.size 3 1 v l.length (l.flatMap cInt) ∧ (seasonB l = true ∧ l.length ≤ 13) ∧ Cur w0 w' g A c bs ∧ Chg [g] w w'
set_option maxHeartbeats 4000000 in
set_option maxRecDepth 100000 in
theorem l33Days_any (w0 w : World) (g : Nat) (A : Option Addr) (c : Nat) (bs : List Int) (hcur : Cur w0 w g A c bs) :
  Calls Tryz.prog 122 #[.pointer (some ⟨g, 0, none⟩)] w (DaysPost w0 w g A c bs) := by
 have hglt := hcur.lt
 have hw0 := hcur.below.size
 obtain ⟨i0, hi0, hz0, hz1, hz2⟩ := info_parts infoInt
 go_enter Tryz.func122, Tryz.ntmps122
 go_wp2_with fail
 refine (l01Below_any 14 w0 _ g A c bs (hcur.keep ((Below.refl _ _).alloc (Nat.le_refl _) _)) (by omega) (by omega)).mono ?_
 rintro e w1 ⟨r, rfl, ⟨hr0, hr1⟩, hc1, hch1⟩
 obtain ⟨n, rfl⟩ := Int.eq_ofNat_of_zero_le hr0
 have hn : n ≤ 13 := by omega
 have hown1 := own_draw (World.ownsRow_made (size := 1) (e := 3) w #[] 0 (Nat.le_refl _) (by simp [maxLen]) rfl) hch1 hglt
 have hchw1 := ((Chg.refl [g] w).alloc (.cells #[] 3)).trans hch1
 clear hr0 hr1 hch1
 go_wp2_with fail
 go_loopw [3, 4, 6] (fun q t i wr => ∃ (k : Nat) (at_ : Int) (l : List Int), k ≤ n ∧ i = .int .i64 k ∧ t = .int .i64 at_ ∧ (-1 ≤ at_ ∧ at_ ≤ 6 * (k : Int) - 1) ∧ Hid (l.length = k) ∧ Hid (l.Pairwise (· < ·) ∧ ∀ x ∈ l, 0 ≤ x ∧ x ≤ at_) ∧ wr.ownsRow w.heap.size 3 1 q l.length (l.flatMap cInt) ∧ Cur w0 wr g A c bs ∧ Chg [g] w wr) (fun _ _ i _ => n - (intOf i).toNat)
 case atStart => exact ⟨0, -1, [], Nat.zero_le _, rfl, rfl, by omega, rfl, ⟨List.Pairwise.nil, by simp⟩, hown1, hc1, hchw1⟩
 case round =>
  obtain ⟨k, at_, l, hk, rfl, rfl, hat, hll, hval, hown, hc, hch⟩ := hrel
  clear hown1 hc1 hchw1
  have hzw := hch.size
  obtain ⟨Aq, cq, rfl, _, _⟩ := (RdS.of_own hown).form
  by_cases hlt : k < n
  ·have hl13 : l.length ≤ 13 := by have := hll.out; omega
   go_wp2_with fail
   refine (l01Once_any 3 w0 wr g A c bs hc (by omega) (by omega)).mono ?_
   rintro e w3 ⟨b, rfl, hc3, hch3⟩
   have hown3 := own_draw hown hch3 hglt
   have hchw3 := hch.trans hch3
   have hz3 := hchw3.size
   clear hown hc hch hch3
   have fin : ∀ a : Int, at_ + 1 ≤ a → a ≤ at_ + 6 → Hid ((l ++ [a]).Pairwise (· < ·) ∧ ∀ x ∈ l ++ [a], 0 ≤ x ∧ x ≤ a) := fun a h1 h2 => by
    refine ⟨List.pairwise_append.2 ⟨hval.out.1, List.pairwise_singleton _ _, fun x hx y hy => ?_⟩, fun x hx => ?_⟩
    ·rw [List.mem_singleton] at hy; subst hy; have := hval.out.2 x hx; omega
    ·rcases List.mem_append.1 hx with hx | hx
     ·have := hval.out.2 x hx; omega
     ·rw [List.mem_singleton] at hx; subst hx; omega
   have FIN := Lib.hid fin
   clear fin
   cases b
   ·obtain ⟨a, ha⟩ : ∃ a : Int, at_ + 1 = a := ⟨_, rfl⟩
    have hab : at_ + 1 ≤ a ∧ a ≤ at_ + 6 := by omega
    go_upto_region 10 with (fail)
    (try rw [ha])
    clear ha
    have hownW := hown3
    go_wp2_with (at_builtin; go_must (refine wpList_appendR _ rfl (.tmp 23) (.tmp 25) _ rfl w.heap.size 3 i0 _ 1 8 Tryz.underlying28 hi0 hz0 hz1 hz2 rfl (by omega) _ l.length (l.flatMap cInt) rfl (hownW.alloc _) _ 1 [.int .i64 a] rfl (rdS_new w3 #[.int .i64 a] _ 1 1 rfl (by simp [maxLen])) (by simp [Value.oneCell']) (by simp [maxLen]; omega) (by omega) (by simp; omega) ?_); intro v9 w9 hown9 hgr9)
    have hch9 := chg_of_own (hchw3.alloc (.cells #[.int .i64 a] 3)) (hownW.alloc _) hgr9
    have hc9 := cur_own (hc3.keep ((Below.refl _ _).alloc (Nat.le_refl _) (.cells #[.int .i64 a] 3))) (hownW.alloc _) hgr9 hglt hw0
    go_wp2_with fail
    go_roundw
    case rel => exact ⟨k + 1, a, l ++ [a], by omega, by go_num, rfl, by omega, by show _ = _; rw [List.length_append, hll.out]; rfl, FIN.out a hab.1 hab.2, by rw [List.length_append, List.flatMap_append]; exact hown9, hc9, hch9⟩
    case measure => simp [intOf]; omega
   ·go_wp2_with fail
    refine (l01Below_any 6 w0 w3 g A c bs hc3 (by omega) (by omega)).mono ?_
    rintro e w5 ⟨r, rfl, ⟨hr0, hr1⟩, hc5, hch5⟩
    have hown5 := own_draw hown3 hch5 hglt
    have hchw5 := hchw3.trans hch5
    have hz5 := hchw5.size
    clear hown3 hc3 hchw3 hch5
    obtain ⟨a, ha⟩ : ∃ a : Int, at_ + 1 + r = a := ⟨_, rfl⟩
    have hab : at_ + 1 ≤ a ∧ a ≤ at_ + 6 := by omega
    go_upto_region 10 with (fail)
    (try rw [ha])
    clear ha
    have hownW := hown5
    go_wp2_with (at_builtin; go_must (refine wpList_appendR _ rfl (.tmp 23) (.tmp 25) _ rfl w.heap.size 3 i0 _ 1 8 Tryz.underlying28 hi0 hz0 hz1 hz2 rfl (by omega) _ l.length (l.flatMap cInt) rfl (hownW.alloc _) _ 1 [.int .i64 a] rfl (rdS_new w5 #[.int .i64 a] _ 1 1 rfl (by simp [maxLen])) (by simp [Value.oneCell']) (by simp [maxLen]; omega) (by omega) (by simp; omega) ?_); intro v9 w9 hown9 hgr9)
    have hch9 := chg_of_own (hchw5.alloc (.cells #[.int .i64 a] 3)) (hownW.alloc _) hgr9
    have hc9 := cur_own (hc5.keep ((Below.refl _ _).alloc (Nat.le_refl _) (.cells #[.int .i64 a] 3))) (hownW.alloc _) hgr9 hglt hw0
    go_wp2_with fail
    go_roundw
    case rel => exact ⟨k + 1, a, l ++ [a], by omega, by go_num, rfl, by omega, by show _ = _; rw [List.length_append, hll.out]; rfl, FIN.out a hab.1 hab.2, by rw [List.length_append, List.flatMap_append]; exact hown9, hc9, hch9⟩
    case measure => simp [intOf]; omega
  ·obtain rfl : k = n := by omega
   have hsea : Hid (seasonB l = true ∧ l.length ≤ 13) := by
    have h1 := hll.out
    refine ⟨?_, by omega⟩
    rw [season_t (by omega), strictB, Bool.and_eq_true]
    exact ⟨asc_of_pairwise _ hval.out.1, List.all_eq_true.2 (fun x hx => inB_iff.2 (by have := hval.out.2 x hx; omega))⟩
   go_wp2_with fail
   go_ret
   exact ⟨_, l, rfl, hown, hsea.out, hc, hch⟩
open Go.RowKit
def canAt (pl : List RPl) (x : Int) (ld : List Int) (p : Nat) : Bool := decide (ld.getD p 0 < (pl.getD p ([], 0)).2) && knowsB (pl.getD p ([], 0)) x
def bump (ld : List Int) (p : Nat) : List Int := ld.set p (ld.getD p 0 + 1)
def canS (pl : List RPl) : List Int → List Int → Bool
 | [], _ => true
 | x :: ps, ld => (List.range pl.length).any (fun p => canAt pl x ld p && canS pl ps (bump ld p))
theorem bump_len (ld : List Int) (p : Nat) : (bump ld p).length = ld.length := by simp [bump]
def zeroL (n : Nat) : List Int := List.replicate n 0
def canF (pl : List RPl) (ps : List Int) : Bool := (playersB pl && strictB ps 0 6) && canS pl ps (zeroL pl.length)
theorem canF_f1 {pl : List RPl} {ps : List Int} (h : playersB pl = false) : canF pl ps = false := by rw [canF, h]; rfl
theorem canF_f2 {pl : List RPl} {ps : List Int} (h : strictB ps 0 6 = false) : canF pl ps = false := by rw [canF, h, Bool.and_false]; rfl
theorem canF_t {pl : List RPl} {ps : List Int} (h1 : playersB pl = true) (h2 : strictB ps 0 6 = true) : canF pl ps = canS pl ps (zeroL pl.length) := by rw [canF, h1, h2]; rfl
theorem canS_t {pl : List RPl} {x : Int} {ps ld : List Int} {p : Nat} (hp : p < pl.length) (h1 : canAt pl x ld p = true) (h2 : canS pl ps (bump ld p) = true) : canS pl (x :: ps) ld = true := by
 rw [canS, List.any_eq_true]
 exact ⟨p, List.mem_range.2 hp, by rw [h1, h2]; rfl⟩
def TriedF (pl : List RPl) (x : Int) (ps ld : List Int) (k : Nat) : Prop := ∀ p, p < k → (canAt pl x ld p && canS pl ps (bump ld p)) = false
theorem TriedF.zero (pl : List RPl) (x : Int) (ps ld : List Int) : TriedF pl x ps ld 0 := fun p h => absurd h (by omega)
theorem TriedF.no {pl : List RPl} {x : Int} {ps ld : List Int} {k : Nat} (h : TriedF pl x ps ld k) (h1 : canAt pl x ld k = false) : TriedF pl x ps ld (k + 1) := fun p hp => by
 rcases Nat.lt_succ_iff_lt_or_eq.1 hp with h2 | rfl
 ·exact h p h2
 ·rw [h1]; rfl
theorem TriedF.sub {pl : List RPl} {x : Int} {ps ld : List Int} {k : Nat} (h : TriedF pl x ps ld k) (h1 : canS pl ps (bump ld k) = false) : TriedF pl x ps ld (k + 1) := fun p hp => by
 rcases Nat.lt_succ_iff_lt_or_eq.1 hp with h2 | rfl
 ·exact h p h2
 ·rw [h1, Bool.and_false]
theorem TriedF.end_ {pl : List RPl} {x : Int} {ps ld : List Int} (h : TriedF pl x ps ld pl.length) : canS pl (x :: ps) ld = false := by
 rw [canS]
 exact Bool.eq_false_iff.2 (fun h2 => by
  obtain ⟨p, hp, h3⟩ := List.any_eq_true.1 h2
  rw [h p (List.mem_range.1 hp)] at h3
  exact absurd h3 (by simp))
theorem canAt_eq {pl : List RPl} {x : Int} {ld : List Int} {p : Nat} (hp : p < pl.length) (hl : p < ld.length) : canAt pl x ld p = (decide (ld[p] < pl[p].2) && knowsB pl[p] x) := by
 unfold canAt
 rw [List.getD_eq_getElem?_getD, List.getElem?_eq_getElem hl, List.getD_eq_getElem?_getD, List.getElem?_eq_getElem hp]; rfl
theorem bump_eq {ld : List Int} {p : Nat} (hl : p < ld.length) : bump ld p = ld.set p (ld[p] + 1) := by
 unfold bump
 rw [List.getD_eq_getElem?_getD, List.getElem?_eq_getElem hl]; rfl
def whyF (n : Int) (cs : List RCross) (pl : List RPl) : Int :=
 if companyB n cs pl = true then (if orderF n.toNat cs = upN n.toNat then (if woundL n.toNat cs = [] then (if canF pl (upN n.toNat) = true then 0 else 3) else 2) else 1) else -1
theorem whyF_m {n : Int} {cs : List RCross} {pl : List RPl} (h : companyB n cs pl = false) : whyF n cs pl = -1 := if_neg (by rw [h]; simp)
theorem whyF_1 {n : Int} {cs : List RCross} {pl : List RPl} (h : companyB n cs pl = true) (h1 : ¬ orderF n.toNat cs = upN n.toNat) : whyF n cs pl = 1 := by rw [whyF, if_pos h, if_neg h1]
theorem whyF_2 {n : Int} {cs : List RCross} {pl : List RPl} (h : companyB n cs pl = true) (h1 : orderF n.toNat cs = upN n.toNat) (h2 : ¬ woundL n.toNat cs = []) : whyF n cs pl = 2 := by rw [whyF, if_pos h, if_pos h1, if_neg h2]
theorem whyF_3 {n : Int} {cs : List RCross} {pl : List RPl} (h : companyB n cs pl = true) (h1 : orderF n.toNat cs = upN n.toNat) (h2 : woundL n.toNat cs = []) (h3 : canF pl (upN n.toNat) = false) : whyF n cs pl = 3 := by rw [whyF, if_pos h, if_pos h1, if_pos h2, if_neg (by rw [h3]; simp)]
theorem whyF_0 {n : Int} {cs : List RCross} {pl : List RPl} (h : companyB n cs pl = true) (h1 : orderF n.toNat cs = upN n.toNat) (h2 : woundL n.toNat cs = []) (h3 : canF pl (upN n.toNat) = true) : whyF n cs pl = 0 := by rw [whyF, if_pos h, if_pos h1, if_pos h2, if_pos h3]
open Go.RowKit
theorem swapL_at {l : List Int} {k : Nat} (h : k + 1 < l.length) : (swapL l k).getD k 0 = l.getD (k + 1) 0 := by
 unfold swapL
 simp only [List.getD_eq_getElem?_getD, List.getElem?_set, List.length_set]
 rw [if_neg (show ¬ k + 1 = k by omega)]
 simp only [if_true]
 rw [if_pos (show k < l.length by omega), Option.getD_some]
theorem swapL_at1 {l : List Int} {k : Nat} (h : k + 1 < l.length) : (swapL l k).getD (k + 1) 0 = l.getD k 0 := by
 unfold swapL
 simp only [List.getD_eq_getElem?_getD, List.getElem?_set, List.length_set]
 simp only [if_true]
 rw [if_pos h, Option.getD_some]
theorem swapL_ne {l : List Int} {k j : Nat} (h1 : j ≠ k) (h2 : j ≠ k + 1) : (swapL l k).getD j 0 = l.getD j 0 := by
 unfold swapL
 simp only [List.getD_eq_getElem?_getD, List.getElem?_set, List.length_set]
 rw [if_neg (fun e => h2 e.symm), if_neg (fun e => h1 e.symm)]
theorem upN_getD {n i : Nat} (h : i < n) : (upN n).getD i 0 = (i : Int) := by
 unfold upN
 rw [List.getD_eq_getElem?_getD, List.getElem?_map, List.getElem?_range h]; rfl
theorem ord_ne {n : Nat} {o : List Int} (h : IsOrd n o) {i j x y : Nat} (hi : i < n) (hj : j < n) (hij : i ≠ j) (hx : o.getD i 0 = (x : Int)) (hy : o.getD j 0 = (y : Int)) : x ≠ y := by
 have hl := h.len
 have h1 : i < o.length := by omega
 have h2 : j < o.length := by omega
 have := h.ne h1 h2 hij
 rw [List.getD_eq_getElem?_getD, List.getElem?_eq_getElem h1, Option.getD_some] at hx
 rw [List.getD_eq_getElem?_getD, List.getElem?_eq_getElem h2, Option.getD_some] at hy
 intro e
 subst e
 exact this (by rw [hx, hy])
structure Adds (n : Nat) (t t' : List (List Int)) (x y : Nat) (d : Int) : Prop where
 sq : Sq n t'
 cell : ∀ i j, cellT t' i j = if (i = x ∧ j = y) ∨ (i = y ∧ j = x) then cellT t i j + d else cellT t i j
theorem Adds.st {n : Nat} {o : List Int} {t t' : List (List Int)} {x y : Nat} {d : Int} (h : IsSt n (o, t)) (ha : Adds n t t' x y d) : IsSt n (o, t') := by
 refine ⟨h.ord, ha.sq, fun i j => ?_⟩
 show cellT t' i j = cellT t' j i
 have hs : cellT t i j = cellT t j i := h.sym i j
 rw [ha.cell, ha.cell, hs]
 by_cases h1 : (i = x ∧ j = y) ∨ (i = y ∧ j = x)
 ·rw [if_pos h1, if_pos (h1.symm.imp (fun e => ⟨e.2, e.1⟩) (fun e => ⟨e.2, e.1⟩))]
 ·rw [if_neg h1, if_neg (fun e => h1 (e.symm.imp (fun e => ⟨e.2, e.1⟩) (fun e => ⟨e.2, e.1⟩)))]
theorem step_at {n : Nat} {o : List Int} {t : List (List Int)} (h : IsSt n (o, t)) {k : Nat} (hk : k + 1 < n) (f : Bool) {x y : Nat} (hx : o.getD k 0 = (x : Int)) (hy : o.getD (k + 1) 0 = (y : Int)) :
  x < n ∧ y < n ∧ x ≠ y ∧ ∃ t', twStep (o, t) ((k : Int), f) = (swapL o k, t') ∧ Adds n t t' x y (stepB f) ∧ IsSt n (swapL o k, t') := by
 obtain ⟨x', y', hx', hy', hne, e1, e2, e3, e4⟩ := pair_of h.ord hk
 have ex : x = x' := by have := hx.symm.trans e1; omega
 have ey : y = y' := by have := hy.symm.trans e2; omega
 subst ex ey
 have hst := h.step (c := ((k : Int), f)) ⟨by simp, by simp; omega⟩
 rw [twStep_of (_n := n) (c := ((k : Int), f)) e3 e4] at hst ⊢
 exact ⟨hx', hy', hne, _, rfl, ⟨hst.sq, fun i j => add2_cell h.sq hx' hy' hne _ i j⟩, hst⟩
def ParSt (n : Nat) (st : List Int × List (List Int)) : Prop := ∀ p q : Nat, p < q → q < n → ∀ a b : Nat, st.1.getD p 0 = (a : Int) → st.1.getD q 0 = (b : Int) → cellT st.2 a b % 2 = if b < a then 1 else 0
theorem ParSt.start (n : Nat) : ParSt n (upN n, zeroT n) := by
 intro p q hpq hq a b ha hb
 have ha : (upN n).getD p 0 = (a : Int) := ha
 have hb : (upN n).getD q 0 = (b : Int) := hb
 rw [upN_getD (by omega)] at ha
 rw [upN_getD (by omega)] at hb
 show cellT (zeroT n) a b % 2 = _
 rw [zeroT_cell, if_neg (by omega)]; rfl
theorem ParSt.step {n : Nat} {o : List Int} {t : List (List Int)} (h : IsSt n (o, t)) (hp : ParSt n (o, t)) {k : Nat} (hk : k + 1 < n) (f : Bool) : ParSt n (twStep (o, t) ((k : Int), f)) := by
 have hl : o.length = n := h.ord.len
 obtain ⟨x, y, _, _, _, ex, ey, _, _⟩ := pair_of h.ord hk
 obtain ⟨hx, hy, hne, t', e, ad, s'⟩ := step_at h hk f ex ey
 rw [e]
 have other : ∀ p q a b : Nat, p < q → q < n → ¬ (p = k ∧ q = k + 1) → o.getD p 0 = (a : Int) → o.getD q 0 = (b : Int) → cellT t' a b % 2 = if b < a then 1 else 0 := by
  intro p q a b hpq hq hno ha hb
  rw [ad.cell, if_neg, ]
  ·exact hp p q hpq hq a b ha hb
  ·rintro (⟨rfl, rfl⟩ | ⟨rfl, rfl⟩)
   ·have h1 : p = k := Classical.byContradiction fun hn => ord_ne h.ord (show p < n by omega) (show k < n by omega) hn ha ex rfl
    have h2 : q = k + 1 := Classical.byContradiction fun hn => ord_ne h.ord hq hk hn hb ey rfl
    exact hno ⟨h1, h2⟩
   ·have h1 : p = k + 1 := Classical.byContradiction fun hn => ord_ne h.ord (show p < n by omega) hk hn ha ey rfl
    have h2 : q = k := Classical.byContradiction fun hn => ord_ne h.ord hq (show k < n by omega) hn hb ex rfl
    omega
 intro p q hpq hq a b ha hb
 have ga : (swapL o k).getD p 0 = (a : Int) := ha
 have gb : (swapL o k).getD q 0 = (b : Int) := hb
 clear ha hb
 show cellT t' a b % 2 = _
 by_cases h1 : p = k
 ·subst h1
  rw [swapL_at (by omega)] at ga
  by_cases h2 : q = p + 1
  ·subst h2
   rw [swapL_at1 (by omega)] at gb
   have ea : a = y := by have := ga.symm.trans ey; omega
   have eb : b = x := by have := gb.symm.trans ex; omega
   subst ea eb
   have h3 : cellT t b a % 2 = if a < b then 1 else 0 := hp p (p + 1) (by omega) hq b a ex ey
   have h4 : cellT t a b = cellT t b a := h.sym a b
   rw [ad.cell, if_pos (.inr ⟨rfl, rfl⟩), h4]
   have hs : stepB f = 1 ∨ stepB f = -1 := by cases f; exact .inr rfl; exact .inl rfl
   by_cases h5 : a < b
   ·rw [if_pos h5] at h3
    rw [if_neg (by omega)]
    omega
   ·rw [if_neg h5] at h3
    rw [if_pos (by omega)]
    omega
  ·rw [swapL_ne (by omega) h2] at gb
   exact other (p + 1) q a b (by omega) hq (by omega) ga gb
 ·by_cases h2 : p = k + 1
  ·subst h2
   rw [swapL_at1 (by omega)] at ga
   rw [swapL_ne (by omega) (by omega)] at gb
   exact other k q a b (by omega) hq (by omega) ga gb
  ·rw [swapL_ne h1 h2] at ga
   by_cases h3 : q = k
   ·subst h3
    rw [swapL_at (by omega)] at gb
    exact other p (q + 1) a b (by omega) hk (by omega) ga gb
   ·by_cases h4 : q = k + 1
    ·subst h4
     rw [swapL_at1 (by omega)] at gb
     exact other p k a b (by omega) (by omega) (by omega) ga gb
    ·rw [swapL_ne h3 h4] at gb
     exact other p q a b hpq hq (by omega) ga gb
theorem cross_nat {n : Nat} {c : RCross} (h : 0 ≤ c.1 ∧ c.1 ≤ (n : Int) - 2) : ∃ k : Nat, c = ((k : Int), c.2) ∧ k + 1 < n := ⟨c.1.toNat, by rw [show ((c.1.toNat : Nat) : Int) = c.1 by omega], by omega⟩
theorem ParSt.fold {n : Nat} : ∀ (cs : List RCross) {st : List Int × List (List Int)}, IsSt n st → ParSt n st → (∀ c ∈ cs, 0 ≤ c.1 ∧ c.1 ≤ (n : Int) - 2) → ParSt n (cs.foldl twStep st) := by
 intro cs
 induction cs with
 | nil => intro st _ h _; exact h
 | cons c cs ih =>
  intro st h hp hc
  rw [List.foldl_cons]
  have hb := hc c List.mem_cons_self
  refine ih (h.step hb) ?_ (fun x hx => hc x (List.mem_cons_of_mem _ hx))
  obtain ⟨k, e, hk⟩ := cross_nat hb
  rw [e]
  exact ParSt.step (o := st.1) (t := st.2) h hp hk _
/- reduced crossings -/
/- going home -/
open Go.RowKit
def slLen : Value → Nat
 | .slice _ n _ => n
 | _ => 0
def Apart (v u : Value) : Prop := ∀ b ∈ v.ownBlock.toList, b ∉ u.ownBlock.toList
structure SortSt (m : Nat) (l d o : List Int) : Prop where
 ord : IsOrd m o
 eq : swapsF l = d ++ swapsF o
theorem SortSt.len {m : Nat} {l d o : List Int} (h : SortSt m l d o) : d.length + inv o = inv l := by
 have := congrArg List.length h.eq
 rw [swapsF_len, List.length_append, swapsF_len] at this
 exact this.symm
theorem SortSt.step {m : Nat} {l d o : List Int} (h : SortSt m l d o) {k : Nat} (hk : FirstDesc o k) : SortSt m l (d ++ [(k : Int)]) (swapL o k) := by
 refine ⟨h.ord.swap (by have := hk.lt; rwa [h.ord.len] at this), ?_⟩
 rw [h.eq, swapsF_step hk, List.append_assoc]; rfl
theorem inv_49 {m : Nat} {l : List Int} (h : IsOrd m l) (hm : m ≤ 7) : inv l ≤ 49 := by
 have h1 := inv_le l
 rw [h.len] at h1
 have : m * m ≤ 7 * 7 := Nat.mul_le_mul hm hm
 omega
theorem SortSt.end_ {m : Nat} {l d o : List Int} (h : SortSt m l d o) (h0 : inv o = 0) : swapsF l = d := by rw [h.eq, swapsF_zero h0, List.append_nil]
def UpTo (o : List Int) (k : Nat) : Prop := ∀ j (_ : j < k) (h : j + 1 < o.length), o[j] < o[j + 1]
theorem UpTo.zero (o : List Int) : UpTo o 0 := fun j h => absurd h (by omega)
theorem UpTo.succ {o : List Int} {k : Nat} (h : UpTo o k) (hk : k + 1 < o.length) (hx : o[k] < o[k + 1]) : UpTo o (k + 1) := fun j hj h1 => by
 rcases Nat.lt_succ_iff_lt_or_eq.1 hj with h2 | rfl
 ·exact h j h2 h1
 ·exact hx
theorem UpTo.all {o : List Int} {k : Nat} (h : UpTo o k) (hk : o.length ≤ k + 1) : inv o = 0 := no_desc o (fun j hj => h j (by omega) hj)
theorem UpTo.first {m : Nat} {o : List Int} {k : Nat} (h : UpTo o k) (ho : IsOrd m o) (hk : k + 1 < o.length) (hx : ¬ o[k] < o[k + 1]) : FirstDesc o k :=
 ⟨hk, fun j hj => h j hj (by omega), by have := ho.ne (i := k) (j := k + 1) (by omega) hk (by omega); omega⟩
theorem own_lt {w : World} {B : Nat} {e : TypeId} {size n : Nat} {v : Value} {xs : List Value} (h : w.ownsRow B e size v n xs) : ∀ b ∈ v.ownBlock.toList, B ≤ b ∧ b < w.heap.size := fun b hb => (fresh_of h).2 b hb
theorem apart_new {w w' : World} {B B' n n' : Nat} {e e' : TypeId} {size size' : Nat} {v u : Value} {xs xs' : List Value} (h : w'.ownsRow B e size v n xs) (hu : w.ownsRow B' e' size' u n' xs') (hB : w.heap.size ≤ B) : Apart v u := fun b hb hb' => by
 have h1 := (own_lt h b hb).1
 have h2 := (own_lt hu b hb').2
 omega
theorem apart_grow {w : World} {B n : Nat} {e : TypeId} {size : Nat} {v u u' : Value} {xs : List Value} (h : w.ownsRow B e size v n xs) (hap : Apart v u) {N : Nat} (hN : w.heap.size ≤ N) (hat : u'.ownBlock = u.ownBlock ∨ u'.ownBlock = some N) : Apart v u' := fun b hb hb' => by
 rcases hat with e | e
 ·rw [e] at hb'; exact hap b hb hb'
 ·rw [e] at hb'
  have h1 := (own_lt h b hb).2
  simp at hb'
  omega
set_option maxHeartbeats 4000000 in
set_option maxRecDepth 100000 in
theorem specSorting_any (m : Nat) (v : Value) (l : List Int) (w : World) (h : RdL cInt 1 w v l) (hord : IsOrd m l) (hm : 1 ≤ m ∧ m ≤ 7) :
  Calls Tryz.prog 221 #[v] w fun e w' => ∃ v', e = .returned v' ∧ w'.ownsRow w.heap.size 3 1 v' (swapsF l).length ((swapsF l).flatMap cInt) ∧ Below w.heap.size w w' := by
 have h0 := h
 obtain ⟨A, c, rfl, h1, h2⟩ := h.form
 obtain ⟨iI, hiI, hzI0, hzI1, hzI2⟩ := info_parts infoInt
 have hl7 : l.length ≤ 7 := by rw [hord.len]; omega
 have hi49 := inv_49 hord hm.2
 have HO := Lib.hid hord
 have HS0 : Hid (SortSt m l [] l) := ⟨hord, rfl⟩
 clear hord
 have hownA := World.ownsRow_made (size := 1) (e := 3) w #[] 0 (Nat.le_refl _) (by simp [maxLen]) rfl
 have hown1 : ((w.alloc (.cells #[] 3)).alloc (.cells #[] 3)).ownsRow (w.heap.size + 1) 3 1 (.slice (some ⟨w.heap.size + 1, 0, none⟩) 0 0) 0 [] := by
  have := World.ownsRow_made (size := 1) (e := 3) (w.alloc (.cells #[] 3)) #[] 0 (Nat.le_refl _) (by simp [maxLen]) rfl
  simpa using this
 have hownB := hownA.alloc (.cells #[] 3)
 have hal : Below w.heap.size w ((w.alloc (.cells #[] 3)).alloc (.cells #[] 3)) := ((Below.refl _ _).alloc (Nat.le_refl _) _).alloc (by simp) _
 have h3 := h0.below hal
 go_enter Tryz.func221, Tryz.ntmps221
 go_wp2_with (at_builtin; refine wpList_append_empty _ rfl (.tmp 7) (.tmp 8) _ rfl (w.heap.size + 1) 3 iI _ 1 8 Tryz.underlying28 hiI hzI0 hzI1 hzI2 rfl (by omega) (w.heap.size + 1) rfl hown1 _ l.length (l.flatMap cInt) rfl h3 (oneCell_flat cInt_one l) (by simp [maxLen] <;> omega) (by omega) (by simp) ?_; intro v1 w1 own1 b1 at1)
 have hb1 : Below w.heap.size w w1 := Below.trans hal (b1.mono (by simp <;> omega))
 have hz1 := hb1.size
 have hp1 := own_below hownB b1
 have hap1 : Apart v1 (.slice (some ⟨w.heap.size, 0, none⟩) 0 0) := fun b hb hb' => by
  have := (own_lt own1 b hb).1
  simp [Value.ownBlock] at hb'
  omega
 have HAP := Lib.hid hap1
 have own1' := own_mono own1 (Nat.zero_le _)
 clear hownA hown1 hownB hal h3 b1 at1 own1 hap1
 obtain ⟨A1, c1, rfl, _, _⟩ := (RdS.of_own own1').form
 go_wp2_with fail
 go_loopw [3, 4, 5] (fun p q _ wr => ∃ d o : List Int, wr.ownsRow w.heap.size 3 1 p d.length (d.flatMap cInt) ∧ wr.ownsRow 0 3 1 q o.length (o.flatMap cInt) ∧ Hid (Apart q p) ∧ Hid (SortSt m l d o) ∧ Below w.heap.size w wr) (fun p _ _ _ => 49 - slLen p)
 case atStart => exact ⟨[], l, hp1, own1', HAP, HS0, hb1⟩
 case round =>
  obtain ⟨d, o, hp, hq, hap, hst, hb⟩ := hrel
  clear hp1 own1' HAP HS0 hb1 hz1
  have hrq : RdL cInt 1 wr _ o := RdS.of_own hq
  obtain ⟨Ap, cp, rfl, _, _⟩ := (RdS.of_own hp).form
  obtain ⟨Aq, cq, rfl, _, _⟩ := hrq.form
  have hsl := hst.out.len
  have hol : o.length ≤ 7 := by rw [hst.out.ord.len]; omega
  have Hok := Lib.hid (hst.out.ord.okB hm)
  have hz := hb.size
  have hC := specCountInv_any _ o wr hrq Hok.out
  obtain ⟨I, hI⟩ : ∃ I, inv o = I := ⟨_, rfl⟩
  rw [hI] at hC hsl
  have HI := Lib.hid hI
  clear hI
  have hd49 : d.length + I ≤ 49 := by omega
  clear hsl
  go_wp2_with fail
  refine hC.mono ?_
  rintro e w2 ⟨rfl, hb2⟩
  have hz2 := hb2.size
  have hp2 := own_below hp hb2
  have hq2 := own_below hq hb2
  have hrq2 : RdL cInt 1 w2 _ o := RdS.of_own hq2
  have hbb : Below w.heap.size w w2 := bl_trans hb hb2
  clear hp hq hC hb hb2
  by_cases hI0 : I = 0
  ·subst hI0
   clear hd49
   go_wp2_with fail
   go_ret
   rw [hst.out.end_ HI.out]
   exact ⟨_, rfl, hp2, hbb⟩
  ·have hI1 : 0 < I := by omega
   have hol2 : 2 ≤ o.length := by
    apply Classical.byContradiction
    intro hn
    have := (UpTo.zero o).all (by omega)
    rw [HI.out] at this
    omega
   clear hI0
   have hIi : (0 : Int) < (I : Int) := by omega
   go_wp2_with fail
   go_loopw [5] (fun i wi => ∃ (k d2 : Nat), i = .int .i64 k ∧ k + 1 < o.length ∧ Hid (UpTo o k) ∧ wi = w2.drewN d2) (fun i _ => 7 - (intOf i).toNat)
   case atStart => exact ⟨0, 0, rfl, by omega, UpTo.zero o, rfl⟩
   case round =>
    obtain ⟨k, d2, rfl, hk, hup, rfl⟩ := hrel
    obtain ⟨g1, off1, rfl, hg1, hc1⟩ := hrq2.cell (k := k) cInt_len (by omega) (by omega)
    obtain ⟨g2, off2, hA2, hg2, hc2⟩ := hrq2.cell (k := k + 1) cInt_len (by omega) hk
    injection hA2 with hA2
    injection hA2 with e1 e2
    subst e1 e2
    have k1 := hc1 0 _ rfl
    have k2 := hc2 0 _ rfl
    simp only [Nat.add_zero, Nat.mul_one] at k1 k2
    clear hc1 hc2
    have e1 : ((k : Int) + 1).toNat = k + 1 := by omega
    have HX : Hid (o[k] < o[k + 1] → UpTo o (k + 1)) := fun hx => hup.out.succ hk hx
    have HY : Hid (¬ o[k] < o[k + 1] → FirstDesc o k) := fun hx => hup.out.first hst.out.ord hk hx
    by_cases hx : o[k] < o[k + 1]
    ·have hk2 : k + 1 + 1 < o.length := by
      apply Classical.byContradiction
      intro hn
      have := (HX.out hx).all (by omega)
      rw [HI.out] at this
      omega
     have hxu := HX.out hx
     have HXU := Lib.hid hxu
     clear hxu HX HY
     have hx' : decide (o[k] < o[k + 1]) = true := decide_eq_true hx
     generalize o[k + 1] = y at *
     generalize o[k] = x at *
     go_wp2_with fail
     go_quiet (fail)
     rename_i nq
     go_wp2_with fail
     go_roundw
     case rel => exact ⟨k + 1, _, by go_num, hk2, HXU.out, rfl⟩
     case measure => simp [intOf]; omega
    ·have hfd := HY.out hx
     have HFD := Lib.hid hfd
     clear hfd HX HY
     have hx' : decide (o[k] < o[k + 1]) = false := decide_eq_false hx
     generalize o[k + 1] = y at *
     generalize o[k] = x at *
     go_wp2_with fail
     go_quiet (fail)
     rename_i nq
     have hq3 := own_below hq2 (below_drewN (Below.refl w2.heap.size w2) nq)
     go_wp2_with fail
     refine (specSwap_any _ o k _ (hrq2.below (below_drewN (Below.refl _ _) _)) Hok.out hk).mono ?_
     rintro e w3 ⟨v3, rfl, own3, hb3⟩
     obtain ⟨A3, c3, rfl, _, _⟩ := (RdS.of_own own3).form
     have hb23 : Below w2.heap.size w2 w3 := bl_trans (below_drewN (Below.refl _ _) _) hb3
     have hz3 := hb23.size
     have hp3 := own_below hp2 hb23
     have own3' : w3.ownsRow w2.heap.size 3 1 (.slice A3 o.length c3) (swapL o k).length ((swapL o k).flatMap cInt) := by rw [swapL_len]; exact own_mono own3 (by simp)
     have hap3 := Lib.hid (apart_new own3' hp2 (Nat.le_refl _))
     have hbb3 : Below w.heap.size w w3 := bl_trans hbb hb23
     have HS3 : Hid (SortSt m l (d ++ [(k : Int)]) (swapL o k)) := hst.out.step HFD.out
     have H3 := Lib.hid own3'
     clear own3 own3' hb3 hb23 hq3 hq2 hrq2 hrq
     go_wp2_with (at_builtin; refine wpList_appendB _ rfl (.tmp 31) (.tmp 33) _ rfl w.heap.size 3 iI _ 1 8 Tryz.underlying28 hiI hzI0 hzI1 hzI2 rfl (by omega) _ d.length (d.flatMap cInt) rfl (hp3.alloc _) _ 1 [.int .i64 k] rfl (rdS_new w3 #[.int .i64 k] _ 1 1 rfl (by simp [maxLen])) (by simp [Value.oneCell']) (by simp [maxLen]; omega) (by omega) (by simp; omega) ?_; intro v4 w4 own4 gr4 at4)
     obtain ⟨A4, c4, rfl, _, _⟩ := (RdS.of_own own4).form
     have hch := Chg.of_grown gr4
     have hb4 := below_own (hp3.alloc _) gr4 (by simp; omega)
     have q4 := Lib.hid (own_chg (H3.out.alloc _) hch hap3.out)
     have ap4 := Lib.hid (apart_grow (H3.out.alloc _) hap3.out (Nat.le_refl _) at4)
     clear gr4 at4 hch
     go_wp2_with fail
     go_roundw
     case rel => exact ⟨d ++ [(k : Int)], swapL o k, by rw [List.length_append, List.flatMap_append]; exact own4, own_mono q4.out (Nat.zero_le _), ap4.out, HS3.out, (hbb3.alloc (by omega) _).trans hb4⟩
     case measure => simp [slLen]; omega
def wayL (sw : List Int) : List RCross := sw.map (fun k => (k, true))
theorem wayL_snoc (sw : List Int) {k : Nat} (h : k < sw.length) : wayL (sw.take (k + 1)) = wayL (sw.take k) ++ [(sw[k], true)] := by unfold wayL; rw [take_snoc_l sw h, List.map_append]; rfl
theorem wayL_len (sw : List Int) : (wayL sw).length = sw.length := by simp [wayL]
set_option maxHeartbeats 4000000 in
set_option maxRecDepth 100000 in
theorem specBringHome_any (n : Int) (v : Value) (cs : List RCross) (w : World) (h : RdL cCross 2 w v cs) :
  Calls Tryz.prog 198 #[.int .i64 n, v] w fun e w' => ∃ v', e = .returned (.tuple #[v', .bool (crossesB n cs)]) ∧ w'.ownsRow w.heap.size 74 2 v' (homeL n cs).length ((homeL n cs).flatMap cCross) ∧ Below w.heap.size w w' := by
 have h0 := h
 obtain ⟨A, c, rfl, h1, h2⟩ := h.form
 obtain ⟨iX, hiX, hzX0, hzX1, hzX2⟩ := info_parts infoCross
 have hownA := World.ownsRow_made (size := 2) (e := 74) w #[] 0 (Nat.le_refl _) (by simp [maxLen]) rfl
 have hal : Below w.heap.size w (w.alloc (.cells #[] 74)) := (Below.refl _ _).alloc (Nat.le_refl _) _
 have h3 := h0.below hal
 go_enter Tryz.func198, Tryz.ntmps198
 go_wp2_with fail
 refine twoB (specCrossesOk_any n _ cs _ h3) (fun w1 hq hb1 => ?_) (fun w1 hq hb1 => ?_)
 ·obtain ⟨hn, hlen, hcs⟩ := crosses_len hq.out
  obtain ⟨m, rfl⟩ := Int.eq_ofNat_of_zero_le (show 0 ≤ n by omega)
  have hm : 1 ≤ m ∧ m ≤ 7 := by omega
  have hz1 := hb1.size
  simp at hz1
  have hb01 : Below w.heap.size w w1 := bl_trans hal hb1
  have hown1 := own_below hownA hb1
  have hO := specOrderAfter_any (m : Int) _ cs w1 (h0.below hb01)
  rw [ordR_t hq.out] at hO
  have HOrd := Lib.hid (IsOrd.order hcs)
  have HQ := Lib.hid hq.out
  have HH := Lib.hid (homeL_t hq.out)
  have Hm := Lib.hid hm
  clear hal h3 hownA hb1 hq hcs hn
  go_wp2_with fail
  refine hO.mono ?_
  rintro e w2 ⟨v2, rfl, own2, hb2⟩
  have hr2 : RdL cInt 1 w2 v2 (orderF m cs) := RdS.of_own own2
  have hb02 : Below w.heap.size w w2 := bl_trans hb01 hb2
  have hz2 := hb2.size
  have hown2 := own_below hown1 hb2
  clear own2 hb2 hO hown1 hb01
  obtain ⟨A2, c2, rfl, _, _⟩ := hr2.form
  have hi49 := inv_49 HOrd.out Hm.out.2
  rw [← swapsF_len] at hi49
  go_wp2_with fail
  refine (specSorting_any m _ (orderF m cs) _ hr2 HOrd.out Hm.out).mono ?_
  rintro e w3 ⟨v3, rfl, own3, hb3⟩
  have hb03 : Below w.heap.size w w3 := bl_trans hb02 hb3
  have hz3 := hb3.size
  have hown3 := own_below hown2 hb3
  have hap3 := Lib.hid (apart_new own3 hown2 (Nat.le_refl _))
  have own3' := own_mono own3 (Nat.zero_le _)
  obtain ⟨sw, hsw⟩ : ∃ sw, swapsF (orderF m cs) = sw := ⟨_, rfl⟩
  rw [hsw] at own3' hi49
  have HH2 : Hid (homeL (m : Int) cs = wayL sw) := by rw [← hsw]; exact HH.out
  clear own3 hb3 hr2 hown2 hb02 HH hsw
  obtain ⟨A3, c3, rfl, _, _⟩ := (RdS.of_own own3').form
  go_wp2_with fail
  go_loopw [6, 8] (fun p i wr => ∃ k : Nat, k ≤ sw.length ∧ i = .int .i64 k ∧ wr.ownsRow w.heap.size 74 2 p k ((wayL (sw.take k)).flatMap cCross) ∧ wr.ownsRow 0 3 1 (.slice A3 sw.length c3) sw.length (sw.flatMap cInt) ∧ Hid (Apart (.slice A3 sw.length c3) p) ∧ Below w.heap.size w wr) (fun _ i _ => sw.length - (intOf i).toNat)
  case atStart => exact ⟨0, Nat.zero_le _, rfl, hown3, own3', hap3, hb03⟩
  case round =>
   obtain ⟨k, hk, rfl, hp, hs, hap, hb⟩ := hrel
   clear hown3 own3' hap3 hb03
   have hz := hb.size
   obtain ⟨Ap, cp, rfl, _, _⟩ := (RdS.of_own hp).form
   by_cases hlt : k < sw.length
   ·have hrs : RdL cInt 1 wr (.slice A3 sw.length c3) sw := RdS.of_own hs
    obtain ⟨g, off, rfl, hg, hc⟩ := hrs.cell cInt_len (by omega) hlt
    have k0 := hc 0 _ rfl
    simp only [Nat.add_zero, Nat.mul_one] at k0
    clear hc
    have Hw := Lib.hid (wayL_snoc sw hlt)
    generalize sw[k] = x at *
    go_wp2_with (at_builtin; refine wpList_appendB _ rfl (.tmp 25) (.tmp 31) _ rfl w.heap.size 74 iX _ 2 16 Tryz.underlying24 hiX hzX0 hzX1 hzX2 rfl (by omega) _ k ((wayL (sw.take k)).flatMap cCross) rfl (hp.alloc _) _ 1 [.int .i64 x, .bool true] rfl (rdS_new wr #[.int .i64 x, .bool true] _ 2 1 rfl (by simp [maxLen])) (by simp [Value.oneCell']) (by simp [maxLen]; omega) (by omega) (by simp; omega) ?_; intro v4 w4 own4 gr4 at4)
    obtain ⟨A4, c4, rfl, _, _⟩ := (RdS.of_own own4).form
    have hch := Chg.of_grown gr4
    have hb4 := below_own (hp.alloc _) gr4 (by simp; omega)
    have q4 := Lib.hid (own_chg (hs.alloc _) hch hap.out)
    have ap4 := Lib.hid (apart_grow (hs.alloc _) hap.out (Nat.le_refl _) at4)
    clear gr4 at4 hch
    go_wp2_with fail
    go_roundw
    case rel => exact ⟨k + 1, by omega, by go_num, by rw [Hw.out, List.flatMap_append]; exact own4, q4.out, ap4.out, (hb.alloc (by omega) _).trans hb4⟩
    case measure => simp [intOf]; omega
   ·obtain rfl : k = sw.length := by omega
    rw [List.take_length] at hp
    go_wp2_with fail
    go_ret2
    rw [HQ.out, HH2.out, wayL_len]
    exact ⟨_, rfl, hp, hb⟩
 ·have hb01 : Below w.heap.size w w1 := bl_trans hal hb1
  have hown1 := own_below hownA hb1
  clear hal h3 hownA hb1
  go_wp2_with fail
  go_ret2
  rw [hq.out, homeL_f hq.out]
  exact ⟨_, rfl, hown1, hb01⟩
open Go.RowKit
theorem knows_ix (p : RPl) (x : Int) : knowsB p x = true ↔ 0 ≤ idxF p.1 x := by
 unfold knowsB
 rw [List.any_eq_true]
 constructor
 ·rintro ⟨y, hy, e⟩
  have := of_decide_eq_true e
  subst this
  rw [idxF_mem hy]; omega
 ·intro h
  apply Classical.byContradiction
  intro hno
  have : idxF p.1 x = -1 := idxF_none (List.all_eq_true.2 (fun y hy => neB_t (fun e => hno ⟨y, hy, decide_eq_true e⟩)))
  omega
theorem playersB_fr {pl : List RPl} (h : playersB pl = true) : ∀ r ∈ pl, 0 ≤ r.2 ∧ r.2 ≤ 2 := fun r hr => by
 rw [playersB, Bool.and_eq_true] at h
 have := List.all_eq_true.1 h.1 r hr
 rw [playerB, Bool.and_eq_true] at this
 exact inB_iff.1 this.2
def RetCast (b : Bool) (w : World) (e : Ending) (w' : World) : Prop := ∃ vo, e = .returned (.tuple #[vo, .bool b]) ∧ Below w.heap.size w w'
structure Hands (pl : List RPl) (ld fr : List Int) : Prop where
 l1 : ld.length = pl.length
 l2 : fr.length = pl.length
 at_ : ∀ p (h : p < pl.length) (h1 : p < ld.length) (h2 : p < fr.length), fr[p] = pl[p].2 - ld[p] ∧ 0 ≤ fr[p] ∧ 0 ≤ ld[p] ∧ pl[p].2 ≤ 2
theorem Hands.start {pl : List RPl} (h : ∀ r ∈ pl, 0 ≤ r.2 ∧ r.2 ≤ 2) : Hands pl (zeroL pl.length) (pl.map (·.2)) := by
 refine ⟨by simp [zeroL], by simp, fun p h0 h1 h2 => ?_⟩
 have := h _ (List.getElem_mem h0)
 simp [zeroL]
 omega
theorem Hands.can {pl : List RPl} {ld fr : List Int} (h : Hands pl ld fr) {k : Nat} (hk : k < pl.length) (hf : k < fr.length) (x : Int) : canAt pl x ld k = (decide (fr[k] ≠ 0) && knowsB pl[k] x) := by
 have h1 := h.l1
 have := h.at_ k hk (by omega) hf
 rw [canAt_eq hk (by omega)]
 congr 1
 simp only [decide_eq_decide]
 omega
theorem Hands.less {pl : List RPl} {ld fr : List Int} (h : Hands pl ld fr) {k : Nat} (hf : k < fr.length) (h0 : fr[k] ≠ 0) : Hands pl (bump ld k) (fr.set k (fr[k] - 1)) := by
 have h1 := h.l1
 have h2 := h.l2
 have hb := bump_eq (ld := ld) (p := k) (by omega)
 refine ⟨by rw [bump_len]; exact h1, by simpa using h2, fun p hp h3 h4 => ?_⟩
 have hp' := h.at_ p hp (by omega) (by omega)
 rw [List.getElem_set]
 have e : (bump ld k)[p] = if k = p then ld[k]'(by omega) + 1 else ld[p]'(by omega) := by simp only [hb, List.getElem_set]
 rw [e]
 by_cases hkp : k = p
 ·subst hkp; rw [if_pos rfl, if_pos rfl]; omega
 ·rw [if_neg hkp, if_neg hkp]; exact hp'
theorem set_back {fr : List Int} {k : Nat} (hk : k < fr.length) (x : Int) : (fr.set k x).set k fr[k] = fr := by rw [List.set_set, List.set_getElem_self]
theorem row_len0 (l : List Int) : (l.flatMap cInt).length = l.length * 1 := by rw [Nat.mul_one]; exact row_len' l
 where row_len' : ∀ l : List Int, (l.flatMap cInt).length = l.length
 | [] => rfl
 | a :: l => by rw [List.flatMap_cons, List.length_append, row_len' l, List.length_cons]; show 1 + l.length = _; omega
abbrev BX (gc gp gk gl gf gr go gF : Nat) : List Nat := [gc, gp, gk, gl, gf, gr, go, gF]
structure CS0 (w0 w : World) (gc gp gk gl gf gr go gF : Nat) (vp vk vl vf vr : Value) (fr : List Int) (fd : Bool) : Prop where
 base : ∀ b ∈ BX gc gp gk gl gf gr go gF, w0.heap.size ≤ b
 nd : (BX gc gp gk gl gf gr go gF).Nodup
 below : Below w0.heap.size w0 w
 bp : Loc w gp [vp]
 bk : Loc w gk [vk]
 bl : Loc w gl [vl]
 bf : Loc w gf [vf]
 br : Loc w gr [vr]
 bo : ∃ vo, Loc w go [vo]
 bF : Loc w gF [.bool fd]
 free : w.ownsRow w0.heap.size 3 1 vf fr.length (fr.flatMap cInt)
 apf : ∀ b ∈ vf.ownBlock.toList, b ∉ BX gc gp gk gl gf gr go gF
structure CS (w0 w : World) (gc gp gk gl gf gr go gF : Nat) (vp vk vl vf vr : Value) (cast fr : List Int) (fd : Bool) : Prop where
 rest : CS0 w0 w gc gp gk gl gf gr go gF vp vk vl vf vr fr fd
 cst : ∃ vc, Loc w gc [vc] ∧ w.ownsRow w0.heap.size 3 1 vc cast.length (cast.flatMap cInt) ∧ ∀ b ∈ vc.ownBlock.toList, b ∉ BX gc gp gk gl gf gr go gF ++ vf.ownBlock.toList
theorem loc_lt {w : World} {b : Nat} {v : Value} (h : Loc w b [v]) : b < w.heap.size := World.block_lt_of_cell? w _ (h 0 v rfl).1
section
variable {w0 w w' : World} {gc gp gk gl gf gr go gF : Nat} {vp vk vl vf vr : Value} {cast fr : List Int} {fd : Bool}
theorem CS0.chg (h : CS0 w0 w gc gp gk gl gf gr go gF vp vk vl vf vr fr fd) {S : List Nat} (hc : Chg S w w') (hS : ∀ b ∈ S, w0.heap.size ≤ b) (hn : ∀ b ∈ [gp, gk, gl, gf, gr, go, gF], b ∉ S) (hf : ∀ b ∈ vf.ownBlock.toList, b ∉ S) : CS0 w0 w' gc gp gk gl gf gr go gF vp vk vl vf vr fr fd := by
 obtain ⟨vo, h4⟩ := h.bo
 exact ⟨h.base, h.nd, Below.chg h.below hc h.below.size hS, h.bp.chg hc (hn _ (by simp)), h.bk.chg hc (hn _ (by simp)), h.bl.chg hc (hn _ (by simp)), h.bf.chg hc (hn _ (by simp)), h.br.chg hc (hn _ (by simp)), ⟨vo, h4.chg hc (hn _ (by simp))⟩, h.bF.chg hc (hn _ (by simp)), own_chg h.free hc hf, h.apf⟩
theorem CS.keep (h : CS w0 w gc gp gk gl gf gr go gF vp vk vl vf vr cast fr fd) (hb : Below w.heap.size w w') : CS w0 w' gc gp gk gl gf gr go gF vp vk vl vf vr cast fr fd := by
 obtain ⟨vc, h1, h2, h3⟩ := h.cst
 exact ⟨h.rest.chg (Chg.of_below hb []) (by simp) (by simp) (by simp), vc, h1.below hb, own_below h2 hb, h3⟩
theorem CS.drewN (h : CS w0 w gc gp gk gl gf gr go gF vp vk vl vf vr cast fr fd) (n : Nat) : CS w0 (w.drewN n) gc gp gk gl gf gr go gF vp vk vl vf vr cast fr fd := by
 obtain ⟨vc, h1, h2, h3⟩ := h.cst
 let c0 := Chg.refl [] w
 exact ⟨h.rest.chg (S := []) (w' := w.drewN n) ⟨c0.os, c0.tape, c0.output, c0.size, c0.block⟩ (by simp) (by simp) (by simp), vc, h1.drewN n, h2, h3⟩
theorem CS.free_at (h : CS w0 w gc gp gk gl gf gr go gF vp vk vl vf vr cast fr fd) {k : Nat} (hk : k < fr.length) :
  ∃ g c, vf = .slice (some ⟨g, 0, none⟩) fr.length c ∧ w.cell? ⟨g, k, none⟩ = some (.int .i64 fr[k]) ∧ w.frozen? ⟨g, k, none⟩ = false ∧ ∀ x, CS w0 (w.setCell ⟨g, k, none⟩ (.int .i64 x)) gc gp gk gl gf gr go gF vp vk vl vf vr cast (fr.set k x) fd := by
 obtain ⟨h, vc, h1, h2, h3⟩ := h
 have hf := h.free
 obtain ⟨g, c, rfl⟩ := own_form hf (by omega)
 obtain ⟨vo, h4⟩ := h.bo
 have hg : g ∉ BX gc gp gk gl gf gr go gF := h.apf g (by simp [Value.ownBlock])
 refine ⟨g, c, rfl, row_cell hf hk, hf.frozenAt k, fun x => ?_⟩
 have hch : Chg [g] w (w.setCell ⟨g, k, none⟩ (.int .i64 x)) := chg_set (Chg.refl _ _) (by simp)
 have hn : ∀ b ∈ BX gc gp gk gl gf gr go gF, b ∉ [g] := fun b hb hb' => by simp at hb'; subst hb'; exact hg hb
 refine ⟨⟨h.base, h.nd, h.below.setCell (own_lt hf g (by simp [Value.ownBlock])).1 _,
  h.bp.chg hch (hn _ (by simp)), h.bk.chg hch (hn _ (by simp)), h.bl.chg hch (hn _ (by simp)), h.bf.chg hch (hn _ (by simp)), h.br.chg hch (hn _ (by simp)), ⟨vo, h4.chg hch (hn _ (by simp))⟩, h.bF.chg hch (hn _ (by simp)), ?_, h.apf⟩,
  vc, h1.chg hch (hn _ (by simp)), own_chg h2 hch (fun b hb hb' => h3 b hb (by simp at hb'; subst hb'; simp [Value.ownBlock])), h3⟩
 have := row_stored hf k x
 rw [List.length_set]; exact this
theorem CS0.put {vc vc' : Value} {cast' : List Int} (h : CS0 w0 w gc gp gk gl gf gr go gF vp vk vl vf vr fr fd) (h1 : Loc w gc [vc]) (hown : w.ownsRow w0.heap.size 3 1 vc' cast'.length (cast'.flatMap cInt)) (hap : ∀ b ∈ vc'.ownBlock.toList, b ∉ BX gc gp gk gl gf gr go gF ++ vf.ownBlock.toList) :
  CS w0 (w.setCell ⟨gc, 0, none⟩ vc') gc gp gk gl gf gr go gF vp vk vl vf vr cast' fr fd := by
 have hch : Chg [gc] w (w.setCell ⟨gc, 0, none⟩ vc') := chg_set (Chg.refl _ _) (by simp)
 have hn : ∀ b ∈ [gp, gk, gl, gf, gr, go, gF], b ∉ [gc] := fun b hb hb' => by
  have := h.nd
  rw [List.nodup_cons] at this
  simp at hb'
  subst hb'
  exact this.1 hb
 exact ⟨h.chg hch (fun b hb => by simp at hb; subst hb; exact h.base b (by simp)) hn (fun b hb hb' => h.apf b hb (by simp at hb'; subst hb'; simp)),
  vc', h1.set (i := 0) (v := vc) rfl, own_chg hown hch (fun b hb hb' => hap b hb (by simp at hb'; subst hb'; simp)), hap⟩
theorem CS0.grown {vc : Value} {n : Nat} {xs : List Value} (h : CS0 w0 w gc gp gk gl gf gr go gF vp vk vl vf vr fr fd) (hL : Loc w gc [vc]) (ho : w.ownsRow w0.heap.size 3 1 vc n xs) (hap : ∀ b ∈ vc.ownBlock.toList, b ∉ BX gc gp gk gl gf gr go gF ++ vf.ownBlock.toList) (hg : w.grownBy w' vc.ownBlock) {v' : Value}
  (hat : v'.ownBlock = vc.ownBlock ∨ v'.ownBlock = some w.heap.size) :
  (∀ c', w'.ownsRow w0.heap.size 3 1 v' c'.length (List.flatMap cInt c') → CS w0 (w'.setCell ⟨gc, 0, none⟩ v') gc gp gk gl gf gr go gF vp vk vl vf vr c' fr fd) ∧ Loc w' gc [vc] := by
 have hch := Chg.of_grown hg
 have hn : ∀ b ∈ BX gc gp gk gl gf gr go gF, b ∉ vc.ownBlock.toList := fun b hb hb' => hap b hb' (List.mem_append_left _ hb)
 have hF : ∀ b ∈ vf.ownBlock.toList, b ∉ vc.ownBlock.toList := fun b hb hb' => hap b hb' (List.mem_append_right _ hb)
 obtain ⟨vo, h4⟩ := h.bo
 have hap' : ∀ b ∈ v'.ownBlock.toList, b ∉ BX gc gp gk gl gf gr go gF ++ vf.ownBlock.toList := fun b hb hb' => by
  rcases hat with e | e
  ·rw [e] at hb; exact hap b hb hb'
  ·rw [e] at hb
   have e2 : b = w.heap.size := by simpa using hb
   subst e2
   have hlt : w.heap.size < w.heap.size := by
    rcases List.mem_append.1 hb' with h5 | h5
    ·simp only [List.mem_cons, List.not_mem_nil, or_false] at h5
     rcases h5 with e | e | e | e | e | e | e | e
     ·have := loc_lt hL; omega
     ·have := loc_lt h.bp; omega
     ·have := loc_lt h.bk; omega
     ·have := loc_lt h.bl; omega
     ·have := loc_lt h.bf; omega
     ·have := loc_lt h.br; omega
     ·have := loc_lt h4; omega
     ·have := loc_lt h.bF; omega
    ·exact (own_lt h.free _ h5).2
   omega
 have hL' := hL.chg hch (hn _ (by simp))
 exact ⟨fun c' hc' => CS0.put (h.chg hch (fun b hb => (own_lt ho b hb).1) (fun b hb => hn b (List.mem_cons_of_mem _ hb)) hF) hL' hc' hap', hL'⟩
theorem CS.pop {k : Int} (h : CS w0 w gc gp gk gl gf gr go gF vp vk vl vf vr (cast ++ [k]) fr fd) : ∃ g c, Loc w gc [.slice (some ⟨g, 0, none⟩) (cast.length + 1) c] ∧ cast.length + 1 ≤ c ∧ CS w0 (w.setCell ⟨gc, 0, none⟩ (.slice (some ⟨g, 0, none⟩) cast.length c)) gc gp gk gl gf gr go gF vp vk vl vf vr cast fr fd := by
 obtain ⟨h, vc, h1, h2, h3⟩ := h
 have hl : (cast ++ [k]).length = cast.length + 1 := by simp
 rw [hl] at h2
 obtain ⟨g, c, rfl⟩ := own_form h2 (by omega)
 obtain ⟨A', c', e, hle, _⟩ := (RdS.of_own h2).form
 injection e with _ _ e3
 subst e3
 refine ⟨g, c, h1, hle, h.put h1 ?_ h3⟩
 have := own_prefix h2 (m := cast.length) (by omega) (by omega)
 rw [List.flatMap_append, show cast.length * 1 = (cast.flatMap cInt).length from (row_len0 cast).symm, List.take_left'] at this
 ·exact this
 ·rfl
theorem CS.found {v : Value} (h : CS w0 w gc gp gk gl gf gr go gF vp vk vl vf vr cast fr fd) : CS w0 ((w.setCell ⟨go, 0, none⟩ v).setCell ⟨gF, 0, none⟩ (.bool true)) gc gp gk gl gf gr go gF vp vk vl vf vr cast fr true := by
 obtain ⟨h, vc, h1, h2, h3⟩ := h
 obtain ⟨vo, h4⟩ := h.bo
 have hch : Chg [go, gF] w ((w.setCell ⟨go, 0, none⟩ v).setCell ⟨gF, 0, none⟩ (.bool true)) := chg_set (chg_set (Chg.refl _ _) (by simp)) (by simp)
 have hnd := h.nd
 simp only [BX, List.nodup_cons, List.mem_cons, List.not_mem_nil, or_false, not_or] at hnd
 obtain ⟨n1, n2, n3, n4, n5, n6, n7, _⟩ := hnd
 have hL : Loc ((w.setCell ⟨go, 0, none⟩ v).setCell ⟨gF, 0, none⟩ (.bool true)) go [v] := (h4.set (i := 0) (v := vo) (u := v) rfl).far n7
 have hL2 : Loc ((w.setCell ⟨go, 0, none⟩ v).setCell ⟨gF, 0, none⟩ (.bool true)) gF [.bool true] := (h.bF.far (g := go) (i := 0) (u := v) (fun e => n7 e.symm)).set (i := 0) (v := .bool fd) rfl
 have nm : ∀ b, b ≠ go → b ≠ gF → b ∉ [go, gF] := fun b h1 h2 hb => by
  rcases List.mem_cons.1 hb with e | e
  ·exact h1 e
  ·exact h2 (List.mem_singleton.1 e)
 have hsub : ∀ b ∈ [go, gF], b ∈ BX gc gp gk gl gf gr go gF := fun b hb => by
  rcases List.mem_cons.1 hb with e | e
  ·subst e; simp
  ·rw [List.mem_singleton.1 e]; simp
 exact ⟨⟨h.base, h.nd, Below.chg h.below hch h.below.size (fun b hb => h.base b (hsub b hb)), h.bp.chg hch (nm _ n2.2.2.2.2.1 n2.2.2.2.2.2), h.bk.chg hch (nm _ n3.2.2.2.1 n3.2.2.2.2), h.bl.chg hch (nm _ n4.2.2.1 n4.2.2.2), h.bf.chg hch (nm _ n5.2.1 n5.2.2), h.br.chg hch (nm _ n6.1 n6.2), ⟨v, hL⟩, hL2,
  own_chg h.free hch (fun b hb hb' => h.apf b hb (hsub b hb')), h.apf⟩, vc, h1.chg hch (nm _ n1.2.2.2.2.2.1 n1.2.2.2.2.2.2), own_chg h2 hch (fun b hb hb' => h3 b hb (List.mem_append_left _ (hsub b hb'))), h3⟩
end
open Go.RowKit
theorem quietL1 {P : Program} {f : FuncId} {args : Array Value} {w : World} {n : Nat} {v : Value}
  (h : Calls P f args (w.drewN n) fun e w' => e = .returned v ∧ w.drewN n = w') : Calls P f args (w.drewN n) fun e w'' => e = .returned v ∧ ∃ m, w'' = w.drewN m :=
 h.mono fun _ _ ⟨he, hm⟩ => ⟨he, n, hm.symm⟩
set_option maxHeartbeats 1000000 in
theorem castF_any {w0 w : World} {gc gp gk gl gf gr go gF : Nat} {vp vl vf : Value} {cast fr : List Int} {fd : Bool} (A : Option Addr) (n c : Nat) (h : CS w0 w gc gp gk gl gf gr go gF vp (.func (.func 133) #[] #[.pointer (some ⟨go, 0, none⟩), .pointer (some ⟨gF, 0, none⟩)]) vl vf (.func (.func 177) #[] #[.pointer (some ⟨gc, 0, none⟩), .pointer (some ⟨gp, 0, none⟩), .pointer (some ⟨gk, 0, none⟩), .pointer (some ⟨gl, 0, none⟩), .pointer (some ⟨gf, 0, none⟩), .pointer (some ⟨gr, 0, none⟩)]) cast fr fd) :
  Calls Tryz.prog 133 #[.slice A n c, .pointer (some ⟨go, 0, none⟩), .pointer (some ⟨gF, 0, none⟩)] w fun e w' => e = .returned (.bool false) ∧ CS w0 w' gc gp gk gl gf gr go gF vp (.func (.func 133) #[] #[.pointer (some ⟨go, 0, none⟩), .pointer (some ⟨gF, 0, none⟩)]) vl vf (.func (.func 177) #[] #[.pointer (some ⟨gc, 0, none⟩), .pointer (some ⟨gp, 0, none⟩), .pointer (some ⟨gk, 0, none⟩), .pointer (some ⟨gl, 0, none⟩), .pointer (some ⟨gf, 0, none⟩), .pointer (some ⟨gr, 0, none⟩)]) cast fr true := by
 have H := Lib.hid (h.found (v := .slice A n c))
 obtain ⟨vo, h4⟩ := h.rest.bo
 have b0 := (h4 0 _ rfl).1
 have f0 := (h4 0 _ rfl).2
 have hnd := h.rest.nd
 simp only [BX, List.nodup_cons, List.mem_cons, List.not_mem_nil, or_false, not_or] at hnd
 have hne : ¬ go = gF := hnd.2.2.2.2.2.2.1
 have hne' : ¬ gF = go := fun e => hne e.symm
 have b1 := (h.rest.bF 0 _ rfl).1
 have f1 := (h.rest.bF 0 _ rfl).2
 clear h h4 hnd
 go_enter Tryz.func133, Tryz.ntmps133
 go_wp2_with fail
 go_ret
 exact ⟨rfl, H.out⟩
theorem act68cr {a : Act} (h : a.tmps.size = 68) (hd : a.defers = []) : ∃ x0 x1 x2 x3 x4 x5 x6 x7 x8 x9 x10 x11 x12 x13 x14 x15 x16 x17 x18 x19 x20 x21 x22 x23 x24 x25 x26 x27 x28 x29 x30 x31 x32 x33 x34 x35 x36 x37 x38 x39 x40 x41 x42 x43 x44 x45 x46 x47 x48 x49 x50 x51 x52 x53 x54 x55 x56 x57 x58 x59 x60 x61 x62 x63 x64 x65 x66 x67 : Value, a = ⟨#[x0, x1, x2, x3, x4, x5, x6, x7, x8, x9, x10, x11, x12, x13, x14, x15, x16, x17, x18, x19, x20, x21, x22, x23, x24, x25, x26, x27, x28, x29, x30, x31, x32, x33, x34, x35, x36, x37, x38, x39, x40, x41, x42, x43, x44, x45, x46, x47, x48, x49, x50, x51, x52, x53, x54, x55, x56, x57, x58, x59, x60, x61, x62, x63, x64, x65, x66, x67], []⟩ := by
 obtain ⟨⟨l⟩, d⟩ := a
 subst hd
 match l, h with
 | x0 :: x1 :: x2 :: x3 :: x4 :: x5 :: x6 :: x7 :: x8 :: x9 :: x10 :: x11 :: x12 :: x13 :: x14 :: x15 :: x16 :: x17 :: x18 :: x19 :: x20 :: x21 :: x22 :: x23 :: x24 :: x25 :: x26 :: x27 :: x28 :: x29 :: x30 :: x31 :: x32 :: x33 :: x34 :: x35 :: x36 :: x37 :: x38 :: x39 :: x40 :: x41 :: x42 :: x43 :: x44 :: x45 :: x46 :: x47 :: x48 :: x49 :: x50 :: x51 :: x52 :: x53 :: x54 :: x55 :: x56 :: x57 :: x58 :: x59 :: x60 :: x61 :: x62 :: x63 :: x64 :: x65 :: x66 :: x67 :: [], _ => exact ⟨x0, x1, x2, x3, x4, x5, x6, x7, x8, x9, x10, x11, x12, x13, x14, x15, x16, x17, x18, x19, x20, x21, x22, x23, x24, x25, x26, x27, x28, x29, x30, x31, x32, x33, x34, x35, x36, x37, x38, x39, x40, x41, x42, x43, x44, x45, x46, x47, x48, x49, x50, x51, x52, x53, x54, x55, x56, x57, x58, x59, x60, x61, x62, x63, x64, x65, x66, x67, rfl⟩
def pcr (vk : Value) (vc : Value) (B n : Nat) (xs : List Value) (i : Nat) (v : Value) (_ : Nat → Nat) (w : World) : Prop :=
 match i with
 | 0 => v = vk
 | 1 => v = vc
 | 2 => ∃ A c, v = .slice A n c ∧ w.ownsRow B 3 1 (.slice A n c) n xs
 | _ => True
set_option maxHeartbeats 8000000 in
set_option maxRecDepth 100000 in
theorem castR_any (w0 : World) (vp vl vf : Value) (ps0 : List Int) (pl : List RPl) (hp : RdL cInt 1 w0 vp ps0) (hl : RdPls w0 vl pl) (hp7 : ps0.length ≤ 7) (hl6 : pl.length ≤ 6) (gc gp gk gl gf gr go gF : Nat) : ∀ (ps cast fr ld : List Int) (w : World), Hid (ps0.drop cast.length = ps ∧ cast.length ≤ ps0.length) → Hands pl ld fr → CS w0 w gc gp gk gl gf gr go gF vp (.func (.func 133) #[] #[.pointer (some ⟨go, 0, none⟩), .pointer (some ⟨gF, 0, none⟩)]) vl vf (.func (.func 177) #[] #[.pointer (some ⟨gc, 0, none⟩), .pointer (some ⟨gp, 0, none⟩), .pointer (some ⟨gk, 0, none⟩), .pointer (some ⟨gl, 0, none⟩), .pointer (some ⟨gf, 0, none⟩), .pointer (some ⟨gr, 0, none⟩)]) cast fr false →
  Calls Tryz.prog 177 #[.pointer (some ⟨gc, 0, none⟩), .pointer (some ⟨gp, 0, none⟩), .pointer (some ⟨gk, 0, none⟩), .pointer (some ⟨gl, 0, none⟩), .pointer (some ⟨gf, 0, none⟩), .pointer (some ⟨gr, 0, none⟩)] w fun e w' => e = .returned (.bool (!canS pl ps ld)) ∧ CS w0 w' gc gp gk gl gf gr go gF vp (.func (.func 133) #[] #[.pointer (some ⟨go, 0, none⟩), .pointer (some ⟨gF, 0, none⟩)]) vl vf (.func (.func 177) #[] #[.pointer (some ⟨gc, 0, none⟩), .pointer (some ⟨gp, 0, none⟩), .pointer (some ⟨gk, 0, none⟩), .pointer (some ⟨gl, 0, none⟩), .pointer (some ⟨gf, 0, none⟩), .pointer (some ⟨gr, 0, none⟩)]) cast fr (canS pl ps ld) := by
 intro ps
 obtain ⟨i0, hi0, hz0, hz1, hz2⟩ := info_parts infoInt
 induction ps with
 | nil =>
  intro cast fr ld w hps hhd hC
  have hlen : cast.length = ps0.length := by
   have h1 := congrArg List.length hps.out.1
   have h2 := hps.out.2
   simp at h1
   omega
  have hbe : ((cast.length : Int) == (ps0.length : Int)) = true := by rw [beq_iff_eq]; omega
  have hc7 : cast.length ≤ 7 := by omega
  clear hlen hps
  show Calls Tryz.prog 177 _ w fun e w' => e = .returned (.bool false) ∧ CS w0 w' gc gp gk gl gf gr go gF vp (.func (.func 133) #[] #[.pointer (some ⟨go, 0, none⟩), .pointer (some ⟨gF, 0, none⟩)]) vl vf (.func (.func 177) #[] #[.pointer (some ⟨gc, 0, none⟩), .pointer (some ⟨gp, 0, none⟩), .pointer (some ⟨gk, 0, none⟩), .pointer (some ⟨gl, 0, none⟩), .pointer (some ⟨gf, 0, none⟩), .pointer (some ⟨gr, 0, none⟩)]) cast fr true
  obtain ⟨vc, Lc, Oc, _⟩ := hC.cst
  have hpw := hp.below hC.rest.below
  have Ocr : RdL cInt 1 w vc cast := RdS.of_own Oc
  obtain ⟨Ac, cc, rfl, _, _⟩ := Ocr.form
  obtain ⟨Ap, cp, rfl, _, _⟩ := hpw.form
  have c0 := (Lc 0 _ rfl).1
  have p0 := (hC.rest.bp 0 _ rfl).1
  have k0 := (hC.rest.bk 0 _ rfl).1
  go_enter Tryz.func177, Tryz.ntmps177
  go_upto_region 2 with (fail)
  refine region_made (n := 68) 3 (by kernel_rfl) rfl (by kernel_rfl) (fun w' => Below w.heap.size w w') (fun _ => 0) (pcr (.func (.func 133) #[] #[.pointer (some ⟨go, 0, none⟩), .pointer (some ⟨gF, 0, none⟩)]) (.slice Ac cast.length cc) w.heap.size cast.length (cast.flatMap cInt)) (Below.refl _ _).drew ?_ ?_ ?_
  ·intro i v gh gh' w1 w2 hp hJ hb' hg
   match i, hp with
   | 0, hp => exact hp
   | 1, hp => exact hp
   | 2, ⟨A', c', hv, ho⟩ => exact ⟨A', c', hv, own_below ho hb'⟩
   | _ + 3, _ => trivial
  ·refine ⟨?_, ?_, ?_, trivial⟩
   all_goals
    intro a gh w5 hag hJ hd
    have ag0 : a.tmps.getD 0 undef = .pointer (some ⟨gc, 0, none⟩) := hag.kept 0 (by kernel_rfl)
    have ag2 : a.tmps.getD 2 undef = .pointer (some ⟨gk, 0, none⟩) := hag.kept 2 (by kernel_rfl)
    clear hag
   ·have k1 := carry hJ k0
    go_wp2_with fail
    exact ⟨rfl, _, rfl, rfl, hJ, Below.refl _ _⟩
   ·have c1 := carry hJ c0
    go_wp2_with fail
    exact ⟨rfl, _, rfl, rfl, hJ, Below.refl _ _⟩
   ·have e1 : a.tmps.getD 16 undef = .slice Ac cast.length cc := hd 1 (by kernel_rfl) _ rfl
    go_wp2_with fail
    refine (copyOf_any _ cast w5 (Ocr.below hJ) (by omega)).mono ?_
    rintro e w6 ⟨v5, rfl, own5, hb5⟩
    obtain ⟨A5, c5, rfl, _, _⟩ := (RdS.of_own own5).form
    go_wp2_with fail
    exact ⟨rfl, _, rfl, ⟨A5, c5, rfl, own_mono own5 hJ.size⟩, bl_trans hJ hb5, hb5⟩
  ·intro a gh w5 hag hJ hd
   obtain ⟨x0, x1, x2, x3, x4, x5, x6, x7, x8, x9, x10, x11, x12, x13, x14, x15, x16, x17, x18, x19, x20, x21, x22, x23, x24, x25, x26, x27, x28, x29, x30, x31, x32, x33, x34, x35, x36, x37, x38, x39, x40, x41, x42, x43, x44, x45, x46, x47, x48, x49, x50, x51, x52, x53, x54, x55, x56, x57, x58, x59, x60, x61, x62, x63, x64, x65, x66, x67, rfl⟩ := act68cr hag.size hag.defers
   have ag0 : x0 = .pointer (some ⟨gc, 0, none⟩) := hag.kept 0 (by kernel_rfl)
   have ag1 : x1 = .pointer (some ⟨gp, 0, none⟩) := hag.kept 1 (by kernel_rfl)
   have ag2 : x2 = .pointer (some ⟨gk, 0, none⟩) := hag.kept 2 (by kernel_rfl)
   have ag3 : x3 = .pointer (some ⟨gl, 0, none⟩) := hag.kept 3 (by kernel_rfl)
   have ag4 : x4 = .pointer (some ⟨gf, 0, none⟩) := hag.kept 4 (by kernel_rfl)
   have ag5 : x5 = .pointer (some ⟨gr, 0, none⟩) := hag.kept 5 (by kernel_rfl)
   have ag7 : x7 = undef := hag.kept 7 (by kernel_rfl)
   have ag8 : x8 = undef := hag.kept 8 (by kernel_rfl)
   have ag9 : x9 = undef := hag.kept 9 (by kernel_rfl)
   clear hag
   subst ag0 ag1 ag2 ag3 ag4 ag5 ag7 ag8 ag9
   have e1 : x15 = .func (.func 133) #[] #[.pointer (some ⟨go, 0, none⟩), .pointer (some ⟨gF, 0, none⟩)] := hd 0 (by kernel_rfl) _ rfl
   obtain ⟨A5, c5, e2, own5⟩ : ∃ A c, x17 = .slice A cast.length c ∧ w5.ownsRow w.heap.size 3 1 (.slice A cast.length c) cast.length (cast.flatMap cInt) := hd 2 (by kernel_rfl) _ rfl
   subst e1 e2
   change wpList _ _ _ [_, _] _ _
   have hC5 := hC.keep hJ
   clear hC hJ hd c0 p0 k0
   go_wp2_with fail
   refine (castF_any _ _ _ hC5).mono ?_
   rintro e w6 ⟨rfl, hC6⟩
   go_wp2_with fail
   go_ret
   exact ⟨rfl, hC6⟩
 | cons x ps ih =>
  intro cast fr ld w hps hhd hC
  have hcp : cast.length < ps0.length := by
   have h1 := congrArg List.length hps.out.1
   simp at h1
   omega
  have hdr := hps.out.1
  rw [List.drop_eq_getElem_cons hcp] at hdr
  injection hdr with hdr1 hdr2
  have hpx : ∀ h : cast.length < ps0.length, ps0[cast.length] = x := fun _ => hdr1
  have Hps2 := Lib.hid hdr2
  clear hdr1 hdr2
  have hHD := Lib.hid hhd
  obtain ⟨vc, Lc, Oc, _⟩ := hC.cst
  have hpw := hp.below hC.rest.below
  obtain ⟨Ac, cc, rfl, _, _⟩ := (RdS.of_own Oc).form
  obtain ⟨Ap, cp, rfl, _, _⟩ := hpw.form
  obtain ⟨Al, cl, rfl, _, _⟩ := hl.form
  have c0 := (Lc 0 _ rfl).1
  have p0 := (hC.rest.bp 0 _ rfl).1
  have l0 := (hC.rest.bl 0 _ rfl).1
  have hne : ((cast.length : Int) == (ps0.length : Int)) = false := by rw [beq_eq_false_iff_ne]; omega
  have Hpx := Lib.hid hpx
  have HI := Lib.hid ih
  clear ih Lc Oc hpw hps hpx
  go_enter Tryz.func177, Tryz.ntmps177
  go_wp2_with fail
  go_loopw [7, 8, 9, 21] (fun _ _ _ i wr => ∃ k : Nat, k ≤ pl.length ∧ i = .int .i64 k ∧ Hid (TriedF pl x ps ld k) ∧ CS w0 wr gc gp gk gl gf gr go gF (.slice Ap ps0.length cp) (.func (.func 133) #[] #[.pointer (some ⟨go, 0, none⟩), .pointer (some ⟨gF, 0, none⟩)]) (.slice Al pl.length cl) vf (.func (.func 177) #[] #[.pointer (some ⟨gc, 0, none⟩), .pointer (some ⟨gp, 0, none⟩), .pointer (some ⟨gk, 0, none⟩), .pointer (some ⟨gl, 0, none⟩), .pointer (some ⟨gf, 0, none⟩), .pointer (some ⟨gr, 0, none⟩)]) cast fr false) (fun _ _ _ i _ => pl.length - (intOf i).toNat)
  case atStart => exact ⟨0, Nat.zero_le _, rfl, TriedF.zero _ _ _ _, hC⟩
  case round =>
   obtain ⟨k, hk, rfl, htr, hCr⟩ := hrel
   clear hC c0 p0 l0
   by_cases hlt : k < pl.length
   ·have hlr := hl.below hCr.rest.below
    obtain ⟨g, off, u, rfl, hg, k0, k1, hru⟩ := hlr.cell hlt
    have hkf : k < fr.length := by have := hHD.out.l2; omega
    have HCN := Lib.hid (hHD.out.can hlt hkf x)
    have HKN := Lib.hid (knows_ix pl[k] x)
    obtain ⟨Au, cu, rfl, _, _⟩ := hru.form
    generalize hqk : pl[k] = q at *
    obtain ⟨r, f⟩ := q
    simp only at k0 k1 hru HKN
    go_upto_region 6 with (fail)
    have hal : Below wr.heap.size wr (wr.alloc (.cells #[.slice Au r.length cu, .int .i64 f] 39)) := (Below.refl _ _).alloc (Nat.le_refl _) _
    have Lq : Loc (wr.alloc (.cells #[.slice Au r.length cu, .int .i64 f] 39)) wr.heap.size [.slice Au r.length cu, .int .i64 f] := Loc.new wr #[.slice Au r.length cu, .int .i64 f] 39
    obtain ⟨gq, hgq⟩ : ∃ g, wr.heap.size = g := ⟨_, rfl⟩
    rw [hgq] at Lq
    have hC1 := hCr.keep hal
    have hru1 := hru.below hal
    clear k0 k1 hlr hCr hru
    generalize (wr.alloc (.cells #[.slice Au r.length cu, .int .i64 f] 39)) = W1 at *
    rw [hgq]
    clear hal hgq hg
    obtain ⟨vc1, Lc1, Oc1, _⟩ := hC1.cst
    obtain ⟨Ac1, cc1, rfl, _, _⟩ := (RdS.of_own Oc1).form
    obtain ⟨gv, cv, hvf, v0, vf0, HST⟩ := hC1.free_at hkf
    subst hvf
    have hpw := hp.below hC1.rest.below
    obtain ⟨gx, ox, rfl, hgx, hcx⟩ := hpw.cell (k := cast.length) cInt_len (by omega) hcp
    have x0 := hcx 0 _ rfl
    simp only [Nat.add_zero, Nat.mul_one] at x0
    rw [Hpx.out hcp] at x0
    clear hcx
    have b0 := (Lc1 0 _ rfl).1
    have b1 := (hC1.rest.bp 0 _ rfl).1
    have b2 := (hC1.rest.bl 0 _ rfl).1
    have b3 := (hC1.rest.bf 0 _ rfl).1
    have b5 := (Lq 0 _ rfl).1
    have b6 := (Lq 1 _ rfl).1
    have hix := idxF_le (l := r) (n := x)
    have HX : Hid (∀ n : Nat, Calls Tryz.prog 178 #[.slice Au r.length cu, .int .i64 x] (W1.drewN n) fun e w'' => e = .returned (.int .i64 (idxF r x)) ∧ ∃ m, w'' = W1.drewN m) := fun n => quietL1 (indexOf_any _ r x (W1.drewN n) hru1)
    obtain ⟨fk, hfk⟩ : ∃ fk, fr[k] = fk := ⟨_, rfl⟩
    have HAT := Lib.hid (fun h1 => hHD.out.at_ k hlt h1 hkf)
    rw [hfk] at v0 HCN HAT
    have HFK := Lib.hid hfk
    have hfb : 0 ≤ fk ∧ fk ≤ 2 := by have := HAT.out (by have := hHD.out.l1; omega); omega
    clear hfk Lq hru1 HST hqk
    generalize idxF r x = ix at *
    have hcl : ((cast.length : Nat) : Int) < ((ps0.length : Nat) : Int) := by omega
    by_cases hz : fk = 0
    ·have hzf : (fk == 0) = true := by rw [beq_iff_eq]; exact hz
     have HN := Lib.hid (htr.out.no (show canAt pl x ld k = false by rw [HCN.out, hz]; rfl))
     clear hz
     go_wp2_with fail
     go_quiet (fail)
     rename_i nq
     have hC2 := hC1.drewN nq
     clear b0 b1 b2 b3 b5 b6 v0 vf0 x0
     generalize W1.drewN nq = W2 at *
     go_wp2_with fail
     go_roundw
     case rel => exact ⟨k + 1, by omega, by go_num, HN.out, hC2⟩
     case measure => simp [intOf]; omega
    ·have hzf : (fk == 0) = false := by rw [beq_eq_false_iff_ne]; exact hz
     have Hz := Lib.hid hz
     clear hz
     by_cases hi : ix < 0
     ·have hi1 : decide (ix < 0) = true := decide_eq_true hi
      have HN := Lib.hid (htr.out.no (show canAt pl x ld k = false by rw [HCN.out, Bool.eq_false_iff.2 (fun e => absurd (HKN.out.1 e) (by omega)), Bool.and_false]))
      go_wp2_with fail
      go_quiet ((go_at_call 178; exact HX.out _))
      rename_i nq
      have hC2 := hC1.drewN nq
      clear b0 b1 b2 b3 b5 b6 v0 vf0 x0
      generalize W1.drewN nq = W2 at *
      go_wp2_with fail
      go_roundw
      case rel => exact ⟨k + 1, by omega, by go_num, HN.out, hC2⟩
      case measure => simp [intOf]; omega
     ·have hi1 : decide (ix < 0) = false := decide_eq_false hi
      have HCT := Lib.hid (show canAt pl x ld k = true by rw [HCN.out, HKN.out.2 (by omega), decide_eq_true Hz.out]; rfl)
      have HLS : Hid (Hands pl (bump ld k) (fr.set k (fk - 1))) := by have := hHD.out.less hkf (by rw [HFK.out]; exact Hz.out); rw [HFK.out] at this; exact this
      clear hix
      go_wp2_with fail
      go_quiet ((go_at_call 178; exact HX.out _))
      rename_i nq
      have hC2 := hC1.drewN nq
      clear b0 b1 b2 b3 b5 b6 v0 vf0 x0 HX Lc1 Oc1 hpw hC1
      generalize W1.drewN nq = W2 at *
      -- a hand is taken
      obtain ⟨gv', cv', e, v0, vf0, HST⟩ := hC2.free_at hkf
      injection e with e1 e2 e3
      injection e1 with e1
      injection e1 with e1
      subst e1 e3
      clear e2
      rw [HFK.out] at v0
      have b3 := (hC2.rest.bf 0 _ rfl).1
      have hw1 : IntKind.i64.wrap (fk - 1) = fk - 1 := IntWalk.i64_in _ (by omega)
      go_upto_region 8 with (fail)
      have hC3 := HST (fk - 1)
      clear HST v0 vf0 b3 hC2 hw1
      generalize W2.setCell ⟨gv, k, none⟩ (.int .i64 (fk - 1)) = W3 at *
      -- the cast grows
      obtain ⟨vc3, Lc3, Oc3, Ap3⟩ := hC3.cst
      obtain ⟨Ac3, cc3, rfl, _, _⟩ := (RdS.of_own Oc3).form
      have b0 := (Lc3 0 _ rfl).1
      have hal : Below W3.heap.size W3 (W3.alloc (.cells #[.int .i64 k] 3)) := (Below.refl _ _).alloc (Nat.le_refl _) _
      have hC4 := hC3.keep hal
      have hZ4 := hC4.rest.below.size
      have Lc4 := Lc3.below hal
      have Oc4 := own_below Oc3 hal
      go_wp2_with (at_builtin; refine wpList_appendB _ rfl (.tmp 48) (.tmp 50) _ rfl w0.heap.size 3 i0 _ 1 8 Tryz.underlying28 hi0 hz0 hz1 hz2 rfl (by omega) _ cast.length (cast.flatMap cInt) rfl Oc4 _ 1 [.int .i64 k] rfl (rdS_new W3 #[.int .i64 k] _ 1 1 rfl (by simp [maxLen])) (by simp [Value.oneCell']) (by simp [maxLen]; omega) (by omega) hZ4 ?_; intro v5 w5 own5 gr5 at5; obtain ⟨HG5, Lc5⟩ := hC4.rest.grown Lc4 Oc4 Ap3 gr5 at5; have b5 := (Lc5 0 _ rfl).1; have f5 := (Lc5 0 _ rfl).2; obtain ⟨A5, c5, rfl, _, _⟩ := (RdS.of_own own5).form; have hC5 := HG5 (cast ++ [(k : Int)]) (by rw [List.length_append, List.flatMap_append]; exact own5); have b4 := (hC5.rest.br 0 _ rfl).1)
      clear HG5 gr5 at5 Lc5 Oc4 Lc4 hC4 hC3 hal b0 Lc3 Oc3 Ap3 own5
      clear b5 f5
      generalize w5.setCell ⟨gc, 0, none⟩ (.slice A5 (cast.length + 1) c5) = W6 at *
      have hI := HI.out (cast ++ [(k : Int)]) (fr.set k (fk - 1)) (bump ld k) W6 (show Hid (_ ∧ _) from ⟨by rw [List.length_append]; exact Hps2.out, by simp; omega⟩) HLS.out hC5
      obtain ⟨cb, hcb⟩ : ∃ cb, canS pl ps (bump ld k) = cb := ⟨_, rfl⟩
      rw [hcb] at hI
      have HCB := Lib.hid hcb
      clear hcb hC5
      refine hI.mono ?_
      rintro e W7 ⟨rfl, hC7⟩
      clear hI b4
      -- the cast's last is taken away
      obtain ⟨g7, c7, L7, hle7, hC8⟩ := hC7.pop
      have b7 := (L7 0 _ rfl).1
      have f7 := (L7 0 _ rfl).2
      obtain ⟨n7, hn7⟩ : ∃ n, cast.length + 1 = n := ⟨_, rfl⟩
      rw [hn7] at b7 hle7
      have hw1 : IntKind.i64.wrap ((n7 : Int) - 1) = (n7 : Int) - 1 := IntWalk.i64_in _ (by omega)
      have hw2 : (0 : Int) ≤ (n7 : Int) - 1 := by omega
      have hw3 : ((n7 : Int) - 1).toNat = cast.length := by omega
      have hw4 : ¬ (n7 : Int) - 1 < 0 := by omega
      have hw5 : (n7 : Int) - 1 ≤ (c7 : Int) := by omega
      have hw6 : (1 : Int) ≤ (n7 : Int) := by omega
      go_upto_region 11 with (fail)
      clear hw1 hw2 hw3 hw4 hw5 hw6 b7 f7 L7 hC7
      generalize W7.setCell ⟨gc, 0, none⟩ (.slice (some ⟨g7, 0, none⟩) cast.length c7) = W8 at *
      clear hn7 hle7
      -- the hand is free again
      obtain ⟨gv2, cv2, e, v0, vf0, HST⟩ := hC8.free_at (k := k) (by simp; omega)
      injection e with e1 e2 e3
      injection e1 with e1
      injection e1 with e1
      subst e1 e3
      clear e2
      rw [List.getElem_set_self] at v0
      have b3 := (hC8.rest.bf 0 _ rfl).1
      have hC9 := HST fk
      have hsb := set_back hkf (fk - 1)
      rw [HFK.out] at hsb
      rw [hsb] at hC9
      obtain ⟨f1, hf1⟩ : ∃ f1, fk - 1 = f1 := ⟨_, rfl⟩
      have hw1 : IntKind.i64.wrap (f1 + 1) = fk := by rw [IntWalk.i64_in _ (by omega)]; omega
      rw [hf1] at v0
      clear HST hC8 hsb hf1
      go_upto_region 12 with (fail)
      clear v0 vf0 b3 hw1
      generalize W8.setCell ⟨gv, k, none⟩ (.int .i64 fk) = W9 at *
      cases cb
      ·have HN := Lib.hid (htr.out.sub HCB.out)
       go_wp2_with fail
       go_roundw
       case rel => exact ⟨k + 1, by omega, by go_num, HN.out, hC9⟩
       case measure => simp [intOf]; omega
      ·have HY := Lib.hid (canS_t hlt HCT.out HCB.out)
       go_wp2_with fail
       go_ret
       exact ⟨by rw [HY.out]; rfl, by rw [HY.out]; exact hC9⟩
   ·obtain rfl : k = pl.length := by omega
    have HE := Lib.hid htr.out.end_
    have l0 := (hCr.rest.bl 0 _ rfl).1
    go_wp2_with fail
    go_ret
    exact ⟨by rw [HE.out]; rfl, by rw [HE.out]; exact hCr⟩
open Go.RowKit
structure CP (w0 w : World) (gx : Nat) (bxs : List (Nat × Value)) (vc vf : Value) (fr : List Int) : Prop where
 base : ∀ b ∈ gx :: bxs.map (·.1), w0.heap.size ≤ b
 nd : (gx :: bxs.map (·.1)).Nodup
 below : Below w0.heap.size w0 w
 at_ : ∀ p ∈ bxs, Loc w p.1 [p.2]
 box : Loc w gx [vf]
 own : w.ownsRow w0.heap.size 3 1 vf fr.length (fr.flatMap cInt)
 ap : ∀ b ∈ vf.ownBlock.toList, b ∉ gx :: bxs.map (·.1)
 emp : w.ownsRow w0.heap.size 3 1 vc 0 []
 ap2 : ∀ b ∈ vc.ownBlock.toList, b ∉ gx :: bxs.map (·.1) ∧ b ∉ vf.ownBlock.toList
section
variable {w0 w w' : World} {gx : Nat} {bxs : List (Nat × Value)} {vc vf : Value} {fr : List Int}
theorem CP.keep (h : CP w0 w gx bxs vc vf fr) (hb : Below w.heap.size w w') : CP w0 w' gx bxs vc vf fr :=
 ⟨h.base, h.nd, h.below.trans (hb.mono h.below.size), fun p hp => (h.at_ p hp).below hb, h.box.below hb, own_below h.own hb, h.ap, own_below h.emp hb, h.ap2⟩
theorem CP.grow (h : CP w0 w gx bxs vc vf fr) (hg : w.grownBy w' vf.ownBlock) {v' : Value} (hat : v'.ownBlock = vf.ownBlock ∨ v'.ownBlock = some w.heap.size) :
  Loc w' gx [vf] ∧ ∀ f', w'.ownsRow w0.heap.size 3 1 v' f'.length (List.flatMap cInt f') → CP w0 (w'.setCell ⟨gx, 0, none⟩ v') gx bxs vc v' f' := by
 have hch := Chg.of_grown hg
 have hn : ∀ b ∈ gx :: bxs.map (·.1), b ∉ vf.ownBlock.toList := fun b hb hb' => h.ap b hb' hb
 have hlt : ∀ b ∈ gx :: bxs.map (·.1), b < w.heap.size := fun b hb => by
  rcases List.mem_cons.1 hb with rfl | hb
  ·exact loc_lt h.box
  ·obtain ⟨p, hp, rfl⟩ := List.mem_map.1 hb
   exact loc_lt (h.at_ p hp)
 have hap' : ∀ b ∈ v'.ownBlock.toList, b ∉ gx :: bxs.map (·.1) := fun b hb hb' => by
  rcases hat with e | e
  ·rw [e] at hb; exact h.ap b hb hb'
  ·rw [e] at hb
   have e2 : b = w.heap.size := by simpa using hb
   have := hlt b hb'
   omega
 have hL' := h.box.chg hch (hn _ (by simp))
 have hb : Below w0.heap.size w0 w' := Below.chg h.below hch h.below.size (fun b hb => (own_lt h.own b hb).1)
 refine ⟨hL', fun f' hf' => ?_⟩
 have hset : Chg [gx] w' (w'.setCell ⟨gx, 0, none⟩ v') := chg_set (Chg.refl _ _) (by simp)
 have h1 : ∀ p ∈ bxs, p.1 ∉ [gx] := fun p hp hb' => by
  have := h.nd
  rw [List.nodup_cons] at this
  have e := List.mem_singleton.1 hb'
  exact this.1 (e ▸ List.mem_map.2 ⟨p, hp, rfl⟩)
 refine ⟨h.base, h.nd, hb.setCell (h.base gx (by simp)) _, fun p hp => ((h.at_ p hp).chg hch (hn _ (List.mem_cons_of_mem _ (List.mem_map.2 ⟨p, hp, rfl⟩)))).chg hset (h1 p hp), hL'.set (i := 0) (v := vf) rfl, own_chg hf' hset (fun b hb hb' => hap' b hb (by rw [List.mem_singleton.1 hb']; simp)), hap',
  own_chg (own_chg h.emp hch (fun b hb => (h.ap2 b hb).2)) hset (fun b hb hb' => (h.ap2 b hb).1 (by rw [List.mem_singleton.1 hb']; simp)), fun b hb => ⟨(h.ap2 b hb).1, fun hb' => ?_⟩⟩
 rcases hat with e | e
 ·rw [e] at hb'; exact (h.ap2 b hb).2 hb'
 ·rw [e] at hb'
  have e2 : b = w.heap.size := by simpa using hb'
  have := (own_lt h.emp b hb).2
  omega
end
set_option maxHeartbeats 8000000 in
set_option maxRecDepth 100000 in
theorem castings_any (w0 w : World) (vp vl : Value) (ps0 : List Int) (pl : List RPl) (hp : RdL cInt 1 w0 vp ps0) (hl : RdPls w0 vl pl) (hp7 : ps0.length ≤ 7) (hl6 : pl.length ≤ 6) (hfr : ∀ r ∈ pl, 0 ≤ r.2 ∧ r.2 ≤ 2) (go gF : Nat) (hb : Below w0.heap.size w0 w) (hgo : w0.heap.size ≤ go) (hgF : w0.heap.size ≤ gF) (hne : go ≠ gF) (vo : Value) (Lo : Loc w go [vo]) (LF : Loc w gF [.bool false]) :
  Calls Tryz.prog 132 #[vl, vp, .func (.func 133) #[] #[.pointer (some ⟨go, 0, none⟩), .pointer (some ⟨gF, 0, none⟩)]] w fun e w' => e = .returned (.tuple #[]) ∧ (∃ vo, Loc w' go [vo]) ∧ Loc w' gF [.bool (canS pl ps0 (zeroL pl.length))] ∧ Below w0.heap.size w0 w' := by
 obtain ⟨i0, hi0, hz0, hz1, hz2⟩ := info_parts infoInt
 have hpw := hp.below hb
 have hlw := hl.below hb
 obtain ⟨Ap, cp, rfl, _, _⟩ := hpw.form
 obtain ⟨Al, cl, rfl, _, _⟩ := hlw.form
 have hgol := loc_lt Lo
 have hgFl := loc_lt LF
 have hz := hb.size
 have a0 : Below w.heap.size w (w.alloc (.cells #[.slice Al pl.length cl] 25)) := (Below.refl _ _).alloc (Nat.le_refl _) _
 have hbW : Below w.heap.size w (((((((w.alloc (.cells #[.slice Al pl.length cl] 25)).alloc (.cells #[.slice Ap ps0.length cp] 28)).alloc (.cells #[.func (.func 133) #[] #[.pointer (some ⟨go, 0, none⟩), .pointer (some ⟨gF, 0, none⟩)]] 145)).alloc (.cells #[] 3)).alloc (.cells #[] 3)).alloc (.cells #[.slice (some ⟨w.heap.size + 1 + 1 + 1, 0, none⟩) 0 0] 28)).alloc (.cells #[.slice (some ⟨w.heap.size + 1 + 1 + 1 + 1, 0, none⟩) 0 0] 28)) := by (repeat' (with_reducible first | exact Below.refl _ _ | assumption | refine qS ?_ _ | refine qA ?_ _ | refine qD ?_ | refine qN ?_ _))
 have L1 : Loc (((((((w.alloc (.cells #[.slice Al pl.length cl] 25)).alloc (.cells #[.slice Ap ps0.length cp] 28)).alloc (.cells #[.func (.func 133) #[] #[.pointer (some ⟨go, 0, none⟩), .pointer (some ⟨gF, 0, none⟩)]] 145)).alloc (.cells #[] 3)).alloc (.cells #[] 3)).alloc (.cells #[.slice (some ⟨w.heap.size + 1 + 1 + 1, 0, none⟩) 0 0] 28)).alloc (.cells #[.slice (some ⟨w.heap.size + 1 + 1 + 1 + 1, 0, none⟩) 0 0] 28)) w.heap.size [.slice Al pl.length cl] := (((((((Loc.new w #[.slice Al pl.length cl] 25).alloc _).alloc _).alloc _).alloc _).alloc _).alloc _)
 have L2 : Loc (((((((w.alloc (.cells #[.slice Al pl.length cl] 25)).alloc (.cells #[.slice Ap ps0.length cp] 28)).alloc (.cells #[.func (.func 133) #[] #[.pointer (some ⟨go, 0, none⟩), .pointer (some ⟨gF, 0, none⟩)]] 145)).alloc (.cells #[] 3)).alloc (.cells #[] 3)).alloc (.cells #[.slice (some ⟨w.heap.size + 1 + 1 + 1, 0, none⟩) 0 0] 28)).alloc (.cells #[.slice (some ⟨w.heap.size + 1 + 1 + 1 + 1, 0, none⟩) 0 0] 28)) (w.heap.size + 1) [.slice Ap ps0.length cp] := by have := ((((((Loc.new (w.alloc (.cells #[.slice Al pl.length cl] 25)) #[.slice Ap ps0.length cp] 28).alloc (.cells #[.func (.func 133) #[] #[.pointer (some ⟨go, 0, none⟩), .pointer (some ⟨gF, 0, none⟩)]] 145)).alloc (.cells #[] 3)).alloc (.cells #[] 3)).alloc (.cells #[.slice (some ⟨w.heap.size + 1 + 1 + 1, 0, none⟩) 0 0] 28)).alloc (.cells #[.slice (some ⟨w.heap.size + 1 + 1 + 1 + 1, 0, none⟩) 0 0] 28)); simpa using this
 have L3 : Loc (((((((w.alloc (.cells #[.slice Al pl.length cl] 25)).alloc (.cells #[.slice Ap ps0.length cp] 28)).alloc (.cells #[.func (.func 133) #[] #[.pointer (some ⟨go, 0, none⟩), .pointer (some ⟨gF, 0, none⟩)]] 145)).alloc (.cells #[] 3)).alloc (.cells #[] 3)).alloc (.cells #[.slice (some ⟨w.heap.size + 1 + 1 + 1, 0, none⟩) 0 0] 28)).alloc (.cells #[.slice (some ⟨w.heap.size + 1 + 1 + 1 + 1, 0, none⟩) 0 0] 28)) (w.heap.size + 1 + 1) [.func (.func 133) #[] #[.pointer (some ⟨go, 0, none⟩), .pointer (some ⟨gF, 0, none⟩)]] := by have := (((((Loc.new ((w.alloc (.cells #[.slice Al pl.length cl] 25)).alloc (.cells #[.slice Ap ps0.length cp] 28)) #[.func (.func 133) #[] #[.pointer (some ⟨go, 0, none⟩), .pointer (some ⟨gF, 0, none⟩)]] 145).alloc (.cells #[] 3)).alloc (.cells #[] 3)).alloc (.cells #[.slice (some ⟨w.heap.size + 1 + 1 + 1, 0, none⟩) 0 0] 28)).alloc (.cells #[.slice (some ⟨w.heap.size + 1 + 1 + 1 + 1, 0, none⟩) 0 0] 28)); simpa using this
 have L6 : Loc (((((((w.alloc (.cells #[.slice Al pl.length cl] 25)).alloc (.cells #[.slice Ap ps0.length cp] 28)).alloc (.cells #[.func (.func 133) #[] #[.pointer (some ⟨go, 0, none⟩), .pointer (some ⟨gF, 0, none⟩)]] 145)).alloc (.cells #[] 3)).alloc (.cells #[] 3)).alloc (.cells #[.slice (some ⟨w.heap.size + 1 + 1 + 1, 0, none⟩) 0 0] 28)).alloc (.cells #[.slice (some ⟨w.heap.size + 1 + 1 + 1 + 1, 0, none⟩) 0 0] 28)) (w.heap.size + 1 + 1 + 1 + 1 + 1) [.slice (some ⟨w.heap.size + 1 + 1 + 1, 0, none⟩) 0 0] := by have := ((Loc.new (((((w.alloc (.cells #[.slice Al pl.length cl] 25)).alloc (.cells #[.slice Ap ps0.length cp] 28)).alloc (.cells #[.func (.func 133) #[] #[.pointer (some ⟨go, 0, none⟩), .pointer (some ⟨gF, 0, none⟩)]] 145)).alloc (.cells #[] 3)).alloc (.cells #[] 3)) #[.slice (some ⟨w.heap.size + 1 + 1 + 1, 0, none⟩) 0 0] 28).alloc (.cells #[.slice (some ⟨w.heap.size + 1 + 1 + 1 + 1, 0, none⟩) 0 0] 28)); simpa using this
 have L7 : Loc (((((((w.alloc (.cells #[.slice Al pl.length cl] 25)).alloc (.cells #[.slice Ap ps0.length cp] 28)).alloc (.cells #[.func (.func 133) #[] #[.pointer (some ⟨go, 0, none⟩), .pointer (some ⟨gF, 0, none⟩)]] 145)).alloc (.cells #[] 3)).alloc (.cells #[] 3)).alloc (.cells #[.slice (some ⟨w.heap.size + 1 + 1 + 1, 0, none⟩) 0 0] 28)).alloc (.cells #[.slice (some ⟨w.heap.size + 1 + 1 + 1 + 1, 0, none⟩) 0 0] 28)) (w.heap.size + 1 + 1 + 1 + 1 + 1 + 1) [.slice (some ⟨w.heap.size + 1 + 1 + 1 + 1, 0, none⟩) 0 0] := by have := (Loc.new ((((((w.alloc (.cells #[.slice Al pl.length cl] 25)).alloc (.cells #[.slice Ap ps0.length cp] 28)).alloc (.cells #[.func (.func 133) #[] #[.pointer (some ⟨go, 0, none⟩), .pointer (some ⟨gF, 0, none⟩)]] 145)).alloc (.cells #[] 3)).alloc (.cells #[] 3)).alloc (.cells #[.slice (some ⟨w.heap.size + 1 + 1 + 1, 0, none⟩) 0 0] 28)) #[.slice (some ⟨w.heap.size + 1 + 1 + 1 + 1, 0, none⟩) 0 0] 28); simpa using this
 have O1 : (((((((w.alloc (.cells #[.slice Al pl.length cl] 25)).alloc (.cells #[.slice Ap ps0.length cp] 28)).alloc (.cells #[.func (.func 133) #[] #[.pointer (some ⟨go, 0, none⟩), .pointer (some ⟨gF, 0, none⟩)]] 145)).alloc (.cells #[] 3)).alloc (.cells #[] 3)).alloc (.cells #[.slice (some ⟨w.heap.size + 1 + 1 + 1, 0, none⟩) 0 0] 28)).alloc (.cells #[.slice (some ⟨w.heap.size + 1 + 1 + 1 + 1, 0, none⟩) 0 0] 28)).ownsRow w0.heap.size 3 1 (.slice (some ⟨w.heap.size + 1 + 1 + 1, 0, none⟩) 0 0) 0 [] := by
  have := (((World.ownsRow_made (size := 1) (e := 3) (((w.alloc (.cells #[.slice Al pl.length cl] 25)).alloc (.cells #[.slice Ap ps0.length cp] 28)).alloc (.cells #[.func (.func 133) #[] #[.pointer (some ⟨go, 0, none⟩), .pointer (some ⟨gF, 0, none⟩)]] 145)) #[] 0 (Nat.le_refl _) (by simp [maxLen]) rfl).alloc (.cells #[] 3)).alloc (.cells #[.slice (some ⟨w.heap.size + 1 + 1 + 1, 0, none⟩) 0 0] 28)).alloc (.cells #[.slice (some ⟨w.heap.size + 1 + 1 + 1 + 1, 0, none⟩) 0 0] 28)
  exact own_mono (by simpa using this) (by omega)
 have O2 : (((((((w.alloc (.cells #[.slice Al pl.length cl] 25)).alloc (.cells #[.slice Ap ps0.length cp] 28)).alloc (.cells #[.func (.func 133) #[] #[.pointer (some ⟨go, 0, none⟩), .pointer (some ⟨gF, 0, none⟩)]] 145)).alloc (.cells #[] 3)).alloc (.cells #[] 3)).alloc (.cells #[.slice (some ⟨w.heap.size + 1 + 1 + 1, 0, none⟩) 0 0] 28)).alloc (.cells #[.slice (some ⟨w.heap.size + 1 + 1 + 1 + 1, 0, none⟩) 0 0] 28)).ownsRow w0.heap.size 3 1 (.slice (some ⟨w.heap.size + 1 + 1 + 1 + 1, 0, none⟩) 0 0) 0 [] := by
  have := ((World.ownsRow_made (size := 1) (e := 3) ((((w.alloc (.cells #[.slice Al pl.length cl] 25)).alloc (.cells #[.slice Ap ps0.length cp] 28)).alloc (.cells #[.func (.func 133) #[] #[.pointer (some ⟨go, 0, none⟩), .pointer (some ⟨gF, 0, none⟩)]] 145)).alloc (.cells #[] 3)) #[] 0 (Nat.le_refl _) (by simp [maxLen]) rfl).alloc (.cells #[.slice (some ⟨w.heap.size + 1 + 1 + 1, 0, none⟩) 0 0] 28)).alloc (.cells #[.slice (some ⟨w.heap.size + 1 + 1 + 1 + 1, 0, none⟩) 0 0] 28)
  exact own_mono (by simpa using this) (by omega)
 have hC : CP w0 (((((((w.alloc (.cells #[.slice Al pl.length cl] 25)).alloc (.cells #[.slice Ap ps0.length cp] 28)).alloc (.cells #[.func (.func 133) #[] #[.pointer (some ⟨go, 0, none⟩), .pointer (some ⟨gF, 0, none⟩)]] 145)).alloc (.cells #[] 3)).alloc (.cells #[] 3)).alloc (.cells #[.slice (some ⟨w.heap.size + 1 + 1 + 1, 0, none⟩) 0 0] 28)).alloc (.cells #[.slice (some ⟨w.heap.size + 1 + 1 + 1 + 1, 0, none⟩) 0 0] 28)) (w.heap.size + 1 + 1 + 1 + 1 + 1) [(w.heap.size, .slice Al pl.length cl), (w.heap.size + 1, .slice Ap ps0.length cp), (w.heap.size + 1 + 1, .func (.func 133) #[] #[.pointer (some ⟨go, 0, none⟩), .pointer (some ⟨gF, 0, none⟩)]), (w.heap.size + 1 + 1 + 1 + 1 + 1 + 1, .slice (some ⟨w.heap.size + 1 + 1 + 1 + 1, 0, none⟩) 0 0), (go, vo), (gF, .bool false)] (.slice (some ⟨w.heap.size + 1 + 1 + 1 + 1, 0, none⟩) 0 0) (.slice (some ⟨w.heap.size + 1 + 1 + 1, 0, none⟩) 0 0) [] := by
  refine ⟨fun b hb => ?_, by simp; omega, hb.trans (hbW.mono hz), fun p hp => ?_, L6, O1, fun b hb => ?_, O2, fun b hb => ?_⟩
  ·simp at hb; omega
  ·simp only [List.mem_cons, List.not_mem_nil, or_false] at hp
   rcases hp with rfl | rfl | rfl | rfl | rfl | rfl
   ·exact L1
   ·exact L2
   ·exact L3
   ·exact L7
   ·exact Lo.below hbW
   ·exact LF.below hbW
  ·simp [Value.ownBlock] at hb; subst hb; simp; omega
  ·simp [Value.ownBlock] at hb; subst hb; simp [Value.ownBlock]; omega
 clear L1 L2 L3 L6 L7 O1 O2 hbW a0
 go_enter Tryz.func132, Tryz.ntmps132
 go_upto_region 2 with (fail)
 generalize ((((((w.alloc (.cells #[.slice Al pl.length cl] 25)).alloc (.cells #[.slice Ap ps0.length cp] 28)).alloc (.cells #[.func (.func 133) #[] #[.pointer (some ⟨go, 0, none⟩), .pointer (some ⟨gF, 0, none⟩)]] 145)).alloc (.cells #[] 3)).alloc (.cells #[] 3)).alloc (.cells #[.slice (some ⟨w.heap.size + 1 + 1 + 1, 0, none⟩) 0 0] 28)).alloc (.cells #[.slice (some ⟨w.heap.size + 1 + 1 + 1 + 1, 0, none⟩) 0 0] 28) = W at *
 generalize w.heap.size + 1 + 1 + 1 + 1 + 1 + 1 = gc at *
 generalize w.heap.size + 1 + 1 + 1 + 1 + 1 = gf at *
 generalize w.heap.size + 1 + 1 + 1 + 1 = x2 at *
 generalize w.heap.size + 1 + 1 + 1 = x1 at *
 generalize w.heap.size + 1 + 1 = gk at *
 generalize w.heap.size + 1 = gp at *
 generalize w.heap.size = gl at *
 have l0 := (hC.at_ (gl, .slice Al pl.length cl) (by simp) 0 _ rfl).1
 go_wp2_with fail
 go_loopw [9, 15] (fun _ i wr => ∃ (k : Nat) (vf : Value), k ≤ pl.length ∧ i = .int .i64 k ∧ CP w0 wr gf [(gl, .slice Al pl.length cl), (gp, .slice Ap ps0.length cp), (gk, .func (.func 133) #[] #[.pointer (some ⟨go, 0, none⟩), .pointer (some ⟨gF, 0, none⟩)]), (gc, .slice (some ⟨x2, 0, none⟩) 0 0), (go, vo), (gF, .bool false)] (.slice (some ⟨x2, 0, none⟩) 0 0) vf ((pl.map (·.2)).take k)) (fun _ i _ => pl.length - (intOf i).toNat)
 case atStart => exact ⟨0, _, Nat.zero_le _, rfl, hC⟩
 case round =>
  obtain ⟨k, vf, hk, rfl, hCr⟩ := hrel
  clear hC l0
  by_cases hlt : k < pl.length
  ·have hlr := hl.below hCr.below
   obtain ⟨g, off, u, rfl, hg, k0, k1, hru⟩ := hlr.cell hlt
   obtain ⟨Au, cu, rfl, _, _⟩ := hru.form
   have Hsn : Hid ((pl.map (·.2)).take (k + 1) = (pl.map (·.2)).take k ++ [pl[k].2]) := by
    show _ = _
    rw [List.take_add_one, List.getElem?_map, List.getElem?_eq_getElem hlt]; rfl
   have hfl : ((pl.map (·.2)).take k).length ≤ 6 := by simp; omega
   generalize (pl.map (·.2)).take k = fr at *
   generalize pl[k] = q at *
   obtain ⟨r, f⟩ := q
   simp only at k0 k1 hru Hsn
   obtain ⟨Af, cf, rfl, _, _⟩ := (RdS.of_own hCr.own).form
   have hal : Below wr.heap.size wr (wr.alloc (.cells #[.slice Au r.length cu, .int .i64 f] 39)) := (Below.refl _ _).alloc (Nat.le_refl _) _
   have Lq : Loc (wr.alloc (.cells #[.slice Au r.length cu, .int .i64 f] 39)) wr.heap.size [.slice Au r.length cu, .int .i64 f] := Loc.new wr #[.slice Au r.length cu, .int .i64 f] 39
   have hC1 := hCr.keep hal
   go_upto_region 5 with (fail)
   obtain ⟨gq, hgq⟩ : ∃ g, wr.heap.size = g := ⟨_, rfl⟩
   rw [hgq] at Lq
   clear k0 k1 hlr hru hCr
   generalize (wr.alloc (.cells #[.slice Au r.length cu, .int .i64 f] 39)) = W1 at *
   rw [hgq]
   clear hal hgq hg
   have b0 := (hC1.box 0 _ rfl).1
   have q1 := (Lq 1 _ rfl).1
   have hal : Below W1.heap.size W1 (W1.alloc (.cells #[.int .i64 f] 3)) := (Below.refl _ _).alloc (Nat.le_refl _) _
   have hC2 := hC1.keep hal
   have hZ2 := hC2.below.size
   go_wp2_with (at_builtin; refine wpList_appendB _ rfl (.tmp 19) (.tmp 22) _ rfl w0.heap.size 3 i0 _ 1 8 Tryz.underlying28 hi0 hz0 hz1 hz2 rfl (by omega) _ fr.length (fr.flatMap cInt) rfl hC2.own _ 1 [.int .i64 f] rfl (rdS_new W1 #[.int .i64 f] _ 1 1 rfl (by simp [maxLen])) (by simp [Value.oneCell']) (by simp [maxLen]; omega) (by omega) hZ2 ?_; intro v5 w5 own5 gr5 at5; obtain ⟨Lc5, HG5⟩ := hC2.grow gr5 at5; have b5 := (Lc5 0 _ rfl).1; have f5 := (Lc5 0 _ rfl).2; obtain ⟨A5, c5, rfl, _, _⟩ := (RdS.of_own own5).form; have HC5 := Lib.hid (HG5 (fr ++ [f]) (by rw [List.length_append, List.flatMap_append]; exact own5)))
   go_roundw
   case rel => exact ⟨k + 1, _, by omega, by go_num, by rw [Hsn.out]; exact HC5.out⟩
   case measure => simp [intOf]; omega
  ·obtain rfl : k = pl.length := by omega
   rw [List.take_of_length_le (by simp)] at hCr
   go_upto_region 8 with (fail)
   have hal : Below wr.heap.size wr (wr.alloc (.cells #[.nilFunc] 181)) := (Below.refl _ _).alloc (Nat.le_refl _) _
   have Lr : Loc (wr.alloc (.cells #[.nilFunc] 181)) wr.heap.size [.nilFunc] := Loc.new wr #[.nilFunc] 181
   have hC1 := hCr.keep hal
   have hzr := hCr.below.size
   have hlt1 : ∀ b ∈ gf :: [gl, gp, gk, gc, go, gF], b < wr.heap.size := fun b hb => by
    rcases List.mem_cons.1 hb with rfl | hb
    ·exact loc_lt hCr.box
    ·obtain ⟨p, hp, e⟩ := List.mem_map.1 (show b ∈ [(gl, .slice Al pl.length cl), (gp, .slice Ap ps0.length cp), (gk, .func (.func 133) #[] #[.pointer (some ⟨go, 0, none⟩), .pointer (some ⟨gF, 0, none⟩)]), (gc, .slice (some ⟨x2, 0, none⟩) 0 0), (go, vo), (gF, .bool false)].map (·.1) from hb)
     rw [← e]; exact loc_lt (hCr.at_ p hp)
   have hvl1 : ∀ b ∈ vf.ownBlock.toList, b < wr.heap.size := fun b hb => (own_lt hCr.own b hb).2
   have hx2 : x2 < wr.heap.size := (own_lt hCr.emp x2 (by simp [Value.ownBlock])).2
   obtain ⟨gr, hgr⟩ : ∃ g, wr.heap.size = g := ⟨_, rfl⟩
   rw [hgr] at Lr hlt1 hvl1 hx2 hzr
   clear hCr
   generalize (wr.alloc (.cells #[.nilFunc] 181)) = W1 at *
   rw [hgr]
   clear hal hgr
   have r0 := (Lr 0 _ rfl).1
   have r1 := (Lr 0 _ rfl).2
   have hsf := fun (a : Addr) (f : Fn) (x y : Array Value) (m : Mode) (w : World) => run_store Tryz.prog w a (.func f x y) m rfl
   have hchR : Chg [gr] W1 (W1.setCell ⟨gr, 0, none⟩ (.func (.func 177) #[] #[.pointer (some ⟨gc, 0, none⟩), .pointer (some ⟨gp, 0, none⟩), .pointer (some ⟨gk, 0, none⟩), .pointer (some ⟨gl, 0, none⟩), .pointer (some ⟨gf, 0, none⟩), .pointer (some ⟨gr, 0, none⟩)])) := chg_set (Chg.refl _ _) (by simp)
   have hno : ∀ b ∈ gf :: [gl, gp, gk, gc, go, gF], b ∉ [gr] := fun b hb hb' => by have := hlt1 b hb; rw [List.mem_singleton.1 hb'] at this; omega
   have hCS : CS w0 (W1.setCell ⟨gr, 0, none⟩ (.func (.func 177) #[] #[.pointer (some ⟨gc, 0, none⟩), .pointer (some ⟨gp, 0, none⟩), .pointer (some ⟨gk, 0, none⟩), .pointer (some ⟨gl, 0, none⟩), .pointer (some ⟨gf, 0, none⟩), .pointer (some ⟨gr, 0, none⟩)])) gc gp gk gl gf gr go gF (.slice Ap ps0.length cp) (.func (.func 133) #[] #[.pointer (some ⟨go, 0, none⟩), .pointer (some ⟨gF, 0, none⟩)]) (.slice Al pl.length cl) vf (.func (.func 177) #[] #[.pointer (some ⟨gc, 0, none⟩), .pointer (some ⟨gp, 0, none⟩), .pointer (some ⟨gk, 0, none⟩), .pointer (some ⟨gl, 0, none⟩), .pointer (some ⟨gf, 0, none⟩), .pointer (some ⟨gr, 0, none⟩)]) [] (pl.map (·.2)) false := by
    have hnd := hC1.nd
    have hlg : gl < gr ∧ gp < gr ∧ gk < gr ∧ gc < gr ∧ go < gr ∧ gF < gr ∧ gf < gr := ⟨hlt1 _ (by simp), hlt1 _ (by simp), hlt1 _ (by simp), hlt1 _ (by simp), hlt1 _ (by simp), hlt1 _ (by simp), hlt1 _ (by simp)⟩
    simp only [List.map_cons, List.map_nil, List.nodup_cons, List.mem_cons, List.not_mem_nil, or_false, not_or] at hnd
    refine ⟨⟨fun b hb => ?_, ?_, hC1.below.setCell hzr _, ((hC1.at_ (gp, _) (by simp)).chg hchR (hno _ (by simp))), ((hC1.at_ (gk, _) (by simp)).chg hchR (hno _ (by simp))), ((hC1.at_ (gl, _) (by simp)).chg hchR (hno _ (by simp))), hC1.box.chg hchR (hno _ (by simp)), Lr.set (i := 0) (v := .nilFunc) rfl, ⟨vo, (hC1.at_ (go, vo) (by simp)).chg hchR (hno _ (by simp))⟩, (hC1.at_ (gF, .bool false) (by simp)).chg hchR (hno _ (by simp)), own_chg hC1.own hchR (fun b hb hb' => by have := hvl1 b hb; rw [List.mem_singleton.1 hb'] at this; omega), fun b hb => ?_⟩, .slice (some ⟨x2, 0, none⟩) 0 0, (hC1.at_ (gc, .slice (some ⟨x2, 0, none⟩) 0 0) (by simp)).chg hchR (hno _ (by simp)), own_chg hC1.emp hchR (fun b hb hb' => by simp [Value.ownBlock] at hb; have := List.mem_singleton.1 hb'; omega), fun b hb => ?_⟩
    ·by_cases hbr : b = gr
     ·rw [hbr]; exact hzr
     ·exact hC1.base b (by simp at hb ⊢; omega)
    ·simp only [BX, List.nodup_cons, List.mem_cons, List.not_mem_nil, or_false, not_or, List.nodup_nil, and_true, not_false_eq_true]
     omega
    ·have h1 := hC1.ap b hb
     have h2 := hvl1 b hb
     simp at h1 ⊢
     omega
    ·have h1 := (hC1.ap2 b hb).1
     have h2 := (hC1.ap2 b hb).2
     have h3 : b < gr := by simp [Value.ownBlock] at hb; omega
     rw [List.mem_append]
     rintro (h4 | h4)
     ·simp at h1 h4; omega
     ·exact h2 h4
   have b3 := (hCS.rest.br 0 _ rfl).1
   clear hC1 Lr hlt1 hvl1 hno
   go_upto_region 9 with (fail)
   clear hsf r0 r1
   generalize W1.setCell ⟨gr, 0, none⟩ (.func (.func 177) #[] #[.pointer (some ⟨gc, 0, none⟩), .pointer (some ⟨gp, 0, none⟩), .pointer (some ⟨gk, 0, none⟩), .pointer (some ⟨gl, 0, none⟩), .pointer (some ⟨gf, 0, none⟩), .pointer (some ⟨gr, 0, none⟩)]) = W2 at *
   have hHR := castR_any w0 _ _ _ ps0 pl hp hl hp7 hl6 gc gp gk gl gf gr go gF ps0 [] (pl.map (·.2)) (zeroL pl.length) W2 (show Hid (_ ∧ _) from ⟨rfl, Nat.zero_le _⟩) (Hands.start hfr) hCS
   clear hCS
   obtain ⟨cb, hcb⟩ : ∃ cb, canS pl ps0 (zeroL pl.length) = cb := ⟨_, rfl⟩
   rw [hcb] at hHR
   have HCB := Lib.hid hcb
   clear hcb
   go_wp2_with fail
   refine hHR.mono ?_
   rintro e W3 ⟨rfl, hC3⟩
   go_wp2_with fail
   first | go_end0 | go_ret
   exact ⟨rfl, hC3.rest.bo, by rw [HCB.out]; exact hC3.rest.bF, hC3.rest.below⟩
theorem arePuppets_any (v : Value) (l : List Int) (w : World) (h : RdL cInt 1 w v l) :
  Calls Tryz.prog 131 #[v] w fun e w' => e = .returned (.bool (strictB l 0 6)) ∧ Below w.heap.size w w' := by
 obtain ⟨A, c, rfl, h1, h2⟩ := h.form
 have hC := isStrict_any (.slice A l.length c) l 0 6 w h
 generalize strictB l 0 6 = b at *
 go_enter Tryz.func131, Tryz.ntmps131
 go_wp2_with fail
 refine hC.mono ?_
 rintro e w1 ⟨rfl, hb⟩
 go_wp2_with fail
 go_ret
 exact ⟨rfl, hb⟩
set_option maxHeartbeats 4000000 in
set_option maxRecDepth 100000 in
theorem implFirstCasting_any (v1 v2 : Value) (ps : List Int) (pl : List RPl) (w : World) (hl : RdPls w v1 pl) (hp : RdL cInt 1 w v2 ps) :
  Calls Tryz.prog 84 #[v1, v2] w (RetCast (canF pl ps) w) := by
 have hl0 := hl
 have hp0 := hp
 obtain ⟨Al, cl, rfl, _, _⟩ := hl.form
 obtain ⟨Ap, cp, rfl, _, _⟩ := hp.form
 go_enter Tryz.func84, Tryz.ntmps84
 go_wp2_with fail
 refine twoB (implPlayersOk_any _ pl _ hl) (fun w1 hq hb1 => ?_) (fun w1 hq hb1 => ?_)
 ·have hp1 := hp.below hb1
  have hl1 := hl.below hb1
  obtain ⟨h6, h1, _⟩ := playersB_sz hq.out
  have Hfr := Lib.hid (playersB_fr hq.out)
  go_wp2_with fail
  refine twoB (arePuppets_any _ ps _ hp1) (fun w2 hs hb2 => ?_) (fun w2 hs hb2 => ?_)
  ·have h7 := strict_len (m := 6) hs.out
   have HF := Lib.hid (canF_t hq.out hs.out)
   have hb02 := bl_trans hb1 hb2
   have ha : Below w2.heap.size w2 ((w2.alloc (.cells #[.slice none 0 0] 28)).alloc (.cells #[.bool false] 4)) := by (repeat' (with_reducible first | exact Below.refl _ _ | assumption | refine qS ?_ _ | refine qA ?_ _ | refine qD ?_ | refine qN ?_ _))
   have La : Loc ((w2.alloc (.cells #[.slice none 0 0] 28)).alloc (.cells #[.bool false] 4)) w2.heap.size [.slice none 0 0] := (Loc.new w2 #[.slice none 0 0] 28).alloc _
   have Lb : Loc ((w2.alloc (.cells #[.slice none 0 0] 28)).alloc (.cells #[.bool false] 4)) (w2.heap.size + 1) [.bool false] := by have := Loc.new (w2.alloc (.cells #[.slice none 0 0] 28)) #[.bool false] 4; simpa using this
   have hb03 := bl_trans hb02 ha
   have hz := hb02.size
   have hC := castings_any w ((w2.alloc (.cells #[.slice none 0 0] 28)).alloc (.cells #[.bool false] 4)) _ _ ps pl hp0 hl0 (by omega) h6 Hfr.out w2.heap.size (w2.heap.size + 1) hb03 hz (by omega) (by omega) _ La Lb
   clear ha La Lb hb1 hb2 hp1 hl1 hp hl
   obtain ⟨cb, hcb⟩ : ∃ cb, canS pl ps (zeroL pl.length) = cb := ⟨_, rfl⟩
   rw [hcb] at hC HF
   clear hcb
   go_wp2_with fail
   refine hC.mono ?_
   rintro e w3 ⟨rfl, ⟨vo, Lo⟩, LF, hb⟩
   have b0 := (Lo 0 _ rfl).1
   have b1 := (LF 0 _ rfl).1
   clear hC
   go_wp2_with fail
   go_quiet (fail)
   rename_i nq
   go_wp2_with fail
   go_ret2
   rw [HF.out]
   exact ⟨_, rfl, below_drewN hb _⟩
  ·have HF := Lib.hid (canF_f2 (pl := pl) hs.out)
   have hb02 := bl_trans hb1 hb2
   go_wp2_with fail
   go_ret2
   rw [HF.out]
   exact ⟨_, rfl, hb02⟩
 ·have HF := Lib.hid (canF_f1 (ps := ps) hq.out)
  go_wp2_with fail
  go_ret2
  rw [HF.out]
  exact ⟨_, rfl, hb1⟩
set_option maxHeartbeats 4000000 in
theorem canPlay_any (v1 v2 : Value) (ps : List Int) (pl : List RPl) (w : World) (hl : RdPls w v1 pl) (hp : RdL cInt 1 w v2 ps) :
  Calls Tryz.prog 44 #[v1, v2] w fun e w' => e = .returned (.bool (canF pl ps)) ∧ Below w.heap.size w w' := by
 have hC := implFirstCasting_any v1 v2 ps pl w hl hp
 obtain ⟨Al, cl, rfl, _, _⟩ := hl.form
 obtain ⟨Ap, cp, rfl, _, _⟩ := hp.form
 generalize canF pl ps = cb at *
 go_enter Tryz.func44, Tryz.ntmps44
 go_wp2_with fail
 refine hC.mono ?_
 rintro e w1 ⟨vo, rfl, hb⟩
 go_wp2_with fail
 go_ret
 exact ⟨rfl, hb⟩
open Go.RowKit
open Go.RowKit
end Go.Proofs.YtdhmhgjjppeodaaGreatDoor
