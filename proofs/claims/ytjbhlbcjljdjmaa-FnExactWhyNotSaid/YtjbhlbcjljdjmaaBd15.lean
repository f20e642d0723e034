/- Several texts in one: Contracts: companies that grow: with, CrossOver, TakeBack. Written by a program (gen_k7.py). Contracts: theatres that become others: becomes, HirePlayer, MovePuppet. Written by a program (gen_k10.py). Plain laws: a number put into a list, as the reference puts it; days added; puppets taught. No program in sight. Contract: whether a player knows a puppet (of the reference). Castings in plain words: players who know a puppet and have a free hand; why a company does not play. No program in sight. Contracts: the exchanges that sort, the way home, of the reference. The state of the search for castings: boxes, the cast so far, the hands that are free. Plain words beside. Castings of the program: the closure that is called with a casting, the search, FirstCasting. Written by a program (gen_l1.py). Castings of the program: castings, FirstCasting, canPlay. Written by a program (gen_l1.py). Castings of the reference: the search, FirstCasting, l17Can. Written by a program (gen_l1.py). Castings of the reference: FirstCasting, l17Can. Written by a program (gen_l1.py). -/
import Derived.Deep.DeepCutAuto
import Derived.Deep.QuietTactic
import Derived.BigQuiet
import Derived.IntWalk
import Derived.Test.YtjbhlbcjljdjmaaBd13
import Derived.Test.YtjbhlbcjljdjmaaBd10
import Derived.Test.YtjbhlbcjljdjmaaBd2
import Derived.Test.YtjbhlbcjljdjmaaBd7
import Derived.Test.YtjbhlbcjljdjmaaY2
import Derived.Test.YtjbhlbcjljdjmaaBd4
import Derived.Test.YtjbhlbcjljdjmaaKC
import Derived.Test.YtjbhlbcjljdjmaaBd5
namespace Go.Proofs.Ytjbhlbcjljdjmaa
open Go.RowKit
def RetCompany (n : Int) (ok : Bool) (d1 : List RCross) (d2 : List RPl) (w : World) (e : Ending) (w' : World) : Prop :=
  ∃ x1 x2 S, e = .returned (.tuple #[.agg #[.int .i64 n, x1, x2], .bool ok]) ∧ OwCompany w' S x1 x2 d1 d2 ∧ Fresh w.heap.size w' S ∧ Below w.heap.size w w'
def withB (n : Int) (cs : List RCross) (pl : List RPl) (l : List RCross) : Bool := companyB n cs pl && companyB n (cs ++ l) pl
def withC (n : Int) (cs : List RCross) (pl : List RPl) (l : List RCross) : List RCross := if withB n cs pl l = true then cs ++ l else cs
theorem with_sz (n : Int) (cs : List RCross) (pl : List RPl) (l : List RCross) : szCompany (withC n cs pl l) pl ≤ szCompany cs pl ∨ szCompany (withC n cs pl l) pl ≤ 1000 := by
  unfold withC
  split
  · rename_i h
    rw [withB, Bool.and_eq_true] at h
    have := companyB_sz h.2
    omega
  · exact .inl (Nat.le_refl _)
theorem with_f {n : Int} {cs l : List RCross} {pl : List RPl} {w w' : World} {e : Ending} (h : withB n cs pl l = false) (hr : RetCompany n false cs pl w e w') : RetCompany n (withB n cs pl l) (withC n cs pl l) pl w e w' := by rw [withC, h]; exact hr
theorem with_t {n : Int} {cs l : List RCross} {pl : List RPl} {w w' : World} {e : Ending} (h : withB n cs pl l = true) (hr : RetCompany n true (cs ++ l) pl w e w') : RetCompany n (withB n cs pl l) (withC n cs pl l) pl w e w' := by rw [withC, h]; exact hr
set_option maxHeartbeats 8000000 in
set_option maxRecDepth 100000 in
theorem implWith_any (n : Int) (v1 v2 vl : Value) (cs : List RCross) (pl : List RPl) (l : List RCross) (w : World) (h : RdCompany w v1 v2 cs pl) (hv : RdL cCross 2 w vl l) (hll : l.length ≤ 100000) (hsz : szCompany cs pl ≤ 1048576) :
    Calls Try.prog 74 #[.agg #[.int .i64 n, v1, v2], vl] w (RetCompany n (withB n cs pl l) (withC n cs pl l) pl w) := by
  obtain ⟨⟨A1, n1, rfl⟩, ⟨A2, n2, rfl⟩⟩ := h.forms
  go_enter Try.func74, Try.ntmps74
  go_wp2_with fail
  refine (companyCopied_any n _ _ cs pl _ (h.below (by (repeat' (first | (with_reducible exact Below.refl _ _) | (with_reducible assumption) | (with_reducible refine Below.setCell ?_ (by first | omega | (simp; omega) | (simp; done)) _) | (with_reducible refine Below.alloc ?_ (by first | omega | (simp; omega) | (simp; done)) _) | (with_reducible refine Below.drew ?_) | (with_reducible refine below_drewN ?_ _))))) hsz).mono ?_
  rintro e w1 ⟨x1, x2, S, rfl, ow, f1, q1⟩
  obtain ⟨⟨B1, k1, rfl⟩, ⟨B2, k2, rfl⟩⟩ := ow.rd.forms
  have z1 := q1.size
  simp at z1
  have hb : Below w.heap.size w w1 := Below.trans (by (repeat' (first | (with_reducible exact Below.refl _ _) | (with_reducible assumption) | (with_reducible refine Below.setCell ?_ (by first | omega | (simp; omega) | (simp; done)) _) | (with_reducible refine Below.alloc ?_ (by first | omega | (simp; omega) | (simp; done)) _) | (with_reducible refine Below.drew ?_) | (with_reducible refine below_drewN ?_ _)))) (q1.mono (by simp <;> omega))
  replace f1 := fresh_mono (B' := w.heap.size + 1 + 1) f1 (by simp) (Nat.le_refl _)
  have Lc : Loc w1 (w.heap.size) [.int .i64 n, .slice A1 cs.length n1, .slice A2 pl.length n2] := ((Loc.new w #[.int .i64 n, .slice A1 cs.length n1, .slice A2 pl.length n2] 47).alloc _).below q1
  have Lr : Loc w1 (w.heap.size + 1) [.int .i64 0, .slice none 0 0, .slice none 0 0] := by
    have := (Loc.new (w.alloc (.cells #[.int .i64 n, .slice A1 cs.length n1, .slice A2 pl.length n2] 47)) #[.int .i64 0, .slice none 0 0, .slice none 0 0] 47).below q1
    simpa using this
  go_upto_region 2 with (fail)
  obtain ⟨g, hgz⟩ : ∃ g, w1.heap.size = g := ⟨_, rfl⟩
  replace Lc : Loc (w1.alloc (.cells #[.int .i64 n, .slice B1 cs.length k1, .slice B2 pl.length k2] 47)) (w.heap.size) [.int .i64 n, .slice A1 cs.length n1, .slice A2 pl.length n2] := Lc.alloc _
  replace Lr : Loc (w1.alloc (.cells #[.int .i64 n, .slice B1 cs.length k1, .slice B2 pl.length k2] 47)) (w.heap.size + 1) [.int .i64 0, .slice none 0 0, .slice none 0 0] := Lr.alloc _
  have Lo : Loc (w1.alloc (.cells #[.int .i64 n, .slice B1 cs.length k1, .slice B2 pl.length k2] 47)) (w1.heap.size) [.int .i64 n, .slice B1 cs.length k1, .slice B2 pl.length k2] := Loc.new w1 #[.int .i64 n, .slice B1 cs.length k1, .slice B2 pl.length k2] 47
  replace hb : Below w.heap.size w (w1.alloc (.cells #[.int .i64 n, .slice B1 cs.length k1, .slice B2 pl.length k2] 47)) := by (repeat' (first | (with_reducible exact Below.refl _ _) | (with_reducible assumption) | (with_reducible refine Below.setCell ?_ (by first | omega | (simp; omega) | (simp; done)) _) | (with_reducible refine Below.alloc ?_ (by first | omega | (simp; omega) | (simp; done)) _) | (with_reducible refine Below.drew ?_) | (with_reducible refine below_drewN ?_ _)))
  replace ow := ow.below (w' := (w1.alloc (.cells #[.int .i64 n, .slice B1 cs.length k1, .slice B2 pl.length k2] 47))) (by (repeat' (first | (with_reducible exact Below.refl _ _) | (with_reducible assumption) | (with_reducible refine Below.setCell ?_ (by first | omega | (simp; omega) | (simp; done)) _) | (with_reducible refine Below.alloc ?_ (by first | omega | (simp; omega) | (simp; done)) _) | (with_reducible refine Below.drew ?_) | (with_reducible refine below_drewN ?_ _))))
  have hS : ∀ b ∈ S, b < g := fun b hb => by have := (f1.2 b hb).2; omega
  replace f1 := fresh_mono (w' := (w1.alloc (.cells #[.int .i64 n, .slice B1 cs.length k1, .slice B2 pl.length k2] 47))) f1 (Nat.le_refl _) (by simp)
  have hgW : g < (w1.alloc (.cells #[.int .i64 n, .slice B1 cs.length k1, .slice B2 pl.length k2] 47)).heap.size := by simp; omega
  have hg2 : w.heap.size + 1 + 1 ≤ g := by omega
  clear q1
  generalize w1.alloc (.cells #[.int .i64 n, .slice B1 cs.length k1, .slice B2 pl.length k2] 47) = W at *
  rw [hgz] at Lo ⊢
  clear hgz z1 w1
  have hcl : cs.length ≤ 1048576 := by unfold szCompany at hsz; omega
  obtain ⟨S1, S2, rfl, o1, o2⟩ := ow
  have hv' := hv.below hb
  obtain ⟨Av, cv, rfl, _, _⟩ := hv.form
  obtain ⟨i0, hi0, hz0, hz1, hz2⟩ := info_parts infoCross
  have e1 := o1.2
  subst e1
  have hown : W.ownsRow (w.heap.size + 1 + 1) 115 2 (.slice B1 cs.length k1) cs.length (cs.flatMap cCross) := own_up o1.1 (fun b hb => f1.2 b (List.mem_append_left _ hb))
  have Hf := Lib.hid f1
  have HS := Lib.hid hS
  have O2 := Lib.hid o2
  have Hown := Lib.hid hown
  clear f1 hS o2 hown o1
  have o0 := (Lo 0 _ rfl).1
  have o1 := (Lo 1 _ rfl).1
  have o2 := (Lo 2 _ rfl).1
  have of1 := (Lo 1 _ rfl).2
  go_upto_region 3 with (at_builtin; refine wpList_appendB _ rfl (.tmp 10) (.tmp 11) _ rfl (w.heap.size + 1 + 1) 115 i0 _ 2 16 Try.underlying44 hi0 hz0 hz1 hz2 rfl (by omega) _ cs.length (cs.flatMap cCross) rfl Hown.out _ l.length (l.flatMap cCross) rfl hv' (oneCell_flat cCross_one l) (by simp [maxLen]; omega) (by omega) (by omega) ?_; intro v3 w3 own3 gr3 at3; obtain ⟨B3, k3, rfl, _, _⟩ := (RdS.of_own own3).form; have hch := Chg.of_grown gr3; have ho1 := carryChg hch o1 (fun hm => Nat.lt_irrefl _ (HS.out _ (List.mem_append_left _ hm))); have hof1 := carryChgF hch o1 of1 (fun hm => Nat.lt_irrefl _ (HS.out _ (List.mem_append_left _ hm))); clear o0 o1 o2 of1 hv')
  have hc0 : w.heap.size ∉ (Value.slice B1 cs.length k1).ownBlock.toList := fun hm => by have := (Hf.out.2 _ (List.mem_append_left _ hm)).1; omega
  have hc1 : w.heap.size + 1 ∉ (Value.slice B1 cs.length k1).ownBlock.toList := fun hm => by have := (Hf.out.2 _ (List.mem_append_left _ hm)).1; omega
  have hcg : g ∉ (Value.slice B1 cs.length k1).ownBlock.toList := fun hm => Nat.lt_irrefl _ (HS.out _ (List.mem_append_left _ hm))
  replace Lc := (Lc.chg hch hc0).far (g := g) (i := 1) (u := .slice B3 (cs.length + l.length) k3) (by omega)
  replace Lr := (Lr.chg hch hc1).far (g := g) (i := 1) (u := .slice B3 (cs.length + l.length) k3) (by omega)
  replace Lo : Loc (w3.setCell ⟨g, 1, none⟩ (.slice B3 (cs.length + l.length) k3)) (g) [.int .i64 n, .slice B3 (cs.length + l.length) k3, .slice B2 pl.length k2] := (Lo.chg hch hcg).set (i := 1) (v := .slice B1 cs.length k1) rfl
  obtain ⟨_, _, hdj, hdj'⟩ := nodup2 Hf.out.1
  obtain ⟨f3, hd3⟩ := fresh_app own3 at3 (T := S2) (fun b hb => ⟨(Hf.out.2 b (List.mem_append_right _ hb)).2, hdj' b hb⟩)
  have hs3 := gr3.size
  have f2 := fresh_mono (w' := w3) (fresh_right Hf.out) (Nat.le_refl _) hs3
  have fj := fresh_join f3 f2 hd3
  have hgn : ∀ b ∈ (Value.slice B3 (cs.length + l.length) k3).ownBlock.toList ++ S2, b ≠ g := by
    intro b hb e
    subst e
    rcases List.mem_append.1 hb with hb | hb
    · rcases at3 with h3 | h3
      · rw [h3] at hb; exact hcg hb
      · rw [h3] at hb; simp at hb; omega
    · exact Nat.lt_irrefl _ (HS.out _ (List.mem_append_right _ hb))
  have o3 : OwL 115 cCross 2 w3 (Value.slice B3 (cs.length + l.length) k3).ownBlock.toList (.slice B3 (cs.length + l.length) k3) (cs ++ l) := ⟨by rw [List.length_append, List.flatMap_append]; exact own_mono own3 (Nat.zero_le _), rfl⟩
  have ow3 : OwCompany w3 ((Value.slice B3 (cs.length + l.length) k3).ownBlock.toList ++ S2) (.slice B3 (cs.length + l.length) k3) (.slice B2 pl.length k2) (cs ++ l) pl := ⟨_, _, rfl, o3, O2.out.chg hch hdj'⟩
  have hset : Chg [g] w3 (w3.setCell ⟨g, 1, none⟩ (.slice B3 (cs.length + l.length) k3)) := by repeat' (first | (with_reducible exact Chg.refl _ _) | (with_reducible refine chg_set ?_ (by simp)))
  have ow4 := ow3.chg hset (fun b hb => by have := hgn b hb; simpa using this)
  have f4 := fresh_mono (w' := (w3.setCell ⟨g, 1, none⟩ (.slice B3 (cs.length + l.length) k3))) fj (Nat.le_refl _) hset.size
  have hb3 : Below w.heap.size w (w3.setCell ⟨g, 1, none⟩ (.slice B3 (cs.length + l.length) k3)) := Below.chg (Below.chg hb hch hb.size (fun b hm => by have := (Hf.out.2 b (List.mem_append_left _ hm)).1; omega)) hset (by have := hb.size; omega) (by simp; omega)
  have hgW3 : g < (w3.setCell ⟨g, 1, none⟩ (.slice B3 (cs.length + l.length) k3)).heap.size := by rw [World.size_setCell]; omega
  clear hc0 hc1 hcg hdj hdj' f3 hd3 hs3 f2 fj o3 ow3 hset Hf HS O2 Hown own3 gr3 at3 hch ho1 hof1 hb hgW
  generalize w3.setCell ⟨g, 1, none⟩ (.slice B3 (cs.length + l.length) k3) = W3 at *
  obtain ⟨S3, hS3⟩ : ∃ S3, (Value.slice B3 (cs.length + l.length) k3).ownBlock.toList ++ S2 = S3 := ⟨_, rfl⟩
  rw [hS3] at ow4 f4 hgn
  clear hS3
  have OW := Lib.hid ow4
  have FW := Lib.hid f4
  have HG := Lib.hid hgn
  clear ow4 f4 hgn
  have c0 := (Lc 0 _ rfl).1
  have c1 := (Lc 1 _ rfl).1
  have c2 := (Lc 2 _ rfl).1
  have o0 := (Lo 0 _ rfl).1
  have o1 := (Lo 1 _ rfl).1
  have o2 := (Lo 2 _ rfl).1
  go_wp2_with fail
  refine twoB (implCompanyOk_any n _ _ cs pl _ (h.below hb3)) (fun w4 hq q4 => ?_) (fun w4 hq q4 => ?_)
  · have z4 := q4.size
    replace Lc := Lc.below q4
    replace Lr := Lr.below q4
    replace Lo := Lo.below q4
    have hb4 : Below w.heap.size w w4 := hb3.trans (q4.mono (by have := hb3.size; omega))
    have OW4 := Lib.hid (OW.out.below q4)
    clear c0 c1 c2 o0 o1 o2
    have o0 := (Lo 0 _ rfl).1
    have o1 := (Lo 1 _ rfl).1
    have o2 := (Lo 2 _ rfl).1
    go_wp2_with fail
    refine twoB (implCompanyOk_any n _ _ (cs ++ l) pl _ (OW4.out.rd)) (fun w5 hq' q5 => ?_) (fun w5 hq' q5 => ?_)
    · have z5 := q5.size
      replace Lr := Lr.below q5
      replace Lo := Lo.below q5
      have hb5 : Below w.heap.size w w5 := hb4.trans (q5.mono (by have := hb4.size; omega))
      have OW5 := Lib.hid (OW4.out.below q5)
      clear o0 o1 o2
      have o0 := (Lo 0 _ rfl).1
      have o1 := (Lo 1 _ rfl).1
      have o2 := (Lo 2 _ rfl).1
      have r0 := (Lr 0 _ rfl).1
      have rf0 := (Lr 0 _ rfl).2
      have r1 := (Lr 1 _ rfl).1
      have rf1 := (Lr 1 _ rfl).2
      have r2 := (Lr 2 _ rfl).1
      have rf2 := (Lr 2 _ rfl).2
      go_wp2_with fail
      refine bodyPost_ret (v := .tuple #[.agg #[.int .i64 n, .slice B3 (cs.length + l.length) k3, .slice B2 pl.length k2], .bool true]) (by simp [results, Try.results74, go_sem, *]) rfl (with_t (by rw [withB, hq.out, hq'.out]; rfl) ⟨_, _, S3, rfl, ?_, ?_, ?_⟩)
      · exact OW5.out.chg (T := [w.heap.size + 1]) (by repeat' (first | (with_reducible exact Chg.refl _ _) | (with_reducible refine chg_set ?_ (by simp)))) (fun b hb => by have := FW.out.2 b hb; simp; omega)
      · exact fresh_mono FW.out (by omega) (by simp; omega)
      · exact Below.chg hb5 (S := [w.heap.size + 1]) (by repeat' (first | (with_reducible exact Chg.refl _ _) | (with_reducible refine chg_set ?_ (by simp)))) hb5.size (by simp)
    · have z5 := q5.size
      replace Lc := Lc.below q5
      replace Lr := Lr.below q5
      have hb5 : Below w.heap.size w w5 := hb4.trans (q5.mono (by have := hb4.size; omega))
      clear o0 o1 o2
      have c0 := (Lc 0 _ rfl).1
      have c1 := (Lc 1 _ rfl).1
      have c2 := (Lc 2 _ rfl).1
      go_wp2_with fail
      refine (companyCopied_any n _ _ cs pl _ (h.below hb5) hsz).mono ?_
      rintro e w6 ⟨y1, y2, T, rfl, ow6, f6, q6⟩
      obtain ⟨⟨D1, m1, rfl⟩, ⟨D2, m2, rfl⟩⟩ := ow6.rd.forms
      have Lr6 := Lr.below q6
      have z6 := q6.size
      have zb := hb5.size
      have hb6 : Below w.heap.size w w6 := hb5.trans (q6.mono (by omega))
      replace f6 := fresh_mono (B' := w.heap.size + 1 + 1) f6 (by omega) (Nat.le_refl _)
      clear c0 c1 c2
      have r0 := (Lr6 0 _ rfl).1
      have rf0 := (Lr6 0 _ rfl).2
      have r1 := (Lr6 1 _ rfl).1
      have rf1 := (Lr6 1 _ rfl).2
      have r2 := (Lr6 2 _ rfl).1
      have rf2 := (Lr6 2 _ rfl).2
      have OW6 := Lib.hid ow6
      have F6 := Lib.hid f6
      clear ow6 f6
      go_wp2_with fail
      refine bodyPost_ret (v := .tuple #[.agg #[.int .i64 n, .slice D1 cs.length m1, .slice D2 pl.length m2], .bool false]) (by simp [results, Try.results74, go_sem, *]) rfl (with_f (by rw [withB, hq'.out, Bool.and_false]) ⟨_, _, T, rfl, ?_, ?_, ?_⟩)
      · exact OW6.out.chg (T := [w.heap.size + 1]) (by repeat' (first | (with_reducible exact Chg.refl _ _) | (with_reducible refine chg_set ?_ (by simp)))) (fun b hb => by have := F6.out.2 b hb; simp; omega)
      · exact fresh_mono F6.out (by omega) (by simp)
      · exact Below.chg hb6 (S := [w.heap.size + 1]) (by repeat' (first | (with_reducible exact Chg.refl _ _) | (with_reducible refine chg_set ?_ (by simp)))) hb6.size (by simp)
  · have z4 := q4.size
    replace Lc := Lc.below q4
    replace Lr := Lr.below q4
    have hb4 : Below w.heap.size w w4 := hb3.trans (q4.mono (by have := hb3.size; omega))
    clear c0 c1 c2 o0 o1 o2
    have c0 := (Lc 0 _ rfl).1
    have c1 := (Lc 1 _ rfl).1
    have c2 := (Lc 2 _ rfl).1
    go_wp2_with fail
    refine (companyCopied_any n _ _ cs pl _ (h.below hb4) hsz).mono ?_
    rintro e w6 ⟨y1, y2, T, rfl, ow6, f6, q6⟩
    obtain ⟨⟨D1, m1, rfl⟩, ⟨D2, m2, rfl⟩⟩ := ow6.rd.forms
    have Lr6 := Lr.below q6
    have z6 := q6.size
    have zb := hb4.size
    have hb6 : Below w.heap.size w w6 := hb4.trans (q6.mono (by omega))
    replace f6 := fresh_mono (B' := w.heap.size + 1 + 1) f6 (by omega) (Nat.le_refl _)
    clear c0 c1 c2
    have r0 := (Lr6 0 _ rfl).1
    have rf0 := (Lr6 0 _ rfl).2
    have r1 := (Lr6 1 _ rfl).1
    have rf1 := (Lr6 1 _ rfl).2
    have r2 := (Lr6 2 _ rfl).1
    have rf2 := (Lr6 2 _ rfl).2
    have OW6 := Lib.hid ow6
    have F6 := Lib.hid f6
    clear ow6 f6
    go_wp2_with fail
    refine bodyPost_ret (v := .tuple #[.agg #[.int .i64 n, .slice D1 cs.length m1, .slice D2 pl.length m2], .bool false]) (by simp [results, Try.results74, go_sem, *]) rfl (with_f (by rw [withB, hq.out]; rfl) ⟨_, _, T, rfl, ?_, ?_, ?_⟩)
    · exact OW6.out.chg (T := [w.heap.size + 1]) (by repeat' (first | (with_reducible exact Chg.refl _ _) | (with_reducible refine chg_set ?_ (by simp)))) (fun b hb => by have := F6.out.2 b hb; simp; omega)
    · exact fresh_mono F6.out (by omega) (by simp)
    · exact Below.chg hb6 (S := [w.heap.size + 1]) (by repeat' (first | (with_reducible exact Chg.refl _ _) | (with_reducible refine chg_set ?_ (by simp)))) hb6.size (by simp)
set_option maxHeartbeats 8000000 in
set_option maxRecDepth 100000 in
theorem l37Add_any (n : Int) (v1 v2 vl : Value) (cs : List RCross) (pl : List RPl) (l : List RCross) (w : World) (h : RdCompany w v1 v2 cs pl) (hv : RdL cCross 2 w vl l) (hll : l.length ≤ 100000) (hsz : szCompany cs pl ≤ 1048576) :
    Calls Try.prog 71 #[.agg #[.int .i64 n, v1, v2], vl] w (RetCompany n (withB n cs pl l) (withC n cs pl l) pl w) := by
  obtain ⟨⟨A1, n1, rfl⟩, ⟨A2, n2, rfl⟩⟩ := h.forms
  go_enter Try.func71, Try.ntmps71
  go_wp2_with fail
  refine (l37Copy_any n _ _ cs pl _ (h.below (by (repeat' (first | (with_reducible exact Below.refl _ _) | (with_reducible assumption) | (with_reducible refine Below.setCell ?_ (by first | omega | (simp; omega) | (simp; done)) _) | (with_reducible refine Below.alloc ?_ (by first | omega | (simp; omega) | (simp; done)) _) | (with_reducible refine Below.drew ?_) | (with_reducible refine below_drewN ?_ _))))) hsz).mono ?_
  rintro e w1 ⟨x1, x2, S, rfl, ow, f1, q1⟩
  obtain ⟨⟨B1, k1, rfl⟩, ⟨B2, k2, rfl⟩⟩ := ow.rd.forms
  have z1 := q1.size
  simp at z1
  have hb : Below w.heap.size w w1 := Below.trans (by (repeat' (first | (with_reducible exact Below.refl _ _) | (with_reducible assumption) | (with_reducible refine Below.setCell ?_ (by first | omega | (simp; omega) | (simp; done)) _) | (with_reducible refine Below.alloc ?_ (by first | omega | (simp; omega) | (simp; done)) _) | (with_reducible refine Below.drew ?_) | (with_reducible refine below_drewN ?_ _)))) (q1.mono (by simp <;> omega))
  replace f1 := fresh_mono (B' := w.heap.size + 1 + 1) f1 (by simp) (Nat.le_refl _)
  have Lc : Loc w1 (w.heap.size) [.int .i64 n, .slice A1 cs.length n1, .slice A2 pl.length n2] := ((Loc.new w #[.int .i64 n, .slice A1 cs.length n1, .slice A2 pl.length n2] 47).alloc _).below q1
  have Lr : Loc w1 (w.heap.size + 1) [.int .i64 0, .slice none 0 0, .slice none 0 0] := by
    have := (Loc.new (w.alloc (.cells #[.int .i64 n, .slice A1 cs.length n1, .slice A2 pl.length n2] 47)) #[.int .i64 0, .slice none 0 0, .slice none 0 0] 47).below q1
    simpa using this
  go_upto_region 2 with (fail)
  obtain ⟨g, hgz⟩ : ∃ g, w1.heap.size = g := ⟨_, rfl⟩
  replace Lc : Loc (w1.alloc (.cells #[.int .i64 n, .slice B1 cs.length k1, .slice B2 pl.length k2] 47)) (w.heap.size) [.int .i64 n, .slice A1 cs.length n1, .slice A2 pl.length n2] := Lc.alloc _
  replace Lr : Loc (w1.alloc (.cells #[.int .i64 n, .slice B1 cs.length k1, .slice B2 pl.length k2] 47)) (w.heap.size + 1) [.int .i64 0, .slice none 0 0, .slice none 0 0] := Lr.alloc _
  have Lo : Loc (w1.alloc (.cells #[.int .i64 n, .slice B1 cs.length k1, .slice B2 pl.length k2] 47)) (w1.heap.size) [.int .i64 n, .slice B1 cs.length k1, .slice B2 pl.length k2] := Loc.new w1 #[.int .i64 n, .slice B1 cs.length k1, .slice B2 pl.length k2] 47
  replace hb : Below w.heap.size w (w1.alloc (.cells #[.int .i64 n, .slice B1 cs.length k1, .slice B2 pl.length k2] 47)) := by (repeat' (first | (with_reducible exact Below.refl _ _) | (with_reducible assumption) | (with_reducible refine Below.setCell ?_ (by first | omega | (simp; omega) | (simp; done)) _) | (with_reducible refine Below.alloc ?_ (by first | omega | (simp; omega) | (simp; done)) _) | (with_reducible refine Below.drew ?_) | (with_reducible refine below_drewN ?_ _)))
  replace ow := ow.below (w' := (w1.alloc (.cells #[.int .i64 n, .slice B1 cs.length k1, .slice B2 pl.length k2] 47))) (by (repeat' (first | (with_reducible exact Below.refl _ _) | (with_reducible assumption) | (with_reducible refine Below.setCell ?_ (by first | omega | (simp; omega) | (simp; done)) _) | (with_reducible refine Below.alloc ?_ (by first | omega | (simp; omega) | (simp; done)) _) | (with_reducible refine Below.drew ?_) | (with_reducible refine below_drewN ?_ _))))
  have hS : ∀ b ∈ S, b < g := fun b hb => by have := (f1.2 b hb).2; omega
  replace f1 := fresh_mono (w' := (w1.alloc (.cells #[.int .i64 n, .slice B1 cs.length k1, .slice B2 pl.length k2] 47))) f1 (Nat.le_refl _) (by simp)
  have hgW : g < (w1.alloc (.cells #[.int .i64 n, .slice B1 cs.length k1, .slice B2 pl.length k2] 47)).heap.size := by simp; omega
  have hg2 : w.heap.size + 1 + 1 ≤ g := by omega
  clear q1
  generalize w1.alloc (.cells #[.int .i64 n, .slice B1 cs.length k1, .slice B2 pl.length k2] 47) = W at *
  rw [hgz] at Lo ⊢
  clear hgz z1 w1
  have hcl : cs.length ≤ 1048576 := by unfold szCompany at hsz; omega
  obtain ⟨S1, S2, rfl, o1, o2⟩ := ow
  have hv' := hv.below hb
  obtain ⟨Av, cv, rfl, _, _⟩ := hv.form
  obtain ⟨i0, hi0, hz0, hz1, hz2⟩ := info_parts infoCross
  have e1 := o1.2
  subst e1
  have hown : W.ownsRow (w.heap.size + 1 + 1) 115 2 (.slice B1 cs.length k1) cs.length (cs.flatMap cCross) := own_up o1.1 (fun b hb => f1.2 b (List.mem_append_left _ hb))
  have Hf := Lib.hid f1
  have HS := Lib.hid hS
  have O2 := Lib.hid o2
  have Hown := Lib.hid hown
  clear f1 hS o2 hown o1
  have o0 := (Lo 0 _ rfl).1
  have o1 := (Lo 1 _ rfl).1
  have o2 := (Lo 2 _ rfl).1
  have of1 := (Lo 1 _ rfl).2
  go_upto_region 3 with (at_builtin; refine wpList_appendB _ rfl (.tmp 10) (.tmp 11) _ rfl (w.heap.size + 1 + 1) 115 i0 _ 2 16 Try.underlying44 hi0 hz0 hz1 hz2 rfl (by omega) _ cs.length (cs.flatMap cCross) rfl Hown.out _ l.length (l.flatMap cCross) rfl hv' (oneCell_flat cCross_one l) (by simp [maxLen]; omega) (by omega) (by omega) ?_; intro v3 w3 own3 gr3 at3; obtain ⟨B3, k3, rfl, _, _⟩ := (RdS.of_own own3).form; have hch := Chg.of_grown gr3; have ho1 := carryChg hch o1 (fun hm => Nat.lt_irrefl _ (HS.out _ (List.mem_append_left _ hm))); have hof1 := carryChgF hch o1 of1 (fun hm => Nat.lt_irrefl _ (HS.out _ (List.mem_append_left _ hm))); clear o0 o1 o2 of1 hv')
  have hc0 : w.heap.size ∉ (Value.slice B1 cs.length k1).ownBlock.toList := fun hm => by have := (Hf.out.2 _ (List.mem_append_left _ hm)).1; omega
  have hc1 : w.heap.size + 1 ∉ (Value.slice B1 cs.length k1).ownBlock.toList := fun hm => by have := (Hf.out.2 _ (List.mem_append_left _ hm)).1; omega
  have hcg : g ∉ (Value.slice B1 cs.length k1).ownBlock.toList := fun hm => Nat.lt_irrefl _ (HS.out _ (List.mem_append_left _ hm))
  replace Lc := (Lc.chg hch hc0).far (g := g) (i := 1) (u := .slice B3 (cs.length + l.length) k3) (by omega)
  replace Lr := (Lr.chg hch hc1).far (g := g) (i := 1) (u := .slice B3 (cs.length + l.length) k3) (by omega)
  replace Lo : Loc (w3.setCell ⟨g, 1, none⟩ (.slice B3 (cs.length + l.length) k3)) (g) [.int .i64 n, .slice B3 (cs.length + l.length) k3, .slice B2 pl.length k2] := (Lo.chg hch hcg).set (i := 1) (v := .slice B1 cs.length k1) rfl
  obtain ⟨_, _, hdj, hdj'⟩ := nodup2 Hf.out.1
  obtain ⟨f3, hd3⟩ := fresh_app own3 at3 (T := S2) (fun b hb => ⟨(Hf.out.2 b (List.mem_append_right _ hb)).2, hdj' b hb⟩)
  have hs3 := gr3.size
  have f2 := fresh_mono (w' := w3) (fresh_right Hf.out) (Nat.le_refl _) hs3
  have fj := fresh_join f3 f2 hd3
  have hgn : ∀ b ∈ (Value.slice B3 (cs.length + l.length) k3).ownBlock.toList ++ S2, b ≠ g := by
    intro b hb e
    subst e
    rcases List.mem_append.1 hb with hb | hb
    · rcases at3 with h3 | h3
      · rw [h3] at hb; exact hcg hb
      · rw [h3] at hb; simp at hb; omega
    · exact Nat.lt_irrefl _ (HS.out _ (List.mem_append_right _ hb))
  have o3 : OwL 115 cCross 2 w3 (Value.slice B3 (cs.length + l.length) k3).ownBlock.toList (.slice B3 (cs.length + l.length) k3) (cs ++ l) := ⟨by rw [List.length_append, List.flatMap_append]; exact own_mono own3 (Nat.zero_le _), rfl⟩
  have ow3 : OwCompany w3 ((Value.slice B3 (cs.length + l.length) k3).ownBlock.toList ++ S2) (.slice B3 (cs.length + l.length) k3) (.slice B2 pl.length k2) (cs ++ l) pl := ⟨_, _, rfl, o3, O2.out.chg hch hdj'⟩
  have hset : Chg [g] w3 (w3.setCell ⟨g, 1, none⟩ (.slice B3 (cs.length + l.length) k3)) := by repeat' (first | (with_reducible exact Chg.refl _ _) | (with_reducible refine chg_set ?_ (by simp)))
  have ow4 := ow3.chg hset (fun b hb => by have := hgn b hb; simpa using this)
  have f4 := fresh_mono (w' := (w3.setCell ⟨g, 1, none⟩ (.slice B3 (cs.length + l.length) k3))) fj (Nat.le_refl _) hset.size
  have hb3 : Below w.heap.size w (w3.setCell ⟨g, 1, none⟩ (.slice B3 (cs.length + l.length) k3)) := Below.chg (Below.chg hb hch hb.size (fun b hm => by have := (Hf.out.2 b (List.mem_append_left _ hm)).1; omega)) hset (by have := hb.size; omega) (by simp; omega)
  have hgW3 : g < (w3.setCell ⟨g, 1, none⟩ (.slice B3 (cs.length + l.length) k3)).heap.size := by rw [World.size_setCell]; omega
  clear hc0 hc1 hcg hdj hdj' f3 hd3 hs3 f2 fj o3 ow3 hset Hf HS O2 Hown own3 gr3 at3 hch ho1 hof1 hb hgW
  generalize w3.setCell ⟨g, 1, none⟩ (.slice B3 (cs.length + l.length) k3) = W3 at *
  obtain ⟨S3, hS3⟩ : ∃ S3, (Value.slice B3 (cs.length + l.length) k3).ownBlock.toList ++ S2 = S3 := ⟨_, rfl⟩
  rw [hS3] at ow4 f4 hgn
  clear hS3
  have OW := Lib.hid ow4
  have FW := Lib.hid f4
  have HG := Lib.hid hgn
  clear ow4 f4 hgn
  have c0 := (Lc 0 _ rfl).1
  have c1 := (Lc 1 _ rfl).1
  have c2 := (Lc 2 _ rfl).1
  have o0 := (Lo 0 _ rfl).1
  have o1 := (Lo 1 _ rfl).1
  have o2 := (Lo 2 _ rfl).1
  go_wp2_with fail
  refine twoB (specCompanyOk_any n _ _ cs pl _ (h.below hb3)) (fun w4 hq q4 => ?_) (fun w4 hq q4 => ?_)
  · have z4 := q4.size
    replace Lc := Lc.below q4
    replace Lr := Lr.below q4
    replace Lo := Lo.below q4
    have hb4 : Below w.heap.size w w4 := hb3.trans (q4.mono (by have := hb3.size; omega))
    have OW4 := Lib.hid (OW.out.below q4)
    clear c0 c1 c2 o0 o1 o2
    have o0 := (Lo 0 _ rfl).1
    have o1 := (Lo 1 _ rfl).1
    have o2 := (Lo 2 _ rfl).1
    go_wp2_with fail
    refine twoB (specCompanyOk_any n _ _ (cs ++ l) pl _ (OW4.out.rd)) (fun w5 hq' q5 => ?_) (fun w5 hq' q5 => ?_)
    · have z5 := q5.size
      replace Lr := Lr.below q5
      replace Lo := Lo.below q5
      have hb5 : Below w.heap.size w w5 := hb4.trans (q5.mono (by have := hb4.size; omega))
      have OW5 := Lib.hid (OW4.out.below q5)
      clear o0 o1 o2
      have o0 := (Lo 0 _ rfl).1
      have o1 := (Lo 1 _ rfl).1
      have o2 := (Lo 2 _ rfl).1
      have r0 := (Lr 0 _ rfl).1
      have rf0 := (Lr 0 _ rfl).2
      have r1 := (Lr 1 _ rfl).1
      have rf1 := (Lr 1 _ rfl).2
      have r2 := (Lr 2 _ rfl).1
      have rf2 := (Lr 2 _ rfl).2
      go_wp2_with fail
      refine bodyPost_ret (v := .tuple #[.agg #[.int .i64 n, .slice B3 (cs.length + l.length) k3, .slice B2 pl.length k2], .bool true]) (by simp [results, Try.results71, go_sem, *]) rfl (with_t (by rw [withB, hq.out, hq'.out]; rfl) ⟨_, _, S3, rfl, ?_, ?_, ?_⟩)
      · exact OW5.out.chg (T := [w.heap.size + 1]) (by repeat' (first | (with_reducible exact Chg.refl _ _) | (with_reducible refine chg_set ?_ (by simp)))) (fun b hb => by have := FW.out.2 b hb; simp; omega)
      · exact fresh_mono FW.out (by omega) (by simp; omega)
      · exact Below.chg hb5 (S := [w.heap.size + 1]) (by repeat' (first | (with_reducible exact Chg.refl _ _) | (with_reducible refine chg_set ?_ (by simp)))) hb5.size (by simp)
    · have z5 := q5.size
      replace Lc := Lc.below q5
      replace Lr := Lr.below q5
      have hb5 : Below w.heap.size w w5 := hb4.trans (q5.mono (by have := hb4.size; omega))
      clear o0 o1 o2
      have c0 := (Lc 0 _ rfl).1
      have c1 := (Lc 1 _ rfl).1
      have c2 := (Lc 2 _ rfl).1
      go_wp2_with fail
      refine (l37Copy_any n _ _ cs pl _ (h.below hb5) hsz).mono ?_
      rintro e w6 ⟨y1, y2, T, rfl, ow6, f6, q6⟩
      obtain ⟨⟨D1, m1, rfl⟩, ⟨D2, m2, rfl⟩⟩ := ow6.rd.forms
      have Lr6 := Lr.below q6
      have z6 := q6.size
      have zb := hb5.size
      have hb6 : Below w.heap.size w w6 := hb5.trans (q6.mono (by omega))
      replace f6 := fresh_mono (B' := w.heap.size + 1 + 1) f6 (by omega) (Nat.le_refl _)
      clear c0 c1 c2
      have r0 := (Lr6 0 _ rfl).1
      have rf0 := (Lr6 0 _ rfl).2
      have r1 := (Lr6 1 _ rfl).1
      have rf1 := (Lr6 1 _ rfl).2
      have r2 := (Lr6 2 _ rfl).1
      have rf2 := (Lr6 2 _ rfl).2
      have OW6 := Lib.hid ow6
      have F6 := Lib.hid f6
      clear ow6 f6
      go_wp2_with fail
      refine bodyPost_ret (v := .tuple #[.agg #[.int .i64 n, .slice D1 cs.length m1, .slice D2 pl.length m2], .bool false]) (by simp [results, Try.results71, go_sem, *]) rfl (with_f (by rw [withB, hq'.out, Bool.and_false]) ⟨_, _, T, rfl, ?_, ?_, ?_⟩)
      · exact OW6.out.chg (T := [w.heap.size + 1]) (by repeat' (first | (with_reducible exact Chg.refl _ _) | (with_reducible refine chg_set ?_ (by simp)))) (fun b hb => by have := F6.out.2 b hb; simp; omega)
      · exact fresh_mono F6.out (by omega) (by simp)
      · exact Below.chg hb6 (S := [w.heap.size + 1]) (by repeat' (first | (with_reducible exact Chg.refl _ _) | (with_reducible refine chg_set ?_ (by simp)))) hb6.size (by simp)
  · have z4 := q4.size
    replace Lc := Lc.below q4
    replace Lr := Lr.below q4
    have hb4 : Below w.heap.size w w4 := hb3.trans (q4.mono (by have := hb3.size; omega))
    clear c0 c1 c2 o0 o1 o2
    have c0 := (Lc 0 _ rfl).1
    have c1 := (Lc 1 _ rfl).1
    have c2 := (Lc 2 _ rfl).1
    go_wp2_with fail
    refine (l37Copy_any n _ _ cs pl _ (h.below hb4) hsz).mono ?_
    rintro e w6 ⟨y1, y2, T, rfl, ow6, f6, q6⟩
    obtain ⟨⟨D1, m1, rfl⟩, ⟨D2, m2, rfl⟩⟩ := ow6.rd.forms
    have Lr6 := Lr.below q6
    have z6 := q6.size
    have zb := hb4.size
    have hb6 : Below w.heap.size w w6 := hb4.trans (q6.mono (by omega))
    replace f6 := fresh_mono (B' := w.heap.size + 1 + 1) f6 (by omega) (Nat.le_refl _)
    clear c0 c1 c2
    have r0 := (Lr6 0 _ rfl).1
    have rf0 := (Lr6 0 _ rfl).2
    have r1 := (Lr6 1 _ rfl).1
    have rf1 := (Lr6 1 _ rfl).2
    have r2 := (Lr6 2 _ rfl).1
    have rf2 := (Lr6 2 _ rfl).2
    have OW6 := Lib.hid ow6
    have F6 := Lib.hid f6
    clear ow6 f6
    go_wp2_with fail
    refine bodyPost_ret (v := .tuple #[.agg #[.int .i64 n, .slice D1 cs.length m1, .slice D2 pl.length m2], .bool false]) (by simp [results, Try.results71, go_sem, *]) rfl (with_f (by rw [withB, hq.out]; rfl) ⟨_, _, T, rfl, ?_, ?_, ?_⟩)
    · exact OW6.out.chg (T := [w.heap.size + 1]) (by repeat' (first | (with_reducible exact Chg.refl _ _) | (with_reducible refine chg_set ?_ (by simp)))) (fun b hb => by have := F6.out.2 b hb; simp; omega)
    · exact fresh_mono F6.out (by omega) (by simp)
    · exact Below.chg hb6 (S := [w.heap.size + 1]) (by repeat' (first | (with_reducible exact Chg.refl _ _) | (with_reducible refine chg_set ?_ (by simp)))) hb6.size (by simp)
set_option maxHeartbeats 8000000 in
set_option maxRecDepth 100000 in
theorem implCrossOver_any (n a : Int) (f : Bool) (v1 v2 : Value) (cs : List RCross) (pl : List RPl) (w : World) (h : RdCompany w v1 v2 cs pl) (hsz : szCompany cs pl ≤ 1048576) :
    Calls Try.prog 46 #[.agg #[.int .i64 n, v1, v2], .int .i64 a, .bool f] w (RetCompany n (withB n cs pl [(a, f)]) (withC n cs pl [(a, f)]) pl w) := by
  obtain ⟨⟨A1, n1, rfl⟩, ⟨A2, n2, rfl⟩⟩ := h.forms
  go_enter Try.func46, Try.ntmps46
  go_wp2_with fail
  refine (implWith_any n _ _ (.slice (some ⟨w.heap.size + 1 + 1, 0, none⟩) 1 1) cs pl [(a, f)] _ (h.below (by (repeat' (first | (with_reducible exact Below.refl _ _) | (with_reducible assumption) | (with_reducible refine Below.setCell ?_ (by first | omega | (simp; omega) | (simp; done)) _) | (with_reducible refine Below.alloc ?_ (by first | omega | (simp; omega) | (simp; done)) _) | (with_reducible refine Below.drew ?_) | (with_reducible refine below_drewN ?_ _))))) (rdS_newAt _ (w.heap.size + 1 + 1) (by simp) #[.int .i64 a, .bool f] _ 2 1 rfl (by simp [maxLen])) (by simp) hsz).mono ?_
  rintro e W1 ⟨x1, x2, S, rfl, ow, f1, q⟩
  obtain ⟨⟨B1, k1, rfl⟩, ⟨B2, k2, rfl⟩⟩ := ow.rd.forms
  generalize withB n cs pl [(a, f)] = ok at *
  generalize withC n cs pl [(a, f)] = cs' at *
  have Lc : Loc W1 (w.heap.size) [.int .i64 n, .slice A1 cs.length n1, .slice A2 pl.length n2] := by have := (((Loc.new w #[.int .i64 n, .slice A1 cs.length n1, .slice A2 pl.length n2] 47).alloc _).alloc _).below q; simpa using this
  have Lr : Loc W1 (w.heap.size + 1) [.int .i64 0, .slice none 0 0, .slice none 0 0] := by have := ((Loc.new (w.alloc (.cells #[.int .i64 n, .slice A1 cs.length n1, .slice A2 pl.length n2] 47)) #[.int .i64 0, .slice none 0 0, .slice none 0 0] 47).alloc _).below q; simpa using this
  have Lm : Loc W1 (w.heap.size + 1 + 1) [.int .i64 a, .bool f] := by have := (Loc.new ((w.alloc (.cells #[.int .i64 n, .slice A1 cs.length n1, .slice A2 pl.length n2] 47)).alloc (.cells #[.int .i64 0, .slice none 0 0, .slice none 0 0] 47)) #[.int .i64 a, .bool f] 115).below q; simpa using this
  have hb : Below w.heap.size w W1 := Below.trans (by (repeat' (first | (with_reducible exact Below.refl _ _) | (with_reducible assumption) | (with_reducible refine Below.setCell ?_ (by first | omega | (simp; omega) | (simp; done)) _) | (with_reducible refine Below.alloc ?_ (by first | omega | (simp; omega) | (simp; done)) _) | (with_reducible refine Below.drew ?_) | (with_reducible refine below_drewN ?_ _)))) (q.mono (by simp <;> omega))
  have hz0 : w.heap.size + 1 + 1 + 1 ≤ W1.heap.size := by have := q.size; simp at this; omega
  have hlow : w.heap.size + 1 + 1 + 1 ≤ ((((w.alloc (.cells #[.int .i64 n, .slice A1 cs.length n1, .slice A2 pl.length n2] 47)).alloc (.cells #[.int .i64 0, .slice none 0 0, .slice none 0 0] 47)).alloc (.cells #[.int .i64 a, .bool f] 115))).heap.size := by first | exact Nat.le_refl _ | (simp; done) | (simp; omega) | omega
  have FK := Lib.hid (fresh_mono f1 hlow (Nat.le_refl _))
  have DK : Hid (∀ x ∈ S, x ∉ [w.heap.size, w.heap.size + 1, w.heap.size + 1 + 1]) := (fun x hx => by have := (FK.out.2 x hx).1; simp; omega)
  have OK := Lib.hid ow
  clear ow f1 hlow
  clear q
  have r0 := (Lr 0 _ rfl).1
  have rf0 := (Lr 0 _ rfl).2
  have r1 := (Lr 1 _ rfl).1
  have rf1 := (Lr 1 _ rfl).2
  have r2 := (Lr 2 _ rfl).1
  have rf2 := (Lr 2 _ rfl).2
  go_wp2_with fail
  refine bodyPost_ret (v := .tuple #[.agg #[.int .i64 n, .slice B1 cs'.length k1, .slice B2 pl.length k2], .bool ok]) (by simp [results, Try.results46, go_sem, *]) rfl (⟨_, _, S, rfl, ?_, ?_, ?_⟩)
  · exact OK.out.chg (T := [w.heap.size + 1]) (by repeat' (first | (with_reducible exact Chg.refl _ _) | (with_reducible refine chg_set ?_ (by simp)))) (fun x hx hx' => DK.out x hx (by simp at hx'; subst hx'; simp))
  · exact fresh_mono FK.out (by omega) (by simp)
  · exact Below.chg hb (S := [w.heap.size + 1]) (by repeat' (first | (with_reducible exact Chg.refl _ _) | (with_reducible refine chg_set ?_ (by simp)))) hb.size (by simp)
def takeB (n : Int) (cs : List RCross) (pl : List RPl) : Bool := companyB n cs pl && decide (0 < cs.length)
def takeC (n : Int) (cs : List RCross) (pl : List RPl) : List RCross := if takeB n cs pl = true then cs.take (cs.length - 1) else cs
theorem take_sz (n : Int) (cs : List RCross) (pl : List RPl) : szCompany (takeC n cs pl) pl ≤ szCompany cs pl := by
  unfold takeC szCompany
  split
  · rw [List.length_take]; omega
  · exact Nat.le_refl _
theorem take_f {n : Int} {cs : List RCross} {pl : List RPl} {w w' : World} {e : Ending} (h : takeB n cs pl = false) (hr : RetCompany n false cs pl w e w') : RetCompany n (takeB n cs pl) (takeC n cs pl) pl w e w' := by rw [takeC, h]; exact hr
theorem take_t {n : Int} {cs : List RCross} {pl : List RPl} {w w' : World} {e : Ending} (h : takeB n cs pl = true) (hr : RetCompany n true (cs.take (cs.length - 1)) pl w e w') : RetCompany n (takeB n cs pl) (takeC n cs pl) pl w e w' := by rw [takeC, h]; exact hr
theorem own_prefix {w : World} {B : Nat} {e : TypeId} {size n c m : Nat} {A : Option Addr} {xs : List Value} (h : w.ownsRow B e size (.slice A n c) n xs) (hm : m ≤ n) (hn : 0 < n) : w.ownsRow B e size (.slice A m c) m (xs.take (m * size)) := by
  refine ⟨by rw [List.length_take, h.1]; exact Nat.min_eq_left (Nat.mul_le_mul_right _ hm), ?_⟩
  rcases h.2 with ⟨_, h0⟩ | ⟨g, cap, cur, hv, h1, h2, h3, h4, h5, h6⟩
  · omega
  · injection hv with e1 e2 e3
    subst e1 e3
    exact .inr ⟨g, c, cur, rfl, h1, h2, by omega, h4, h5, by rw [← h6, List.take_take, Nat.min_eq_left (Nat.mul_le_mul_right _ hm)]⟩
theorem flat_take {α : Type} {f : α → List Value} {size : Nat} (hf : ∀ a, (f a).length = size) (l : List α) (m : Nat) : (l.take m).flatMap f = (l.flatMap f).take (m * size) := by
  induction l generalizing m with
  | nil => simp
  | cons a l ih =>
    cases m with
    | zero => simp
    | succ m =>
      rw [List.take_succ_cons, List.flatMap_cons, List.flatMap_cons, ih, List.take_append, hf, List.take_of_length_le (l := f a) (by rw [hf, Nat.add_mul]; omega), show (m + 1) * size - size = m * size by rw [Nat.add_mul]; omega]
theorem take_own {w : World} {S : List Nat} {A : Option Addr} {c : Nat} {v2 : Value} {cs : List RCross} {pl : List RPl} (h : OwCompany w S (.slice A cs.length c) v2 cs pl) (h0 : 0 < cs.length) : OwCompany w S (.slice A (cs.length - 1) c) v2 (cs.take (cs.length - 1)) pl := by
  obtain ⟨S1, S2, e, o1, o2⟩ := h
  refine ⟨S1, S2, e, ⟨?_, o1.2.trans (by cases A <;> rfl)⟩, o2⟩
  have hl : (cs.take (cs.length - 1)).length = cs.length - 1 := by rw [List.length_take]; omega
  rw [hl, flat_take cCross_len]
  exact own_prefix o1.1 (by omega) h0
set_option maxHeartbeats 8000000 in
set_option maxRecDepth 100000 in
theorem implTakeBack_any (n : Int) (v1 v2 : Value) (cs : List RCross) (pl : List RPl) (w : World) (h : RdCompany w v1 v2 cs pl) (hsz : szCompany cs pl ≤ 1048576) :
    Calls Try.prog 47 #[.agg #[.int .i64 n, v1, v2]] w (RetCompany n (takeB n cs pl) (takeC n cs pl) pl w) := by
  obtain ⟨⟨A1, n1, rfl⟩, ⟨A2, n2, rfl⟩⟩ := h.forms
  go_enter Try.func47, Try.ntmps47
  go_wp2_with fail
  refine (companyCopied_any n _ _ cs pl _ (h.below (by (repeat' (first | (with_reducible exact Below.refl _ _) | (with_reducible assumption) | (with_reducible refine Below.setCell ?_ (by first | omega | (simp; omega) | (simp; done)) _) | (with_reducible refine Below.alloc ?_ (by first | omega | (simp; omega) | (simp; done)) _) | (with_reducible refine Below.drew ?_) | (with_reducible refine below_drewN ?_ _))))) hsz).mono ?_
  rintro e W1 ⟨x1, x2, S, rfl, ow, f1, q⟩
  obtain ⟨⟨B1, k1, rfl⟩, ⟨B2, k2, rfl⟩⟩ := ow.rd.forms
  have Lc : Loc W1 (w.heap.size) [.int .i64 n, .slice A1 cs.length n1, .slice A2 pl.length n2] := by have := ((Loc.new w #[.int .i64 n, .slice A1 cs.length n1, .slice A2 pl.length n2] 47).alloc _).below q; simpa using this
  have Lr : Loc W1 (w.heap.size + 1) [.int .i64 0, .slice none 0 0, .slice none 0 0] := by have := (Loc.new (w.alloc (.cells #[.int .i64 n, .slice A1 cs.length n1, .slice A2 pl.length n2] 47)) #[.int .i64 0, .slice none 0 0, .slice none 0 0] 47).below q; simpa using this
  have hb : Below w.heap.size w W1 := Below.trans (by (repeat' (first | (with_reducible exact Below.refl _ _) | (with_reducible assumption) | (with_reducible refine Below.setCell ?_ (by first | omega | (simp; omega) | (simp; done)) _) | (with_reducible refine Below.alloc ?_ (by first | omega | (simp; omega) | (simp; done)) _) | (with_reducible refine Below.drew ?_) | (with_reducible refine below_drewN ?_ _)))) (q.mono (by simp <;> omega))
  have hz0 : w.heap.size + 1 + 1 ≤ W1.heap.size := by have := q.size; simp at this; omega
  have hlow : w.heap.size + 1 + 1 ≤ (((w.alloc (.cells #[.int .i64 n, .slice A1 cs.length n1, .slice A2 pl.length n2] 47)).alloc (.cells #[.int .i64 0, .slice none 0 0, .slice none 0 0] 47))).heap.size := by first | exact Nat.le_refl _ | (simp; done) | (simp; omega) | omega
  have FK := Lib.hid (fresh_mono f1 hlow (Nat.le_refl _))
  have DK : Hid (∀ x ∈ S, x ∉ [w.heap.size, w.heap.size + 1]) := (fun x hx => by have := (FK.out.2 x hx).1; simp; omega)
  have OK := Lib.hid ow
  clear ow f1 hlow
  clear q
  go_upto_region 2 with (fail)
  replace Lc : Loc (W1.alloc (.cells #[.int .i64 n, .slice B1 cs.length k1, .slice B2 pl.length k2] 47)) (w.heap.size) [.int .i64 n, .slice A1 cs.length n1, .slice A2 pl.length n2] := Lc.alloc _
  replace Lr : Loc (W1.alloc (.cells #[.int .i64 n, .slice B1 cs.length k1, .slice B2 pl.length k2] 47)) (w.heap.size + 1) [.int .i64 0, .slice none 0 0, .slice none 0 0] := Lr.alloc _
  obtain ⟨go, hgo⟩ : ∃ g, W1.heap.size = g := ⟨_, rfl⟩
  have Lo : Loc (W1.alloc (.cells #[.int .i64 n, .slice B1 cs.length k1, .slice B2 pl.length k2] 47)) W1.heap.size [.int .i64 n, .slice B1 cs.length k1, .slice B2 pl.length k2] := Loc.new W1 #[.int .i64 n, .slice B1 cs.length k1, .slice B2 pl.length k2] 47
  rw [hgo] at Lo
  have OK' := Lib.hid (OK.out.below (w' := (W1.alloc (.cells #[.int .i64 n, .slice B1 cs.length k1, .slice B2 pl.length k2] 47))) ((Below.refl _ _).alloc (Nat.le_refl _) _))
  clear OK; have OK := OK'; clear OK'
  have DK' : Hid (∀ x ∈ S, x ∉ [w.heap.size, w.heap.size + 1, go]) := (fun x hx => by have := DK.out x hx; have := (FK.out.2 x hx).2; simp at *; omega)
  clear DK; have DK := DK'; clear DK'
  have FK' := Lib.hid (fresh_mono (w' := (W1.alloc (.cells #[.int .i64 n, .slice B1 cs.length k1, .slice B2 pl.length k2] 47))) FK.out (Nat.le_refl _) (by simp))
  clear FK; have FK := FK'; clear FK'
  replace hb : Below w.heap.size w (W1.alloc (.cells #[.int .i64 n, .slice B1 cs.length k1, .slice B2 pl.length k2] 47)) := hb.alloc hb.size _
  have hlto : go < (W1.alloc (.cells #[.int .i64 n, .slice B1 cs.length k1, .slice B2 pl.length k2] 47)).heap.size := by simp; omega
  have hne_c_o : w.heap.size < go := by omega
  have hne_r_o : w.heap.size + 1 < go := by omega
  generalize W1.alloc (.cells #[.int .i64 n, .slice B1 cs.length k1, .slice B2 pl.length k2] 47) = W2 at *
  rw [hgo]
  clear hgo
  have c0 := (Lc 0 _ rfl).1
  have c1 := (Lc 1 _ rfl).1
  have c2 := (Lc 2 _ rfl).1
  go_wp2_with fail
  refine twoB (implCompanyOk_any n _ _ cs pl _ (h.below hb)) (fun W3 hq q => ?_) (fun W3 hq q => ?_)
  · skip
    clear c0 c1 c2
    have hzq : W2.heap.size ≤ W3.heap.size := by have := q.size; (try simp at this); omega
    replace Lc := Lc.below q
    replace Lr := Lr.below q
    replace Lo := Lo.below q
    have OK' := Lib.hid (OK.out.below q)
    clear OK; have OK := OK'; clear OK'
    have FK' := Lib.hid (fresh_mono (w' := W3) FK.out (Nat.le_refl _) hzq)
    clear FK; have FK := FK'; clear FK'
    replace hb : Below w.heap.size w W3 := hb.trans (q.mono hb.size)
    clear q
    rcases Nat.eq_zero_or_pos cs.length with h0 | h0
    · have hd : ((cs.length : Int) == 0) = true := by rw [beq_iff_eq]; omega
      have H0 := Lib.hid h0
      clear h0
      have c1 := (Lc 1 _ rfl).1
      have o0 := (Lo 0 _ rfl).1
      have o1 := (Lo 1 _ rfl).1
      have o2 := (Lo 2 _ rfl).1
      have r0 := (Lr 0 _ rfl).1
      have rf0 := (Lr 0 _ rfl).2
      have r1 := (Lr 1 _ rfl).1
      have rf1 := (Lr 1 _ rfl).2
      have r2 := (Lr 2 _ rfl).1
      have rf2 := (Lr 2 _ rfl).2
      go_wp2_with fail
      refine bodyPost_ret (v := .tuple #[.agg #[.int .i64 n, .slice B1 cs.length k1, .slice B2 pl.length k2], .bool false]) (by simp [results, Try.results47, go_sem, *]) rfl (take_f (by rw [takeB, H0.out]; simp) ⟨_, _, S, rfl, ?_, ?_, ?_⟩)
      · exact OK.out.chg (T := [w.heap.size + 1]) (by repeat' (first | (with_reducible exact Chg.refl _ _) | (with_reducible refine chg_set ?_ (by simp)))) (fun x hx hx' => DK.out x hx (by simp at hx'; subst hx'; simp))
      · exact fresh_mono FK.out (by omega) (by simp)
      · exact Below.chg hb (S := [w.heap.size + 1]) (by repeat' (first | (with_reducible exact Chg.refl _ _) | (with_reducible refine chg_set ?_ (by simp)))) hb.size (by simp)
    · have hd : ((cs.length : Int) == 0) = false := by rw [beq_eq_false_iff_ne]; omega
      have hk1 : cs.length ≤ k1 := by obtain ⟨S1, S2, _, o1, _⟩ := OK.out; obtain ⟨_, c', e, h1, _⟩ := o1.rd.form; injection e with _ _ e3; omega
      have hcl : cs.length ≤ 1048576 := by unfold szCompany at hsz; omega
      have c1 := (Lc 1 _ rfl).1
      have o0 := (Lo 0 _ rfl).1
      have o1 := (Lo 1 _ rfl).1
      have o2 := (Lo 2 _ rfl).1
      have of1 := (Lo 1 _ rfl).2
      go_upto_region 5 with (fail)
      clear c1 o0 o1 o2 of1
      replace Lc : Loc (W3.setCell ⟨go, 1, none⟩ (.slice B1 (cs.length - 1) k1)) (w.heap.size) [.int .i64 n, .slice A1 cs.length n1, .slice A2 pl.length n2] := Lc.far (g := go) (i := 1) (u := .slice B1 (cs.length - 1) k1) (by omega)
      replace Lr : Loc (W3.setCell ⟨go, 1, none⟩ (.slice B1 (cs.length - 1) k1)) (w.heap.size + 1) [.int .i64 0, .slice none 0 0, .slice none 0 0] := Lr.far (g := go) (i := 1) (u := .slice B1 (cs.length - 1) k1) (by omega)
      replace Lo : Loc (W3.setCell ⟨go, 1, none⟩ (.slice B1 (cs.length - 1) k1)) (go) [.int .i64 n, .slice B1 (cs.length - 1) k1, .slice B2 pl.length k2] := Lo.set (i := 1) (v := .slice B1 cs.length k1) rfl
      have hch : Chg [go] W3 (W3.setCell ⟨go, 1, none⟩ (.slice B1 (cs.length - 1) k1)) := chg_set (Chg.refl _ _) (by simp)
      have OK' := Lib.hid (OK.out.chg hch (fun x hx hx' => DK.out x hx (by simp at hx'; subst hx'; simp)))
      clear OK; have OK := OK'; clear OK'
      have FK' := Lib.hid (fresh_mono (w' := (W3.setCell ⟨go, 1, none⟩ (.slice B1 (cs.length - 1) k1))) FK.out (Nat.le_refl _) hch.size)
      clear FK; have FK := FK'; clear FK'
      replace hb : Below w.heap.size w (W3.setCell ⟨go, 1, none⟩ (.slice B1 (cs.length - 1) k1)) := Below.chg hb hch hb.size (by simp; omega)
      have hzc := hch.size
      clear hch
      generalize W3.setCell ⟨go, 1, none⟩ (.slice B1 (cs.length - 1) k1) = W4 at *
      have OK' := Lib.hid (take_own OK.out h0)
      clear OK; have OK := OK'; clear OK'
      have H0 := Lib.hid h0
      clear h0
      have o0 := (Lo 0 _ rfl).1
      have o1 := (Lo 1 _ rfl).1
      have o2 := (Lo 2 _ rfl).1
      have r0 := (Lr 0 _ rfl).1
      have rf0 := (Lr 0 _ rfl).2
      have r1 := (Lr 1 _ rfl).1
      have rf1 := (Lr 1 _ rfl).2
      have r2 := (Lr 2 _ rfl).1
      have rf2 := (Lr 2 _ rfl).2
      go_wp2_with fail
      refine bodyPost_ret (v := .tuple #[.agg #[.int .i64 n, .slice B1 (cs.length - 1) k1, .slice B2 pl.length k2], .bool true]) (by simp [results, Try.results47, go_sem, *]) rfl (take_t (by rw [takeB, hq.out]; exact decide_eq_true H0.out) ⟨_, _, S, rfl, ?_, ?_, ?_⟩)
      · exact OK.out.chg (T := [w.heap.size + 1]) (by repeat' (first | (with_reducible exact Chg.refl _ _) | (with_reducible refine chg_set ?_ (by simp)))) (fun x hx hx' => DK.out x hx (by simp at hx'; subst hx'; simp))
      · exact fresh_mono FK.out (by omega) (by simp)
      · exact Below.chg hb (S := [w.heap.size + 1]) (by repeat' (first | (with_reducible exact Chg.refl _ _) | (with_reducible refine chg_set ?_ (by simp)))) hb.size (by simp)
  · skip
    clear c0 c1 c2
    have hzq : W2.heap.size ≤ W3.heap.size := by have := q.size; (try simp at this); omega
    replace Lc := Lc.below q
    replace Lr := Lr.below q
    replace Lo := Lo.below q
    have OK' := Lib.hid (OK.out.below q)
    clear OK; have OK := OK'; clear OK'
    have FK' := Lib.hid (fresh_mono (w' := W3) FK.out (Nat.le_refl _) hzq)
    clear FK; have FK := FK'; clear FK'
    replace hb : Below w.heap.size w W3 := hb.trans (q.mono hb.size)
    clear q
    have o0 := (Lo 0 _ rfl).1
    have o1 := (Lo 1 _ rfl).1
    have o2 := (Lo 2 _ rfl).1
    have r0 := (Lr 0 _ rfl).1
    have rf0 := (Lr 0 _ rfl).2
    have r1 := (Lr 1 _ rfl).1
    have rf1 := (Lr 1 _ rfl).2
    have r2 := (Lr 2 _ rfl).1
    have rf2 := (Lr 2 _ rfl).2
    go_wp2_with fail
    refine bodyPost_ret (v := .tuple #[.agg #[.int .i64 n, .slice B1 cs.length k1, .slice B2 pl.length k2], .bool false]) (by simp [results, Try.results47, go_sem, *]) rfl (take_f (by rw [takeB, hq.out]; rfl) ⟨_, _, S, rfl, ?_, ?_, ?_⟩)
    · exact OK.out.chg (T := [w.heap.size + 1]) (by repeat' (first | (with_reducible exact Chg.refl _ _) | (with_reducible refine chg_set ?_ (by simp)))) (fun x hx hx' => DK.out x hx (by simp at hx'; subst hx'; simp))
    · exact fresh_mono FK.out (by omega) (by simp)
    · exact Below.chg hb (S := [w.heap.size + 1]) (by repeat' (first | (with_reducible exact Chg.refl _ _) | (with_reducible refine chg_set ?_ (by simp)))) hb.size (by simp)
end Go.Proofs.Ytjbhlbcjljdjmaa

namespace Go.Proofs.Ytjbhlbcjljdjmaa
open Go.RowKit
/-- A theatre as data. -/
structure Th where
  n : Int
  m : Int
  cs : List RCross
  pl : List RPl
  ds : List Int
def Th.ok (t : Th) : Bool := theatreB t.n t.m t.cs t.pl t.ds
def Th.sz (t : Th) : Nat := szTheatre t.cs t.pl t.ds
/-- A theatre and a Bool are returned, in blocks of the call's own from B on. -/
def RetT (B : Nat) (n m : Int) (ok : Bool) (cs : List RCross) (pl : List RPl) (ds : List Int) (w : World) (e : Ending) (w' : World) : Prop :=
  ∃ x1 x2 x3 S, e = .returned (.tuple #[.agg #[.int .i64 n, x1, x2, x3, .int .i64 m], .bool ok]) ∧ OwTheatre w' S x1 x2 x3 cs pl ds ∧ Fresh B w' S ∧ Below w.heap.size w w'
def RetTh (B : Nat) (r : Th × Bool) : World → Ending → World → Prop := RetT B r.1.n r.1.m r.2 r.1.cs r.1.pl r.1.ds
def becF (t u : Th) (ok : Bool) : Th × Bool := if t.ok = true ∧ ok = true ∧ u.ok = true then (u, true) else (t, false)
theorem theatreB_sz {n m : Int} {cs : List RCross} {pl : List RPl} {ds : List Int} (h : theatreB n m cs pl ds = true) : szTheatre cs pl ds ≤ 148 := by
  rw [theatreB, Bool.and_eq_true, Bool.and_eq_true] at h
  have h1 := companyB_sz h.1.1
  have h2 := h.1.2
  rw [keepsB, Bool.and_eq_true, Bool.and_eq_true] at h2
  have h3 := (season_bd h2.1.1).1
  unfold szTheatre
  omega
theorem bec_sz (t u : Th) (ok : Bool) : (becF t u ok).1.sz ≤ t.sz ∨ (becF t u ok).1.sz ≤ 148 := by
  unfold becF
  split
  · rename_i h; exact .inr (theatreB_sz h.2.2)
  · exact .inl (Nat.le_refl _)
theorem bec_t {B : Nat} {t u : Th} {ok : Bool} {w w' : World} {e : Ending} (h : t.ok = true ∧ ok = true ∧ u.ok = true) (hr : RetTh B (u, true) w e w') : RetTh B (becF t u ok) w e w' := by rw [becF, if_pos h]; exact hr
theorem bec_f {B : Nat} {t u : Th} {ok : Bool} {w w' : World} {e : Ending} (h : ¬ (t.ok = true ∧ ok = true ∧ u.ok = true)) (hr : RetTh B (t, false) w e w') : RetTh B (becF t u ok) w e w' := by rw [becF, if_neg h]; exact hr
set_option maxHeartbeats 8000000 in
set_option maxRecDepth 100000 in
theorem becomes_any (n m n' m' : Int) (v1 v2 v3 y1 y2 y3 : Value) (cs cs' : List RCross) (pl pl' : List RPl) (ds ds' : List Int) (ok : Bool) (B : Nat) (S : List Nat) (w : World) (h : RdTheatre w v1 v2 v3 cs pl ds) (hsz : szTheatre cs pl ds ≤ 1048576) (how : OwTheatre w S y1 y2 y3 cs' pl' ds') (hf : Fresh B w S) (hB : B ≤ w.heap.size) :
    Calls Try.prog 86 #[.agg #[.int .i64 n, v1, v2, v3, .int .i64 m], .agg #[.int .i64 n', y1, y2, y3, .int .i64 m'], .bool ok] w (RetTh B (becF ⟨n, m, cs, pl, ds⟩ ⟨n', m', cs', pl', ds'⟩ ok) w) := by
  obtain ⟨⟨A1, n1, rfl⟩, ⟨A2, n2, rfl⟩, ⟨A3, n3, rfl⟩⟩ := h.forms
  obtain ⟨⟨B1, k1, rfl⟩, ⟨B2, k2, rfl⟩, ⟨B3, k3, rfl⟩⟩ := how.rd.forms
  have Hok := Lib.hid how
  clear how
  go_enter Try.func86, Try.ntmps86
  go_wp2_with fail
  refine twoB (implTheatreOk_any n m _ _ _ cs pl ds _ (h.below (by (repeat' (first | (with_reducible exact Below.refl _ _) | (with_reducible assumption) | (with_reducible refine Below.setCell ?_ (by first | omega | (simp; omega) | (simp; done)) _) | (with_reducible refine Below.alloc ?_ (by first | omega | (simp; omega) | (simp; done)) _) | (with_reducible refine Below.drew ?_) | (with_reducible refine below_drewN ?_ _)))))) (fun W1 hq q => ?_) (fun W1 hq q => ?_)
  · skip
    have Lc : Loc W1 (w.heap.size) [.int .i64 n, .slice A1 cs.length n1, .slice A2 pl.length n2, .slice A3 ds.length n3, .int .i64 m] := by have := (((Loc.new w #[.int .i64 n, .slice A1 cs.length n1, .slice A2 pl.length n2, .slice A3 ds.length n3, .int .i64 m] 58).alloc _).alloc _).below q; simpa using this
    have Ld : Loc W1 (w.heap.size + 1) [.int .i64 n', .slice B1 cs'.length k1, .slice B2 pl'.length k2, .slice B3 ds'.length k3, .int .i64 m'] := by have := ((Loc.new (w.alloc (.cells #[.int .i64 n, .slice A1 cs.length n1, .slice A2 pl.length n2, .slice A3 ds.length n3, .int .i64 m] 58)) #[.int .i64 n', .slice B1 cs'.length k1, .slice B2 pl'.length k2, .slice B3 ds'.length k3, .int .i64 m'] 58).alloc _).below q; simpa using this
    have Lr : Loc W1 (w.heap.size + 1 + 1) [.int .i64 0, .slice none 0 0, .slice none 0 0, .slice none 0 0, .int .i64 0] := by have := (Loc.new ((w.alloc (.cells #[.int .i64 n, .slice A1 cs.length n1, .slice A2 pl.length n2, .slice A3 ds.length n3, .int .i64 m] 58)).alloc (.cells #[.int .i64 n', .slice B1 cs'.length k1, .slice B2 pl'.length k2, .slice B3 ds'.length k3, .int .i64 m'] 58)) #[.int .i64 0, .slice none 0 0, .slice none 0 0, .slice none 0 0, .int .i64 0] 58).below q; simpa using this
    have hb : Below w.heap.size w W1 := Below.trans (by (repeat' (first | (with_reducible exact Below.refl _ _) | (with_reducible assumption) | (with_reducible refine Below.setCell ?_ (by first | omega | (simp; omega) | (simp; done)) _) | (with_reducible refine Below.alloc ?_ (by first | omega | (simp; omega) | (simp; done)) _) | (with_reducible refine Below.drew ?_) | (with_reducible refine below_drewN ?_ _)))) (q.mono (by simp <;> omega))
    have hz0 : w.heap.size + 1 + 1 + 1 ≤ W1.heap.size := by have := q.size; simp at this; omega
    clear q
    have OK : Hid (OwTheatre W1 S _ _ _ cs' pl' ds') := Lib.hid (Hok.out.below hb)
    have FK : Hid (Fresh B W1 S) := Lib.hid (fresh_mono hf (Nat.le_refl _) hb.size)
    have DK : Hid (∀ x ∈ S, x ∉ [w.heap.size, w.heap.size + 1, w.heap.size + 1 + 1]) := (fun x hx => by have := (hf.2 x hx).2; simp; omega)
    cases ok
    · skip
      have c0 := (Lc 0 _ rfl).1
      have c1 := (Lc 1 _ rfl).1
      have c2 := (Lc 2 _ rfl).1
      have c3 := (Lc 3 _ rfl).1
      have c4 := (Lc 4 _ rfl).1
      go_wp2_with fail
      refine (theatreCopied_any n m _ _ _ cs pl ds _ (h.below hb) hsz).mono ?_
      rintro e W2 ⟨y1, y2, y3, T, rfl, ow6, f6, q⟩
      clear c0 c1 c2 c3 c4
      obtain ⟨⟨D1, e1, rfl⟩, ⟨D2, e2, rfl⟩, ⟨D3, e3, rfl⟩⟩ := ow6.rd.forms
      have hzq : W1.heap.size ≤ W2.heap.size := by have := q.size; (try simp at this); omega
      replace Lc := Lc.below q
      replace Ld := Ld.below q
      replace Lr := Lr.below q
      have OK' := Lib.hid (OK.out.below q)
      clear OK; have OK := OK'; clear OK'
      have FK' := Lib.hid (fresh_mono (w' := W2) FK.out (Nat.le_refl _) hzq)
      clear FK; have FK := FK'; clear FK'
      replace hb : Below w.heap.size w W2 := hb.trans (q.mono hb.size)
      have hlow : W1.heap.size ≤ W1.heap.size := by first | exact Nat.le_refl _ | (simp; done) | (simp; omega) | omega
      have FZ := Lib.hid (fresh_mono f6 hlow (Nat.le_refl _))
      have DZ : Hid (∀ x ∈ T, x ∉ [w.heap.size, w.heap.size + 1, w.heap.size + 1 + 1]) := (fun x hx => by have := (FZ.out.2 x hx).1; simp; omega)
      have OZ := Lib.hid ow6
      clear ow6 f6 hlow
      clear q
      have r0 := (Lr 0 _ rfl).1
      have rf0 := (Lr 0 _ rfl).2
      have r1 := (Lr 1 _ rfl).1
      have rf1 := (Lr 1 _ rfl).2
      have r2 := (Lr 2 _ rfl).1
      have rf2 := (Lr 2 _ rfl).2
      have r3 := (Lr 3 _ rfl).1
      have rf3 := (Lr 3 _ rfl).2
      have r4 := (Lr 4 _ rfl).1
      have rf4 := (Lr 4 _ rfl).2
      go_wp2_with fail
      refine bodyPost_ret (v := .tuple #[.agg #[.int .i64 n, .slice D1 cs.length e1, .slice D2 pl.length e2, .slice D3 ds.length e3, .int .i64 m], .bool false]) (by simp [results, Try.results86, go_sem, *]) rfl (bec_f (by simp) ⟨_, _, _, T, rfl, ?_, ?_, ?_⟩)
      · exact OZ.out.chg (T := [w.heap.size + 1 + 1]) (by repeat' (first | (with_reducible exact Chg.refl _ _) | (with_reducible refine chg_set ?_ (by simp)))) (fun x hx hx' => DZ.out x hx (by simp at hx'; subst hx'; simp))
      · exact fresh_mono FZ.out (by omega) (by simp)
      · exact Below.chg hb (S := [w.heap.size + 1 + 1]) (by repeat' (first | (with_reducible exact Chg.refl _ _) | (with_reducible refine chg_set ?_ (by simp)))) hb.size (fun x hx => by simp at hx; omega)
    · skip
      have d0 := (Ld 0 _ rfl).1
      have d1 := (Ld 1 _ rfl).1
      have d2 := (Ld 2 _ rfl).1
      have d3 := (Ld 3 _ rfl).1
      have d4 := (Ld 4 _ rfl).1
      go_wp2_with fail
      refine twoB (implTheatreOk_any n' m' _ _ _ cs' pl' ds' _ OK.out.rd) (fun W2 hq' q => ?_) (fun W2 hq' q => ?_)
      · skip
        clear d0 d1 d2 d3 d4
        have hzq : W1.heap.size ≤ W2.heap.size := by have := q.size; (try simp at this); omega
        replace Lc := Lc.below q
        replace Ld := Ld.below q
        replace Lr := Lr.below q
        have OK' := Lib.hid (OK.out.below q)
        clear OK; have OK := OK'; clear OK'
        have FK' := Lib.hid (fresh_mono (w' := W2) FK.out (Nat.le_refl _) hzq)
        clear FK; have FK := FK'; clear FK'
        replace hb : Below w.heap.size w W2 := hb.trans (q.mono hb.size)
        clear q
        have d0 := (Ld 0 _ rfl).1
        have d1 := (Ld 1 _ rfl).1
        have d2 := (Ld 2 _ rfl).1
        have d3 := (Ld 3 _ rfl).1
        have d4 := (Ld 4 _ rfl).1
        have r0 := (Lr 0 _ rfl).1
        have rf0 := (Lr 0 _ rfl).2
        have r1 := (Lr 1 _ rfl).1
        have rf1 := (Lr 1 _ rfl).2
        have r2 := (Lr 2 _ rfl).1
        have rf2 := (Lr 2 _ rfl).2
        have r3 := (Lr 3 _ rfl).1
        have rf3 := (Lr 3 _ rfl).2
        have r4 := (Lr 4 _ rfl).1
        have rf4 := (Lr 4 _ rfl).2
        go_wp2_with fail
        refine bodyPost_ret (v := .tuple #[.agg #[.int .i64 n', .slice B1 cs'.length k1, .slice B2 pl'.length k2, .slice B3 ds'.length k3, .int .i64 m'], .bool true]) (by simp [results, Try.results86, go_sem, *]) rfl (bec_t ⟨hq.out, rfl, hq'.out⟩ ⟨_, _, _, S, rfl, ?_, ?_, ?_⟩)
        · exact OK.out.chg (T := [w.heap.size + 1 + 1]) (by repeat' (first | (with_reducible exact Chg.refl _ _) | (with_reducible refine chg_set ?_ (by simp)))) (fun x hx hx' => DK.out x hx (by simp at hx'; subst hx'; simp))
        · exact fresh_mono FK.out (by omega) (by simp)
        · exact Below.chg hb (S := [w.heap.size + 1 + 1]) (by repeat' (first | (with_reducible exact Chg.refl _ _) | (with_reducible refine chg_set ?_ (by simp)))) hb.size (fun x hx => by simp at hx; omega)
      · skip
        clear d0 d1 d2 d3 d4
        have hzq : W1.heap.size ≤ W2.heap.size := by have := q.size; (try simp at this); omega
        replace Lc := Lc.below q
        replace Ld := Ld.below q
        replace Lr := Lr.below q
        have OK' := Lib.hid (OK.out.below q)
        clear OK; have OK := OK'; clear OK'
        have FK' := Lib.hid (fresh_mono (w' := W2) FK.out (Nat.le_refl _) hzq)
        clear FK; have FK := FK'; clear FK'
        replace hb : Below w.heap.size w W2 := hb.trans (q.mono hb.size)
        clear q
        have c0 := (Lc 0 _ rfl).1
        have c1 := (Lc 1 _ rfl).1
        have c2 := (Lc 2 _ rfl).1
        have c3 := (Lc 3 _ rfl).1
        have c4 := (Lc 4 _ rfl).1
        go_wp2_with fail
        refine (theatreCopied_any n m _ _ _ cs pl ds _ (h.below hb) hsz).mono ?_
        rintro e W3 ⟨y1, y2, y3, T, rfl, ow6, f6, q⟩
        clear c0 c1 c2 c3 c4
        obtain ⟨⟨D1, e1, rfl⟩, ⟨D2, e2, rfl⟩, ⟨D3, e3, rfl⟩⟩ := ow6.rd.forms
        have hzq : W2.heap.size ≤ W3.heap.size := by have := q.size; (try simp at this); omega
        replace Lc := Lc.below q
        replace Ld := Ld.below q
        replace Lr := Lr.below q
        have OK' := Lib.hid (OK.out.below q)
        clear OK; have OK := OK'; clear OK'
        have FK' := Lib.hid (fresh_mono (w' := W3) FK.out (Nat.le_refl _) hzq)
        clear FK; have FK := FK'; clear FK'
        replace hb : Below w.heap.size w W3 := hb.trans (q.mono hb.size)
        have hlow : W2.heap.size ≤ W2.heap.size := by first | exact Nat.le_refl _ | (simp; done) | (simp; omega) | omega
        have FZ := Lib.hid (fresh_mono f6 hlow (Nat.le_refl _))
        have DZ : Hid (∀ x ∈ T, x ∉ [w.heap.size, w.heap.size + 1, w.heap.size + 1 + 1]) := (fun x hx => by have := (FZ.out.2 x hx).1; simp; omega)
        have OZ := Lib.hid ow6
        clear ow6 f6 hlow
        clear q
        have r0 := (Lr 0 _ rfl).1
        have rf0 := (Lr 0 _ rfl).2
        have r1 := (Lr 1 _ rfl).1
        have rf1 := (Lr 1 _ rfl).2
        have r2 := (Lr 2 _ rfl).1
        have rf2 := (Lr 2 _ rfl).2
        have r3 := (Lr 3 _ rfl).1
        have rf3 := (Lr 3 _ rfl).2
        have r4 := (Lr 4 _ rfl).1
        have rf4 := (Lr 4 _ rfl).2
        go_wp2_with fail
        refine bodyPost_ret (v := .tuple #[.agg #[.int .i64 n, .slice D1 cs.length e1, .slice D2 pl.length e2, .slice D3 ds.length e3, .int .i64 m], .bool false]) (by simp [results, Try.results86, go_sem, *]) rfl (bec_f (fun hh => absurd (show theatreB n' m' cs' pl' ds' = true from hh.2.2) (by rw [hq'.out]; simp)) ⟨_, _, _, T, rfl, ?_, ?_, ?_⟩)
        · exact OZ.out.chg (T := [w.heap.size + 1 + 1]) (by repeat' (first | (with_reducible exact Chg.refl _ _) | (with_reducible refine chg_set ?_ (by simp)))) (fun x hx hx' => DZ.out x hx (by simp at hx'; subst hx'; simp))
        · exact fresh_mono FZ.out (by omega) (by simp)
        · exact Below.chg hb (S := [w.heap.size + 1 + 1]) (by repeat' (first | (with_reducible exact Chg.refl _ _) | (with_reducible refine chg_set ?_ (by simp)))) hb.size (fun x hx => by simp at hx; omega)
  · skip
    have Lc : Loc W1 (w.heap.size) [.int .i64 n, .slice A1 cs.length n1, .slice A2 pl.length n2, .slice A3 ds.length n3, .int .i64 m] := by have := (((Loc.new w #[.int .i64 n, .slice A1 cs.length n1, .slice A2 pl.length n2, .slice A3 ds.length n3, .int .i64 m] 58).alloc _).alloc _).below q; simpa using this
    have Ld : Loc W1 (w.heap.size + 1) [.int .i64 n', .slice B1 cs'.length k1, .slice B2 pl'.length k2, .slice B3 ds'.length k3, .int .i64 m'] := by have := ((Loc.new (w.alloc (.cells #[.int .i64 n, .slice A1 cs.length n1, .slice A2 pl.length n2, .slice A3 ds.length n3, .int .i64 m] 58)) #[.int .i64 n', .slice B1 cs'.length k1, .slice B2 pl'.length k2, .slice B3 ds'.length k3, .int .i64 m'] 58).alloc _).below q; simpa using this
    have Lr : Loc W1 (w.heap.size + 1 + 1) [.int .i64 0, .slice none 0 0, .slice none 0 0, .slice none 0 0, .int .i64 0] := by have := (Loc.new ((w.alloc (.cells #[.int .i64 n, .slice A1 cs.length n1, .slice A2 pl.length n2, .slice A3 ds.length n3, .int .i64 m] 58)).alloc (.cells #[.int .i64 n', .slice B1 cs'.length k1, .slice B2 pl'.length k2, .slice B3 ds'.length k3, .int .i64 m'] 58)) #[.int .i64 0, .slice none 0 0, .slice none 0 0, .slice none 0 0, .int .i64 0] 58).below q; simpa using this
    have hb : Below w.heap.size w W1 := Below.trans (by (repeat' (first | (with_reducible exact Below.refl _ _) | (with_reducible assumption) | (with_reducible refine Below.setCell ?_ (by first | omega | (simp; omega) | (simp; done)) _) | (with_reducible refine Below.alloc ?_ (by first | omega | (simp; omega) | (simp; done)) _) | (with_reducible refine Below.drew ?_) | (with_reducible refine below_drewN ?_ _)))) (q.mono (by simp <;> omega))
    have hz0 : w.heap.size + 1 + 1 + 1 ≤ W1.heap.size := by have := q.size; simp at this; omega
    clear q
    have OK : Hid (OwTheatre W1 S _ _ _ cs' pl' ds') := Lib.hid (Hok.out.below hb)
    have FK : Hid (Fresh B W1 S) := Lib.hid (fresh_mono hf (Nat.le_refl _) hb.size)
    have DK : Hid (∀ x ∈ S, x ∉ [w.heap.size, w.heap.size + 1, w.heap.size + 1 + 1]) := (fun x hx => by have := (hf.2 x hx).2; simp; omega)
    cases ok
    · skip
      have c0 := (Lc 0 _ rfl).1
      have c1 := (Lc 1 _ rfl).1
      have c2 := (Lc 2 _ rfl).1
      have c3 := (Lc 3 _ rfl).1
      have c4 := (Lc 4 _ rfl).1
      go_wp2_with fail
      refine (theatreCopied_any n m _ _ _ cs pl ds _ (h.below hb) hsz).mono ?_
      rintro e W2 ⟨y1, y2, y3, T, rfl, ow6, f6, q⟩
      clear c0 c1 c2 c3 c4
      obtain ⟨⟨D1, e1, rfl⟩, ⟨D2, e2, rfl⟩, ⟨D3, e3, rfl⟩⟩ := ow6.rd.forms
      have hzq : W1.heap.size ≤ W2.heap.size := by have := q.size; (try simp at this); omega
      replace Lc := Lc.below q
      replace Ld := Ld.below q
      replace Lr := Lr.below q
      have OK' := Lib.hid (OK.out.below q)
      clear OK; have OK := OK'; clear OK'
      have FK' := Lib.hid (fresh_mono (w' := W2) FK.out (Nat.le_refl _) hzq)
      clear FK; have FK := FK'; clear FK'
      replace hb : Below w.heap.size w W2 := hb.trans (q.mono hb.size)
      have hlow : W1.heap.size ≤ W1.heap.size := by first | exact Nat.le_refl _ | (simp; done) | (simp; omega) | omega
      have FZ := Lib.hid (fresh_mono f6 hlow (Nat.le_refl _))
      have DZ : Hid (∀ x ∈ T, x ∉ [w.heap.size, w.heap.size + 1, w.heap.size + 1 + 1]) := (fun x hx => by have := (FZ.out.2 x hx).1; simp; omega)
      have OZ := Lib.hid ow6
      clear ow6 f6 hlow
      clear q
      have r0 := (Lr 0 _ rfl).1
      have rf0 := (Lr 0 _ rfl).2
      have r1 := (Lr 1 _ rfl).1
      have rf1 := (Lr 1 _ rfl).2
      have r2 := (Lr 2 _ rfl).1
      have rf2 := (Lr 2 _ rfl).2
      have r3 := (Lr 3 _ rfl).1
      have rf3 := (Lr 3 _ rfl).2
      have r4 := (Lr 4 _ rfl).1
      have rf4 := (Lr 4 _ rfl).2
      go_wp2_with fail
      refine bodyPost_ret (v := .tuple #[.agg #[.int .i64 n, .slice D1 cs.length e1, .slice D2 pl.length e2, .slice D3 ds.length e3, .int .i64 m], .bool false]) (by simp [results, Try.results86, go_sem, *]) rfl (bec_f (fun hh => absurd (show theatreB n m cs pl ds = true from hh.1) (by rw [hq.out]; simp)) ⟨_, _, _, T, rfl, ?_, ?_, ?_⟩)
      · exact OZ.out.chg (T := [w.heap.size + 1 + 1]) (by repeat' (first | (with_reducible exact Chg.refl _ _) | (with_reducible refine chg_set ?_ (by simp)))) (fun x hx hx' => DZ.out x hx (by simp at hx'; subst hx'; simp))
      · exact fresh_mono FZ.out (by omega) (by simp)
      · exact Below.chg hb (S := [w.heap.size + 1 + 1]) (by repeat' (first | (with_reducible exact Chg.refl _ _) | (with_reducible refine chg_set ?_ (by simp)))) hb.size (fun x hx => by simp at hx; omega)
    · skip
      have c0 := (Lc 0 _ rfl).1
      have c1 := (Lc 1 _ rfl).1
      have c2 := (Lc 2 _ rfl).1
      have c3 := (Lc 3 _ rfl).1
      have c4 := (Lc 4 _ rfl).1
      go_wp2_with fail
      refine (theatreCopied_any n m _ _ _ cs pl ds _ (h.below hb) hsz).mono ?_
      rintro e W2 ⟨y1, y2, y3, T, rfl, ow6, f6, q⟩
      clear c0 c1 c2 c3 c4
      obtain ⟨⟨D1, e1, rfl⟩, ⟨D2, e2, rfl⟩, ⟨D3, e3, rfl⟩⟩ := ow6.rd.forms
      have hzq : W1.heap.size ≤ W2.heap.size := by have := q.size; (try simp at this); omega
      replace Lc := Lc.below q
      replace Ld := Ld.below q
      replace Lr := Lr.below q
      have OK' := Lib.hid (OK.out.below q)
      clear OK; have OK := OK'; clear OK'
      have FK' := Lib.hid (fresh_mono (w' := W2) FK.out (Nat.le_refl _) hzq)
      clear FK; have FK := FK'; clear FK'
      replace hb : Below w.heap.size w W2 := hb.trans (q.mono hb.size)
      have hlow : W1.heap.size ≤ W1.heap.size := by first | exact Nat.le_refl _ | (simp; done) | (simp; omega) | omega
      have FZ := Lib.hid (fresh_mono f6 hlow (Nat.le_refl _))
      have DZ : Hid (∀ x ∈ T, x ∉ [w.heap.size, w.heap.size + 1, w.heap.size + 1 + 1]) := (fun x hx => by have := (FZ.out.2 x hx).1; simp; omega)
      have OZ := Lib.hid ow6
      clear ow6 f6 hlow
      clear q
      have r0 := (Lr 0 _ rfl).1
      have rf0 := (Lr 0 _ rfl).2
      have r1 := (Lr 1 _ rfl).1
      have rf1 := (Lr 1 _ rfl).2
      have r2 := (Lr 2 _ rfl).1
      have rf2 := (Lr 2 _ rfl).2
      have r3 := (Lr 3 _ rfl).1
      have rf3 := (Lr 3 _ rfl).2
      have r4 := (Lr 4 _ rfl).1
      have rf4 := (Lr 4 _ rfl).2
      go_wp2_with fail
      refine bodyPost_ret (v := .tuple #[.agg #[.int .i64 n, .slice D1 cs.length e1, .slice D2 pl.length e2, .slice D3 ds.length e3, .int .i64 m], .bool false]) (by simp [results, Try.results86, go_sem, *]) rfl (bec_f (fun hh => absurd (show theatreB n m cs pl ds = true from hh.1) (by rw [hq.out]; simp)) ⟨_, _, _, T, rfl, ?_, ?_, ?_⟩)
      · exact OZ.out.chg (T := [w.heap.size + 1 + 1]) (by repeat' (first | (with_reducible exact Chg.refl _ _) | (with_reducible refine chg_set ?_ (by simp)))) (fun x hx hx' => DZ.out x hx (by simp at hx'; subst hx'; simp))
      · exact fresh_mono FZ.out (by omega) (by simp)
      · exact Below.chg hb (S := [w.heap.size + 1 + 1]) (by repeat' (first | (with_reducible exact Chg.refl _ _) | (with_reducible refine chg_set ?_ (by simp)))) hb.size (fun x hx => by simp at hx; omega)
def moveF (t : Th) (a : Int) (f : Bool) : Th × Bool := becF t ⟨t.n, t.m, withC t.n t.cs t.pl [(a, f)], t.pl, t.ds⟩ (withB t.n t.cs t.pl [(a, f)])
theorem with_ok {n m : Int} {cs l : List RCross} {pl : List RPl} {ds : List Int} (h : theatreB n m cs pl ds = true) (hw : withB n cs pl l = true) : theatreB n m (withC n cs pl l) pl ds = true := by
  rw [withC, hw]
  rw [withB, Bool.and_eq_true] at hw
  unfold theatreB at h ⊢
  rw [Bool.and_eq_true, Bool.and_eq_true] at h ⊢
  exact ⟨⟨hw.2, h.1.2⟩, h.2⟩
theorem becomes_eq {n m n' m' : Int} {v1 v2 v3 y1 y2 y3 : Value} {cs cs' : List RCross} {pl pl' : List RPl} {ds ds' : List Int} {ok : Bool} {B : Nat} {S : List Nat} {rn rm : Int} {rcs : List RCross} {rpl : List RPl} {rds : List Int} {rb : Bool} {w : World}
    (hr : becF ⟨n, m, cs, pl, ds⟩ ⟨n', m', cs', pl', ds'⟩ ok = (⟨rn, rm, rcs, rpl, rds⟩, rb)) (h : RdTheatre w v1 v2 v3 cs pl ds) (hsz : szTheatre cs pl ds ≤ 1048576) (how : OwTheatre w S y1 y2 y3 cs' pl' ds') (hf : Fresh B w S) (hB : B ≤ w.heap.size) :
    Calls Try.prog 86 #[.agg #[.int .i64 n, v1, v2, v3, .int .i64 m], .agg #[.int .i64 n', y1, y2, y3, .int .i64 m'], .bool ok] w (RetT B rn rm rb rcs rpl rds w) := by
  have := becomes_any n m n' m' v1 v2 v3 y1 y2 y3 cs cs' pl pl' ds ds' ok B S w h hsz how hf hB
  rw [hr] at this
  exact this
end Go.Proofs.Ytjbhlbcjljdjmaa

namespace Go.Proofs.Ytjbhlbcjljdjmaa
open Go.RowKit
/-- how many stand ahead of n -/
def atF (n : Int) : List Int → Nat
  | [] => 0
  | x :: l => if x < n then atF n l + 1 else 0
theorem atF_le (n : Int) (l : List Int) : atF n l ≤ l.length := by
  induction l with
  | nil => exact Nat.le_refl _
  | cons x l ih => unfold atF; split <;> simp; omega
theorem atF_of {n : Int} : ∀ (l : List Int) (k : Nat), k ≤ l.length → (∀ j (h : j < l.length), j < k → l[j] < n) → (∀ h : k < l.length, ¬ l[k] < n) → atF n l = k := by
  intro l
  induction l with
  | nil => intro k hk _ _; simp at hk; subst hk; rfl
  | cons x l ih =>
    intro k hk h1 h2
    cases k with
    | zero => have := h2 (by simp); simp only [List.getElem_cons_zero] at this; unfold atF; rw [if_neg this]
    | succ k =>
      have h0 := h1 0 (by simp) (by omega)
      simp only [List.getElem_cons_zero] at h0
      unfold atF
      rw [if_pos h0, ih k (by simpa using hk) (fun j hj hjk => by have := h1 (j + 1) (by simpa using hj) (by omega); simpa using this) (fun hk' => by have := h2 (by simpa using hk'); simpa using this)]
theorem putF_at (n : Int) (l : List Int) : putF n l = l.take (atF n l) ++ [n] ++ l.drop (atF n l) := by
  induction l with
  | nil => rfl
  | cons x l ih =>
    unfold putF atF
    by_cases h : x < n
    · rw [if_pos h, if_neg (show ¬ n ≤ x by omega), ih]; simp
    · rw [if_neg h, if_pos (show n ≤ x by omega)]; rfl
theorem putF_flat (n : Int) (l : List Int) : ((l.take (atF n l)).flatMap cInt ++ [.int .i64 n]) ++ (l.drop (atF n l)).flatMap cInt = (putF n l).flatMap cInt := by
  rw [putF_at, List.flatMap_append, List.flatMap_append]; rfl
/- days -/
def addF (l : List Int) (d : Int) : List Int × Bool := if seasonB l = true ∧ seasonB (putF d l) = true then (putF d l, true) else (l, false)
theorem addF_t {l : List Int} {d : Int} (h1 : seasonB l = true) (h2 : seasonB (putF d l) = true) : addF l d = (putF d l, true) := if_pos ⟨h1, h2⟩
theorem addF_f1 {l : List Int} {d : Int} (h : seasonB l = false) : addF l d = (l, false) := if_neg (by rw [h]; simp)
theorem addF_f2 {l : List Int} {d : Int} (h : seasonB (putF d l) = false) : addF l d = (l, false) := if_neg (by rw [h]; simp)
theorem addF_len (l : List Int) (d : Int) : (addF l d).1.length ≤ l.length ∨ (addF l d).1.length ≤ 60 := by
  unfold addF
  split
  · rename_i h; exact .inr (season_bd h.2).1
  · exact .inl (Nat.le_refl _)
/- players -/
def knowsB (p : RPl) (x : Int) : Bool := p.1.any (fun y => decide (y = x))
def teachB (pl : List RPl) (k p : Int) : Bool := ((playersB pl && inB k 0 (pl.length - 1)) && inB p 0 6) && !knowsB (pl.getD k.toNat ([], 0)) p
def teachF (pl : List RPl) (k p : Int) : List RPl × Bool := if teachB pl k p = true then (pl.set k.toNat (putF p (pl.getD k.toNat ([], 0)).1, (pl.getD k.toNat ([], 0)).2), true) else (pl, false)
theorem teachF_t {pl : List RPl} {k : Nat} {p : Int} (hk : k < pl.length) (h : teachB pl k p = true) : teachF pl k p = (pl.set k (putF p pl[k].1, pl[k].2), true) := by
  rw [teachF, if_pos h, show ((k : Int)).toNat = k from rfl, List.getD_eq_getElem?_getD, List.getElem?_eq_getElem hk]; rfl
theorem teachF_f {pl : List RPl} {k p : Int} (h : teachB pl k p = false) : teachF pl k p = (pl, false) := if_neg (by rw [h]; simp)
theorem teach_f1 {pl : List RPl} {k p : Int} (h : playersB pl = false) : teachB pl k p = false := by rw [teachB, h]; rfl
theorem teach_f2 {pl : List RPl} {k p : Int} (h : inB k 0 (pl.length - 1) = false) : teachB pl k p = false := by rw [teachB, h, Bool.and_false]; rfl
theorem teach_f3 {pl : List RPl} {k p : Int} (h : inB p 0 6 = false) : teachB pl k p = false := by rw [teachB, h, Bool.and_false]; rfl
theorem teach_v {pl : List RPl} {k : Nat} {p : Int} (hk : k < pl.length) (h1 : playersB pl = true) (h2 : inB k 0 (pl.length - 1) = true) (h3 : inB p 0 6 = true) : teachB pl k p = !knowsB pl[k] p := by
  rw [teachB, h1, h2, h3, show ((k : Int)).toNat = k from rfl, List.getD_eq_getElem?_getD, List.getElem?_eq_getElem hk]; rfl
def teachT (t : Th) (k p : Int) : Th × Bool := becF t ⟨t.n, wrap64 (t.m - 4), t.cs, (teachF t.pl k p).1, t.ds⟩ (teachF t.pl k p).2
end Go.Proofs.Ytjbhlbcjljdjmaa

namespace Go.Proofs.Ytjbhlbcjljdjmaa
open Go.RowKit
set_option maxHeartbeats 1000000 in
theorem l13Knows_any (u : Value) (r : List Int) (fr x : Int) (w : World) (h : RdL cInt 1 w u r) :
    Calls Try.prog 137 #[.agg #[u, .int .i64 fr], .int .i64 x] w fun e w' => e = .returned (.bool (knowsB (r, fr) x)) ∧ Below w.heap.size w w' := by
  obtain ⟨A, c, rfl, h1, h2⟩ := h.form
  go_enter Try.func137, Try.ntmps137
  go_upto_region 1 with (fail)
  have hbW : Below w.heap.size w (w.alloc (.cells #[.slice A r.length c, .int .i64 fr] 126)) := by (repeat' (first | (with_reducible exact Below.refl _ _) | (with_reducible assumption) | (with_reducible refine Below.setCell ?_ (by first | omega | (simp; omega) | (simp; done)) _) | (with_reducible refine Below.alloc ?_ (by first | omega | (simp; omega) | (simp; done)) _) | (with_reducible refine Below.drew ?_) | (with_reducible refine below_drewN ?_ _)))
  have Lb : Loc (w.alloc (.cells #[.slice A r.length c, .int .i64 fr] 126)) w.heap.size [.slice A r.length c, .int .i64 fr] := Loc.new w #[.slice A r.length c, .int .i64 fr] 126
  generalize w.alloc (.cells #[.slice A r.length c, .int .i64 fr] 126) = W at *
  have hW : RdL cInt 1 W (.slice A r.length c) r := h.below hbW
  have b0 := (Lb 0 _ rfl).1
  go_wp2_with fail
  go_loop [5] (fun i => ∃ k : Nat, k ≤ r.length ∧ i = .int .i64 k ∧ Hid ((r.take k).any (fun y => decide (y = x)) = false)) (fun i => r.length - (intOf i).toNat)
  case atStart => exact ⟨0, Nat.zero_le _, rfl, by rfl⟩
  case round =>
    obtain ⟨k, hk, rfl, hall⟩ := hrel
    by_cases hlt : k < r.length
    · obtain ⟨g, off, rfl, hg, hc⟩ := hW.cell cInt_len (by omega) hlt
      have k0 := hc 0 _ rfl
      simp only [Nat.add_zero, Nat.mul_one] at k0
      clear hc
      by_cases he : r[k] = x
      · have he' : (r[k] == x) = true := by rw [beq_iff_eq]; exact he
        have He := Lib.hid he
        clear he
        go_wp2_with fail
        go_ret
        exact ⟨ret_bool (any_true_at hlt (decide_eq_true He.out)).symm, hbW⟩
      · have he' : (r[k] == x) = false := by rw [beq_eq_false_iff_ne]; exact he
        have He := Lib.hid he
        clear he
        go_wp2_with fail
        go_round
        case rel => exact ⟨k + 1, by omega, by go_num, any_take_succ hlt hall.out (decide_eq_false He.out)⟩
        case measure => simp [intOf]; omega
    · go_wp2_with fail
      go_ret
      exact ⟨ret_bool (any_take_end hlt hall.out).symm, hbW⟩
end Go.Proofs.Ytjbhlbcjljdjmaa

namespace Go.Proofs.Ytjbhlbcjljdjmaa
open Go.RowKit
/-- whether player p can take puppet x under a load -/
def canAt (pl : List RPl) (x : Int) (ld : List Int) (p : Nat) : Bool := decide (ld.getD p 0 < (pl.getD p ([], 0)).2) && knowsB (pl.getD p ([], 0)) x
def bump (ld : List Int) (p : Nat) : List Int := ld.set p (ld.getD p 0 + 1)
/-- whether the puppets that are left can be cast -/
def canS (pl : List RPl) : List Int → List Int → Bool
  | [], _ => true
  | x :: ps, ld => (List.range pl.length).any (fun p => canAt pl x ld p && canS pl ps (bump ld p))
theorem bump_len (ld : List Int) (p : Nat) : (bump ld p).length = ld.length := by simp [bump]
def zeroL (n : Nat) : List Int := List.replicate n 0
def canF (pl : List RPl) (ps : List Int) : Bool := (playersB pl && strictB ps 0 6) && canS pl ps (zeroL pl.length)
theorem canF_f1 {pl : List RPl} {ps : List Int} (h : playersB pl = false) : canF pl ps = false := by rw [canF, h]; rfl
theorem canF_f2 {pl : List RPl} {ps : List Int} (h : strictB ps 0 6 = false) : canF pl ps = false := by rw [canF, h, Bool.and_false]; rfl
theorem canF_t {pl : List RPl} {ps : List Int} (h1 : playersB pl = true) (h2 : strictB ps 0 6 = true) : canF pl ps = canS pl ps (zeroL pl.length) := by rw [canF, h1, h2]; rfl
theorem canS_t {pl : List RPl} {x : Int} {ps ld : List Int} {p : Nat} (hp : p < pl.length) (h1 : canAt pl x ld p = true) (h2 : canS pl ps (bump ld p) = true) : canS pl (x :: ps) ld = true := by
  rw [canS, List.any_eq_true]
  exact ⟨p, List.mem_range.2 hp, by rw [h1, h2]; rfl⟩
/-- the first k players have been tried in vain -/
def TriedF (pl : List RPl) (x : Int) (ps ld : List Int) (k : Nat) : Prop := ∀ p, p < k → (canAt pl x ld p && canS pl ps (bump ld p)) = false
theorem TriedF.zero (pl : List RPl) (x : Int) (ps ld : List Int) : TriedF pl x ps ld 0 := fun p h => absurd h (by omega)
theorem TriedF.no {pl : List RPl} {x : Int} {ps ld : List Int} {k : Nat} (h : TriedF pl x ps ld k) (h1 : canAt pl x ld k = false) : TriedF pl x ps ld (k + 1) := fun p hp => by
  rcases Nat.lt_succ_iff_lt_or_eq.1 hp with h2 | rfl
  · exact h p h2
  · rw [h1]; rfl
theorem TriedF.sub {pl : List RPl} {x : Int} {ps ld : List Int} {k : Nat} (h : TriedF pl x ps ld k) (h1 : canS pl ps (bump ld k) = false) : TriedF pl x ps ld (k + 1) := fun p hp => by
  rcases Nat.lt_succ_iff_lt_or_eq.1 hp with h2 | rfl
  · exact h p h2
  · rw [h1, Bool.and_false]
theorem TriedF.end_ {pl : List RPl} {x : Int} {ps ld : List Int} (h : TriedF pl x ps ld pl.length) : canS pl (x :: ps) ld = false := by
  rw [canS]
  exact Bool.eq_false_iff.2 (fun h2 => by
    obtain ⟨p, hp, h3⟩ := List.any_eq_true.1 h2
    rw [h p (List.mem_range.1 hp)] at h3
    exact absurd h3 (by simp))
theorem canAt_eq {pl : List RPl} {x : Int} {ld : List Int} {p : Nat} (hp : p < pl.length) (hl : p < ld.length) : canAt pl x ld p = (decide (ld[p] < pl[p].2) && knowsB pl[p] x) := by
  unfold canAt
  rw [List.getD_eq_getElem?_getD, List.getElem?_eq_getElem hl, List.getD_eq_getElem?_getD, List.getElem?_eq_getElem hp]; rfl
theorem bump_eq {ld : List Int} {p : Nat} (hl : p < ld.length) : bump ld p = ld.set p (ld[p] + 1) := by
  unfold bump
  rw [List.getD_eq_getElem?_getD, List.getElem?_eq_getElem hl]; rfl
theorem unbump {ld : List Int} {p : Nat} (hl : p < ld.length) : (bump ld p).set p ld[p] = ld := by
  rw [bump_eq hl, List.set_set, List.set_getElem_self]
/-- why a company does not play -/
def whyF (n : Int) (cs : List RCross) (pl : List RPl) : Int :=
  if companyB n cs pl = true then (if orderF n.toNat cs = upN n.toNat then (if woundL n.toNat cs = [] then (if canF pl (upN n.toNat) = true then 0 else 3) else 2) else 1) else -1
theorem whyF_m {n : Int} {cs : List RCross} {pl : List RPl} (h : companyB n cs pl = false) : whyF n cs pl = -1 := if_neg (by rw [h]; simp)
theorem whyF_1 {n : Int} {cs : List RCross} {pl : List RPl} (h : companyB n cs pl = true) (h1 : ¬ orderF n.toNat cs = upN n.toNat) : whyF n cs pl = 1 := by rw [whyF, if_pos h, if_neg h1]
theorem whyF_2 {n : Int} {cs : List RCross} {pl : List RPl} (h : companyB n cs pl = true) (h1 : orderF n.toNat cs = upN n.toNat) (h2 : ¬ woundL n.toNat cs = []) : whyF n cs pl = 2 := by rw [whyF, if_pos h, if_pos h1, if_neg h2]
theorem whyF_3 {n : Int} {cs : List RCross} {pl : List RPl} (h : companyB n cs pl = true) (h1 : orderF n.toNat cs = upN n.toNat) (h2 : woundL n.toNat cs = []) (h3 : canF pl (upN n.toNat) = false) : whyF n cs pl = 3 := by rw [whyF, if_pos h, if_pos h1, if_pos h2, if_neg (by rw [h3]; simp)]
theorem whyF_0 {n : Int} {cs : List RCross} {pl : List RPl} (h : companyB n cs pl = true) (h1 : orderF n.toNat cs = upN n.toNat) (h2 : woundL n.toNat cs = []) (h3 : canF pl (upN n.toNat) = true) : whyF n cs pl = 0 := by rw [whyF, if_pos h, if_pos h1, if_pos h2, if_pos h3]
end Go.Proofs.Ytjbhlbcjljdjmaa

namespace Go.Proofs.Ytjbhlbcjljdjmaa
open Go.RowKit
def slLen : Value → Nat
  | .slice _ n _ => n
  | _ => 0
def boolN : Value → Nat
  | .bool b => if b = true then 1 else 0
  | _ => 0
/-- the blocks of two rows lie apart -/
def Apart (v u : Value) : Prop := ∀ b ∈ v.ownBlock.toList, b ∉ u.ownBlock.toList
/-- how far the exchanges are: d done, o the order now -/
structure SortSt (m : Nat) (l d o : List Int) : Prop where
  ord : IsOrd m o
  eq : swapsF l = d ++ swapsF o
theorem SortSt.len {m : Nat} {l d o : List Int} (h : SortSt m l d o) : d.length + inv o = inv l := by
  have := congrArg List.length h.eq
  rw [swapsF_len, List.length_append, swapsF_len] at this
  exact this.symm
theorem SortSt.step {m : Nat} {l d o : List Int} (h : SortSt m l d o) {k : Nat} (hk : FirstDesc o k) : SortSt m l (d ++ [(k : Int)]) (swapL o k) := by
  refine ⟨h.ord.swap (by have := hk.lt; rwa [h.ord.len] at this), ?_⟩
  rw [h.eq, swapsF_step hk, List.append_assoc]; rfl
theorem inv_49 {m : Nat} {l : List Int} (h : IsOrd m l) (hm : m ≤ 7) : inv l ≤ 49 := by
  have h1 := inv_le l
  rw [h.len] at h1
  have : m * m ≤ 7 * 7 := Nat.mul_le_mul hm hm
  omega
theorem SortSt.end_ {m : Nat} {l d o : List Int} (h : SortSt m l d o) (h0 : inv o = 0) : swapsF l = d := by rw [h.eq, swapsF_zero h0, List.append_nil]
def UpTo (o : List Int) (k : Nat) : Prop := ∀ j (_ : j < k) (h : j + 1 < o.length), o[j] < o[j + 1]
theorem UpTo.zero (o : List Int) : UpTo o 0 := fun j h => absurd h (by omega)
theorem UpTo.succ {o : List Int} {k : Nat} (h : UpTo o k) (hk : k + 1 < o.length) (hx : o[k] < o[k + 1]) : UpTo o (k + 1) := fun j hj h1 => by
  rcases Nat.lt_succ_iff_lt_or_eq.1 hj with h2 | rfl
  · exact h j h2 h1
  · exact hx
theorem UpTo.all {o : List Int} {k : Nat} (h : UpTo o k) (hk : o.length ≤ k + 1) : inv o = 0 := no_desc o (fun j hj => h j (by omega) hj)
theorem UpTo.first {m : Nat} {o : List Int} {k : Nat} (h : UpTo o k) (ho : IsOrd m o) (hk : k + 1 < o.length) (hx : ¬ o[k] < o[k + 1]) : FirstDesc o k :=
  ⟨hk, fun j hj => h j hj (by omega), by have := ho.ne (i := k) (j := k + 1) (by omega) hk (by omega); omega⟩
theorem own_lt {w : World} {B : Nat} {e : TypeId} {size n : Nat} {v : Value} {xs : List Value} (h : w.ownsRow B e size v n xs) : ∀ b ∈ v.ownBlock.toList, B ≤ b ∧ b < w.heap.size := fun b hb => (fresh_of h).2 b hb
/-- a row that has come up later lies apart from one that stood before -/
theorem apart_new {w w' : World} {B B' n n' : Nat} {e e' : TypeId} {size size' : Nat} {v u : Value} {xs xs' : List Value} (h : w'.ownsRow B e size v n xs) (hu : w.ownsRow B' e' size' u n' xs') (hB : w.heap.size ≤ B) : Apart v u := fun b hb hb' => by
  have h1 := (own_lt h b hb).1
  have h2 := (own_lt hu b hb').2
  omega
/-- what a row is apart from, may grow -/
theorem apart_grow {w : World} {B n : Nat} {e : TypeId} {size : Nat} {v u u' : Value} {xs : List Value} (h : w.ownsRow B e size v n xs) (hap : Apart v u) {N : Nat} (hN : w.heap.size ≤ N) (hat : u'.ownBlock = u.ownBlock ∨ u'.ownBlock = some N) : Apart v u' := fun b hb hb' => by
  rcases hat with e | e
  · rw [e] at hb'; exact hap b hb hb'
  · rw [e] at hb'
    have h1 := (own_lt h b hb).2
    simp at hb'
    omega
set_option maxHeartbeats 4000000 in
set_option maxRecDepth 100000 in
theorem specSorting_any (m : Nat) (v : Value) (l : List Int) (w : World) (h : RdL cInt 1 w v l) (hord : IsOrd m l) (hm : 1 ≤ m ∧ m ≤ 7) :
    Calls Try.prog 151 #[v] w fun e w' => ∃ v', e = .returned v' ∧ w'.ownsRow w.heap.size 3 1 v' (swapsF l).length ((swapsF l).flatMap cInt) ∧ Below w.heap.size w w' := by
  have h0 := h
  obtain ⟨A, c, rfl, h1, h2⟩ := h.form
  obtain ⟨iI, hiI, hzI0, hzI1, hzI2⟩ := info_parts infoInt
  have hl7 : l.length ≤ 7 := by rw [hord.len]; omega
  have hi49 := inv_49 hord hm.2
  have HO := Lib.hid hord
  have HS0 : Hid (SortSt m l [] l) := ⟨hord, rfl⟩
  clear hord
  have hownA := World.ownsRow_made (size := 1) (e := 3) w #[] 0 (Nat.le_refl _) (by simp [maxLen]) rfl
  have hown1 : ((w.alloc (.cells #[] 3)).alloc (.cells #[] 3)).ownsRow (w.heap.size + 1) 3 1 (.slice (some ⟨w.heap.size + 1, 0, none⟩) 0 0) 0 [] := by
    have := World.ownsRow_made (size := 1) (e := 3) (w.alloc (.cells #[] 3)) #[] 0 (Nat.le_refl _) (by simp [maxLen]) rfl
    simpa using this
  have hownB := hownA.alloc (.cells #[] 3)
  have hal : Below w.heap.size w ((w.alloc (.cells #[] 3)).alloc (.cells #[] 3)) := ((Below.refl _ _).alloc (Nat.le_refl _) _).alloc (by simp) _
  have h3 := h0.below hal
  go_enter Try.func151, Try.ntmps151
  go_wp2_with (at_builtin; refine wpList_append_empty _ rfl (.tmp 7) (.tmp 8) _ rfl (w.heap.size + 1) 3 iI _ 1 8 Try.underlying28 hiI hzI0 hzI1 hzI2 rfl (by omega) (w.heap.size + 1) rfl hown1 _ l.length (l.flatMap cInt) rfl h3 (oneCell_flat cInt_one l) (by simp [maxLen] <;> omega) (by omega) (by simp) ?_; intro v1 w1 own1 b1 at1)
  have hb1 : Below w.heap.size w w1 := Below.trans hal (b1.mono (by simp <;> omega))
  have hz1 := hb1.size
  have hp1 := own_below hownB b1
  have hap1 : Apart v1 (.slice (some ⟨w.heap.size, 0, none⟩) 0 0) := fun b hb hb' => by
    have := (own_lt own1 b hb).1
    simp [Value.ownBlock] at hb'
    omega
  have HAP := Lib.hid hap1
  have own1' := own_mono own1 (Nat.zero_le _)
  clear hownA hown1 hownB hal h3 b1 at1 own1 hap1
  obtain ⟨A1, c1, rfl, _, _⟩ := (RdS.of_own own1').form
  go_wp2_with fail
  go_loopw [3, 4, 5] (fun p q _ wr => ∃ d o : List Int, wr.ownsRow w.heap.size 3 1 p d.length (d.flatMap cInt) ∧ wr.ownsRow 0 3 1 q o.length (o.flatMap cInt) ∧ Hid (Apart q p) ∧ Hid (SortSt m l d o) ∧ Below w.heap.size w wr) (fun p _ _ _ => 49 - slLen p)
  case atStart => exact ⟨[], l, hp1, own1', HAP, HS0, hb1⟩
  case round =>
    obtain ⟨d, o, hp, hq, hap, hst, hb⟩ := hrel
    clear hp1 own1' HAP HS0 hb1 hz1
    have hrq : RdL cInt 1 wr _ o := RdS.of_own hq
    obtain ⟨Ap, cp, rfl, _, _⟩ := (RdS.of_own hp).form
    obtain ⟨Aq, cq, rfl, _, _⟩ := hrq.form
    have hsl := hst.out.len
    have hol : o.length ≤ 7 := by rw [hst.out.ord.len]; omega
    have Hok := Lib.hid (hst.out.ord.okB hm)
    have hz := hb.size
    have hC := specCountInv_any _ o wr hrq Hok.out
    obtain ⟨I, hI⟩ : ∃ I, inv o = I := ⟨_, rfl⟩
    rw [hI] at hC hsl
    have HI := Lib.hid hI
    clear hI
    have hd49 : d.length + I ≤ 49 := by omega
    clear hsl
    go_wp2_with fail
    refine hC.mono ?_
    rintro e w2 ⟨rfl, hb2⟩
    have hz2 := hb2.size
    have hp2 := own_below hp hb2
    have hq2 := own_below hq hb2
    have hrq2 : RdL cInt 1 w2 _ o := RdS.of_own hq2
    have hbb : Below w.heap.size w w2 := bl_trans hb hb2
    clear hp hq hC hb hb2
    by_cases hI0 : I = 0
    · subst hI0
      clear hd49
      go_wp2_with fail
      go_ret
      rw [hst.out.end_ HI.out]
      exact ⟨_, rfl, hp2, hbb⟩
    · have hI1 : 0 < I := by omega
      have hol2 : 2 ≤ o.length := by
        apply Classical.byContradiction
        intro hn
        have := (UpTo.zero o).all (by omega)
        rw [HI.out] at this
        omega
      clear hI0
      have hIi : (0 : Int) < (I : Int) := by omega
      go_wp2_with fail
      go_loopw [5] (fun i wi => ∃ (k d2 : Nat), i = .int .i64 k ∧ k + 1 < o.length ∧ Hid (UpTo o k) ∧ wi = w2.drewN d2) (fun i _ => 7 - (intOf i).toNat)
      case atStart => exact ⟨0, 0, rfl, by omega, UpTo.zero o, rfl⟩
      case round =>
        obtain ⟨k, d2, rfl, hk, hup, rfl⟩ := hrel
        obtain ⟨g1, off1, rfl, hg1, hc1⟩ := hrq2.cell (k := k) cInt_len (by omega) (by omega)
        obtain ⟨g2, off2, hA2, hg2, hc2⟩ := hrq2.cell (k := k + 1) cInt_len (by omega) hk
        injection hA2 with hA2
        injection hA2 with e1 e2
        subst e1 e2
        have k1 := hc1 0 _ rfl
        have k2 := hc2 0 _ rfl
        simp only [Nat.add_zero, Nat.mul_one] at k1 k2
        clear hc1 hc2
        have e1 : ((k : Int) + 1).toNat = k + 1 := by omega
        have HX : Hid (o[k] < o[k + 1] → UpTo o (k + 1)) := fun hx => hup.out.succ hk hx
        have HY : Hid (¬ o[k] < o[k + 1] → FirstDesc o k) := fun hx => hup.out.first hst.out.ord hk hx
        by_cases hx : o[k] < o[k + 1]
        · have hk2 : k + 1 + 1 < o.length := by
            apply Classical.byContradiction
            intro hn
            have := (HX.out hx).all (by omega)
            rw [HI.out] at this
            omega
          have hxu := HX.out hx
          have HXU := Lib.hid hxu
          clear hxu HX HY
          have hx' : decide (o[k] < o[k + 1]) = true := decide_eq_true hx
          generalize o[k + 1] = y at *
          generalize o[k] = x at *
          go_wp2_with fail
          go_quiet (fail)
          rename_i nq
          go_wp2_with fail
          go_roundw
          case rel => exact ⟨k + 1, _, by go_num, hk2, HXU.out, rfl⟩
          case measure => simp [intOf]; omega
        · have hfd := HY.out hx
          have HFD := Lib.hid hfd
          clear hfd HX HY
          have hx' : decide (o[k] < o[k + 1]) = false := decide_eq_false hx
          generalize o[k + 1] = y at *
          generalize o[k] = x at *
          go_wp2_with fail
          go_quiet (fail)
          rename_i nq
          have hq3 := own_below hq2 (below_drewN (Below.refl w2.heap.size w2) nq)
          go_wp2_with fail
          refine (specSwap_any _ o k _ (hrq2.below (below_drewN (Below.refl _ _) _)) Hok.out hk).mono ?_
          rintro e w3 ⟨v3, rfl, own3, hb3⟩
          obtain ⟨A3, c3, rfl, _, _⟩ := (RdS.of_own own3).form
          have hb23 : Below w2.heap.size w2 w3 := bl_trans (below_drewN (Below.refl _ _) _) hb3
          have hz3 := hb23.size
          have hp3 := own_below hp2 hb23
          have own3' : w3.ownsRow w2.heap.size 3 1 (.slice A3 o.length c3) (swapL o k).length ((swapL o k).flatMap cInt) := by rw [swapL_len]; exact own_mono own3 (by simp)
          have hap3 := Lib.hid (apart_new own3' hp2 (Nat.le_refl _))
          have hbb3 : Below w.heap.size w w3 := bl_trans hbb hb23
          have HS3 : Hid (SortSt m l (d ++ [(k : Int)]) (swapL o k)) := hst.out.step HFD.out
          have H3 := Lib.hid own3'
          clear own3 own3' hb3 hb23 hq3 hq2 hrq2 hrq
          go_wp2_with (at_builtin; refine wpList_appendB _ rfl (.tmp 31) (.tmp 33) _ rfl w.heap.size 3 iI _ 1 8 Try.underlying28 hiI hzI0 hzI1 hzI2 rfl (by omega) _ d.length (d.flatMap cInt) rfl (hp3.alloc _) _ 1 [.int .i64 k] rfl (rdS_new w3 #[.int .i64 k] _ 1 1 rfl (by simp [maxLen])) (by simp [Value.oneCell']) (by simp [maxLen]; omega) (by omega) (by simp; omega) ?_; intro v4 w4 own4 gr4 at4)
          obtain ⟨A4, c4, rfl, _, _⟩ := (RdS.of_own own4).form
          have hch := Chg.of_grown gr4
          have hb4 := below_own (hp3.alloc _) gr4 (by simp; omega)
          have q4 := Lib.hid (own_chg (H3.out.alloc _) hch hap3.out)
          have ap4 := Lib.hid (apart_grow (H3.out.alloc _) hap3.out (Nat.le_refl _) at4)
          clear gr4 at4 hch
          go_wp2_with fail
          go_roundw
          case rel => exact ⟨d ++ [(k : Int)], swapL o k, by rw [List.length_append, List.flatMap_append]; exact own4, own_mono q4.out (Nat.zero_le _), ap4.out, HS3.out, (hbb3.alloc (by omega) _).trans hb4⟩
          case measure => simp [slLen]; omega
/-- what leads home, from the first k exchanges -/
def wayL (sw : List Int) : List RCross := sw.map (fun k => (k, true))
theorem wayL_snoc (sw : List Int) {k : Nat} (h : k < sw.length) : wayL (sw.take (k + 1)) = wayL (sw.take k) ++ [(sw[k], true)] := by unfold wayL; rw [take_snoc_l sw h, List.map_append]; rfl
theorem wayL_len (sw : List Int) : (wayL sw).length = sw.length := by simp [wayL]
set_option maxHeartbeats 4000000 in
set_option maxRecDepth 100000 in
theorem specBringHome_any (n : Int) (v : Value) (cs : List RCross) (w : World) (h : RdL cCross 2 w v cs) :
    Calls Try.prog 132 #[.int .i64 n, v] w fun e w' => ∃ v', e = .returned (.tuple #[v', .bool (crossesB n cs)]) ∧ w'.ownsRow w.heap.size 115 2 v' (homeL n cs).length ((homeL n cs).flatMap cCross) ∧ Below w.heap.size w w' := by
  have h0 := h
  obtain ⟨A, c, rfl, h1, h2⟩ := h.form
  obtain ⟨iX, hiX, hzX0, hzX1, hzX2⟩ := info_parts infoCross
  have hownA := World.ownsRow_made (size := 2) (e := 115) w #[] 0 (Nat.le_refl _) (by simp [maxLen]) rfl
  have hal : Below w.heap.size w (w.alloc (.cells #[] 115)) := (Below.refl _ _).alloc (Nat.le_refl _) _
  have h3 := h0.below hal
  go_enter Try.func132, Try.ntmps132
  go_wp2_with fail
  refine twoB (specCrossesOk_any n _ cs _ h3) (fun w1 hq hb1 => ?_) (fun w1 hq hb1 => ?_)
  · obtain ⟨hn, hlen, hcs⟩ := crosses_len hq.out
    obtain ⟨m, rfl⟩ := Int.eq_ofNat_of_zero_le (show 0 ≤ n by omega)
    have hm : 1 ≤ m ∧ m ≤ 7 := by omega
    have hz1 := hb1.size
    simp at hz1
    have hb01 : Below w.heap.size w w1 := bl_trans hal hb1
    have hown1 := own_below hownA hb1
    have hO := specOrderAfter_any (m : Int) _ cs w1 (h0.below hb01)
    rw [ordR_t hq.out] at hO
    have HOrd := Lib.hid (IsOrd.order hcs)
    have HQ := Lib.hid hq.out
    have HH := Lib.hid (homeL_t hq.out)
    have Hm := Lib.hid hm
    clear hal h3 hownA hb1 hq hcs hn
    go_wp2_with fail
    refine hO.mono ?_
    rintro e w2 ⟨v2, rfl, own2, hb2⟩
    have hr2 : RdL cInt 1 w2 v2 (orderF m cs) := RdS.of_own own2
    have hb02 : Below w.heap.size w w2 := bl_trans hb01 hb2
    have hz2 := hb2.size
    have hown2 := own_below hown1 hb2
    clear own2 hb2 hO hown1 hb01
    obtain ⟨A2, c2, rfl, _, _⟩ := hr2.form
    have hi49 := inv_49 HOrd.out Hm.out.2
    rw [← swapsF_len] at hi49
    go_wp2_with fail
    refine (specSorting_any m _ (orderF m cs) _ hr2 HOrd.out Hm.out).mono ?_
    rintro e w3 ⟨v3, rfl, own3, hb3⟩
    have hb03 : Below w.heap.size w w3 := bl_trans hb02 hb3
    have hz3 := hb3.size
    have hown3 := own_below hown2 hb3
    have hap3 := Lib.hid (apart_new own3 hown2 (Nat.le_refl _))
    have own3' := own_mono own3 (Nat.zero_le _)
    obtain ⟨sw, hsw⟩ : ∃ sw, swapsF (orderF m cs) = sw := ⟨_, rfl⟩
    rw [hsw] at own3' hi49
    have HH2 : Hid (homeL (m : Int) cs = wayL sw) := by rw [← hsw]; exact HH.out
    clear own3 hb3 hr2 hown2 hb02 HH hsw
    obtain ⟨A3, c3, rfl, _, _⟩ := (RdS.of_own own3').form
    go_wp2_with fail
    go_loopw [6, 8] (fun p i wr => ∃ k : Nat, k ≤ sw.length ∧ i = .int .i64 k ∧ wr.ownsRow w.heap.size 115 2 p k ((wayL (sw.take k)).flatMap cCross) ∧ wr.ownsRow 0 3 1 (.slice A3 sw.length c3) sw.length (sw.flatMap cInt) ∧ Hid (Apart (.slice A3 sw.length c3) p) ∧ Below w.heap.size w wr) (fun _ i _ => sw.length - (intOf i).toNat)
    case atStart => exact ⟨0, Nat.zero_le _, rfl, hown3, own3', hap3, hb03⟩
    case round =>
      obtain ⟨k, hk, rfl, hp, hs, hap, hb⟩ := hrel
      clear hown3 own3' hap3 hb03
      have hz := hb.size
      obtain ⟨Ap, cp, rfl, _, _⟩ := (RdS.of_own hp).form
      by_cases hlt : k < sw.length
      · have hrs : RdL cInt 1 wr (.slice A3 sw.length c3) sw := RdS.of_own hs
        obtain ⟨g, off, rfl, hg, hc⟩ := hrs.cell cInt_len (by omega) hlt
        have k0 := hc 0 _ rfl
        simp only [Nat.add_zero, Nat.mul_one] at k0
        clear hc
        have Hw := Lib.hid (wayL_snoc sw hlt)
        generalize sw[k] = x at *
        go_wp2_with (at_builtin; refine wpList_appendB _ rfl (.tmp 25) (.tmp 31) _ rfl w.heap.size 115 iX _ 2 16 Try.underlying44 hiX hzX0 hzX1 hzX2 rfl (by omega) _ k ((wayL (sw.take k)).flatMap cCross) rfl (hp.alloc _) _ 1 [.int .i64 x, .bool true] rfl (rdS_new wr #[.int .i64 x, .bool true] _ 2 1 rfl (by simp [maxLen])) (by simp [Value.oneCell']) (by simp [maxLen]; omega) (by omega) (by simp; omega) ?_; intro v4 w4 own4 gr4 at4)
        obtain ⟨A4, c4, rfl, _, _⟩ := (RdS.of_own own4).form
        have hch := Chg.of_grown gr4
        have hb4 := below_own (hp.alloc _) gr4 (by simp; omega)
        have q4 := Lib.hid (own_chg (hs.alloc _) hch hap.out)
        have ap4 := Lib.hid (apart_grow (hs.alloc _) hap.out (Nat.le_refl _) at4)
        clear gr4 at4 hch
        go_wp2_with fail
        go_roundw
        case rel => exact ⟨k + 1, by omega, by go_num, by rw [Hw.out, List.flatMap_append]; exact own4, q4.out, ap4.out, (hb.alloc (by omega) _).trans hb4⟩
        case measure => simp [intOf]; omega
      · obtain rfl : k = sw.length := by omega
        rw [List.take_length] at hp
        go_wp2_with fail
        go_ret2
        rw [HQ.out, HH2.out, wayL_len]
        exact ⟨_, rfl, hp, hb⟩
  · have hb01 : Below w.heap.size w w1 := bl_trans hal hb1
    have hown1 := own_below hownA hb1
    clear hal h3 hownA hb1
    go_wp2_with fail
    go_ret2
    rw [hq.out, homeL_f hq.out]
    exact ⟨_, rfl, hown1, hb01⟩
end Go.Proofs.Ytjbhlbcjljdjmaa

namespace Go.Proofs.Ytjbhlbcjljdjmaa
open Go.RowKit
theorem knows_ix (p : RPl) (x : Int) : knowsB p x = true ↔ 0 ≤ idxF p.1 x := by
  unfold knowsB
  rw [List.any_eq_true]
  constructor
  · rintro ⟨y, hy, e⟩
    have := of_decide_eq_true e
    subst this
    rw [idxF_mem hy]; omega
  · intro h
    apply Classical.byContradiction
    intro hno
    have : idxF p.1 x = -1 := idxF_none (List.all_eq_true.2 (fun y hy => neB_t (fun e => hno ⟨y, hy, decide_eq_true e⟩)))
    omega
theorem playersB_fr {pl : List RPl} (h : playersB pl = true) : ∀ r ∈ pl, 0 ≤ r.2 ∧ r.2 ≤ 2 := fun r hr => by
  rw [playersB, Bool.and_eq_true] at h
  have := List.all_eq_true.1 h.1 r hr
  rw [playerB, Bool.and_eq_true] at this
  exact inB_iff.1 this.2
def RetCast (b : Bool) (w : World) (e : Ending) (w' : World) : Prop := ∃ vo, e = .returned (.tuple #[vo, .bool b]) ∧ Below w.heap.size w w'
/-- the load is ld, so that fr hands are free -/
structure Hands (pl : List RPl) (ld fr : List Int) : Prop where
  l1 : ld.length = pl.length
  l2 : fr.length = pl.length
  at_ : ∀ p (h : p < pl.length) (h1 : p < ld.length) (h2 : p < fr.length), fr[p] = pl[p].2 - ld[p] ∧ 0 ≤ fr[p] ∧ 0 ≤ ld[p] ∧ pl[p].2 ≤ 2
theorem Hands.start {pl : List RPl} (h : ∀ r ∈ pl, 0 ≤ r.2 ∧ r.2 ≤ 2) : Hands pl (zeroL pl.length) (pl.map (·.2)) := by
  refine ⟨by simp [zeroL], by simp, fun p h0 h1 h2 => ?_⟩
  have := h _ (List.getElem_mem h0)
  simp [zeroL]
  omega
theorem Hands.can {pl : List RPl} {ld fr : List Int} (h : Hands pl ld fr) {k : Nat} (hk : k < pl.length) (hf : k < fr.length) (x : Int) : canAt pl x ld k = (decide (fr[k] ≠ 0) && knowsB pl[k] x) := by
  have h1 := h.l1
  have := h.at_ k hk (by omega) hf
  rw [canAt_eq hk (by omega)]
  congr 1
  simp only [decide_eq_decide]
  omega
theorem Hands.less {pl : List RPl} {ld fr : List Int} (h : Hands pl ld fr) {k : Nat} (hf : k < fr.length) (h0 : fr[k] ≠ 0) : Hands pl (bump ld k) (fr.set k (fr[k] - 1)) := by
  have h1 := h.l1
  have h2 := h.l2
  have hb := bump_eq (ld := ld) (p := k) (by omega)
  refine ⟨by rw [bump_len]; exact h1, by simpa using h2, fun p hp h3 h4 => ?_⟩
  have hp' := h.at_ p hp (by omega) (by omega)
  rw [List.getElem_set]
  have e : (bump ld k)[p] = if k = p then ld[k]'(by omega) + 1 else ld[p]'(by omega) := by simp only [hb, List.getElem_set]
  rw [e]
  by_cases hkp : k = p
  · subst hkp; rw [if_pos rfl, if_pos rfl]; omega
  · rw [if_neg hkp, if_neg hkp]; exact hp'
theorem set_back {fr : List Int} {k : Nat} (hk : k < fr.length) (x : Int) : (fr.set k x).set k fr[k] = fr := by rw [List.set_set, List.set_getElem_self]
theorem row_len0 (l : List Int) : (l.flatMap cInt).length = l.length * 1 := by rw [Nat.mul_one]; exact row_len' l
 where row_len' : ∀ l : List Int, (l.flatMap cInt).length = l.length
  | [] => rfl
  | a :: l => by rw [List.flatMap_cons, List.length_append, row_len' l, List.length_cons]; show 1 + l.length = _; omega
abbrev BX (gc gp gk gl gf gr go gF : Nat) : List Nat := [gc, gp, gk, gl, gf, gr, go, gF]
/-- The state of the search, without the cast. -/
structure CS0 (w0 w : World) (gc gp gk gl gf gr go gF : Nat) (vp vk vl vf vr : Value) (fr : List Int) (fd : Bool) : Prop where
  base : ∀ b ∈ BX gc gp gk gl gf gr go gF, w0.heap.size ≤ b
  nd : (BX gc gp gk gl gf gr go gF).Nodup
  below : Below w0.heap.size w0 w
  bp : Loc w gp [vp]
  bk : Loc w gk [vk]
  bl : Loc w gl [vl]
  bf : Loc w gf [vf]
  br : Loc w gr [vr]
  bo : ∃ vo, Loc w go [vo]
  bF : Loc w gF [.bool fd]
  free : w.ownsRow w0.heap.size 3 1 vf fr.length (fr.flatMap cInt)
  apf : ∀ b ∈ vf.ownBlock.toList, b ∉ BX gc gp gk gl gf gr go gF
/-- The state of the search. -/
structure CS (w0 w : World) (gc gp gk gl gf gr go gF : Nat) (vp vk vl vf vr : Value) (cast fr : List Int) (fd : Bool) : Prop where
  rest : CS0 w0 w gc gp gk gl gf gr go gF vp vk vl vf vr fr fd
  cst : ∃ vc, Loc w gc [vc] ∧ w.ownsRow w0.heap.size 3 1 vc cast.length (cast.flatMap cInt) ∧ ∀ b ∈ vc.ownBlock.toList, b ∉ BX gc gp gk gl gf gr go gF ++ vf.ownBlock.toList
theorem loc_lt {w : World} {b : Nat} {v : Value} (h : Loc w b [v]) : b < w.heap.size := World.block_lt_of_cell? w _ (h 0 v rfl).1
section
variable {w0 w w' : World} {gc gp gk gl gf gr go gF : Nat} {vp vk vl vf vr : Value} {cast fr : List Int} {fd : Bool}
theorem CS0.chg (h : CS0 w0 w gc gp gk gl gf gr go gF vp vk vl vf vr fr fd) {S : List Nat} (hc : Chg S w w') (hS : ∀ b ∈ S, w0.heap.size ≤ b) (hn : ∀ b ∈ [gp, gk, gl, gf, gr, go, gF], b ∉ S) (hf : ∀ b ∈ vf.ownBlock.toList, b ∉ S) : CS0 w0 w' gc gp gk gl gf gr go gF vp vk vl vf vr fr fd := by
  obtain ⟨vo, h4⟩ := h.bo
  exact ⟨h.base, h.nd, Below.chg h.below hc h.below.size hS, h.bp.chg hc (hn _ (by simp)), h.bk.chg hc (hn _ (by simp)), h.bl.chg hc (hn _ (by simp)), h.bf.chg hc (hn _ (by simp)), h.br.chg hc (hn _ (by simp)), ⟨vo, h4.chg hc (hn _ (by simp))⟩, h.bF.chg hc (hn _ (by simp)), own_chg h.free hc hf, h.apf⟩
theorem CS.keep (h : CS w0 w gc gp gk gl gf gr go gF vp vk vl vf vr cast fr fd) (hb : Below w.heap.size w w') : CS w0 w' gc gp gk gl gf gr go gF vp vk vl vf vr cast fr fd := by
  obtain ⟨vc, h1, h2, h3⟩ := h.cst
  exact ⟨h.rest.chg (Chg.of_below hb []) (by simp) (by simp) (by simp), vc, h1.below hb, own_below h2 hb, h3⟩
theorem CS.drewN (h : CS w0 w gc gp gk gl gf gr go gF vp vk vl vf vr cast fr fd) (n : Nat) : CS w0 (w.drewN n) gc gp gk gl gf gr go gF vp vk vl vf vr cast fr fd := by
  obtain ⟨vc, h1, h2, h3⟩ := h.cst
  let c0 := Chg.refl [] w
  exact ⟨h.rest.chg (S := []) (w' := w.drewN n) ⟨c0.os, c0.tape, c0.output, c0.size, c0.block⟩ (by simp) (by simp) (by simp), vc, h1.drewN n, h2, h3⟩
/-- a number of the free hands is written -/
theorem CS.free_at (h : CS w0 w gc gp gk gl gf gr go gF vp vk vl vf vr cast fr fd) {k : Nat} (hk : k < fr.length) :
    ∃ g c, vf = .slice (some ⟨g, 0, none⟩) fr.length c ∧ w.cell? ⟨g, k, none⟩ = some (.int .i64 fr[k]) ∧ w.frozen? ⟨g, k, none⟩ = false ∧ ∀ x, CS w0 (w.setCell ⟨g, k, none⟩ (.int .i64 x)) gc gp gk gl gf gr go gF vp vk vl vf vr cast (fr.set k x) fd := by
  obtain ⟨h, vc, h1, h2, h3⟩ := h
  have hf := h.free
  obtain ⟨g, c, rfl⟩ := own_form hf (by omega)
  obtain ⟨vo, h4⟩ := h.bo
  have hg : g ∉ BX gc gp gk gl gf gr go gF := h.apf g (by simp [Value.ownBlock])
  refine ⟨g, c, rfl, row_cell hf hk, hf.frozenAt k, fun x => ?_⟩
  have hch : Chg [g] w (w.setCell ⟨g, k, none⟩ (.int .i64 x)) := chg_set (Chg.refl _ _) (by simp)
  have hn : ∀ b ∈ BX gc gp gk gl gf gr go gF, b ∉ [g] := fun b hb hb' => by simp at hb'; subst hb'; exact hg hb
  refine ⟨⟨h.base, h.nd, h.below.setCell (own_lt hf g (by simp [Value.ownBlock])).1 _,
    h.bp.chg hch (hn _ (by simp)), h.bk.chg hch (hn _ (by simp)), h.bl.chg hch (hn _ (by simp)), h.bf.chg hch (hn _ (by simp)), h.br.chg hch (hn _ (by simp)), ⟨vo, h4.chg hch (hn _ (by simp))⟩, h.bF.chg hch (hn _ (by simp)), ?_, h.apf⟩,
    vc, h1.chg hch (hn _ (by simp)), own_chg h2 hch (fun b hb hb' => h3 b hb (by simp at hb'; subst hb'; simp [Value.ownBlock])), h3⟩
  have := row_stored hf k x
  rw [List.length_set]; exact this
/-- the box of the cast is written -/
theorem CS0.put {vc vc' : Value} {cast' : List Int} (h : CS0 w0 w gc gp gk gl gf gr go gF vp vk vl vf vr fr fd) (h1 : Loc w gc [vc]) (hown : w.ownsRow w0.heap.size 3 1 vc' cast'.length (cast'.flatMap cInt)) (hap : ∀ b ∈ vc'.ownBlock.toList, b ∉ BX gc gp gk gl gf gr go gF ++ vf.ownBlock.toList) :
    CS w0 (w.setCell ⟨gc, 0, none⟩ vc') gc gp gk gl gf gr go gF vp vk vl vf vr cast' fr fd := by
  have hch : Chg [gc] w (w.setCell ⟨gc, 0, none⟩ vc') := chg_set (Chg.refl _ _) (by simp)
  have hn : ∀ b ∈ [gp, gk, gl, gf, gr, go, gF], b ∉ [gc] := fun b hb hb' => by
    have := h.nd
    rw [List.nodup_cons] at this
    simp at hb'
    subst hb'
    exact this.1 hb
  exact ⟨h.chg hch (fun b hb => by simp at hb; subst hb; exact h.base b (by simp)) hn (fun b hb hb' => h.apf b hb (by simp at hb'; subst hb'; simp)),
    vc', h1.set (i := 0) (v := vc) rfl, own_chg hown hch (fun b hb hb' => hap b hb (by simp at hb'; subst hb'; simp)), hap⟩
/-- the cast's row grew -/
theorem CS0.grown {vc : Value} {n : Nat} {xs : List Value} (h : CS0 w0 w gc gp gk gl gf gr go gF vp vk vl vf vr fr fd) (hL : Loc w gc [vc]) (ho : w.ownsRow w0.heap.size 3 1 vc n xs) (hap : ∀ b ∈ vc.ownBlock.toList, b ∉ BX gc gp gk gl gf gr go gF ++ vf.ownBlock.toList) (hg : w.grownBy w' vc.ownBlock) {v' : Value}
    (hat : v'.ownBlock = vc.ownBlock ∨ v'.ownBlock = some w.heap.size) :
    (∀ c', w'.ownsRow w0.heap.size 3 1 v' c'.length (List.flatMap cInt c') → CS w0 (w'.setCell ⟨gc, 0, none⟩ v') gc gp gk gl gf gr go gF vp vk vl vf vr c' fr fd) ∧ Loc w' gc [vc] := by
  have hch := Chg.of_grown hg
  have hn : ∀ b ∈ BX gc gp gk gl gf gr go gF, b ∉ vc.ownBlock.toList := fun b hb hb' => hap b hb' (List.mem_append_left _ hb)
  have hF : ∀ b ∈ vf.ownBlock.toList, b ∉ vc.ownBlock.toList := fun b hb hb' => hap b hb' (List.mem_append_right _ hb)
  obtain ⟨vo, h4⟩ := h.bo
  have hap' : ∀ b ∈ v'.ownBlock.toList, b ∉ BX gc gp gk gl gf gr go gF ++ vf.ownBlock.toList := fun b hb hb' => by
    rcases hat with e | e
    · rw [e] at hb; exact hap b hb hb'
    · rw [e] at hb
      have e2 : b = w.heap.size := by simpa using hb
      subst e2
      have hlt : w.heap.size < w.heap.size := by
        rcases List.mem_append.1 hb' with h5 | h5
        · simp only [List.mem_cons, List.not_mem_nil, or_false] at h5
          rcases h5 with e | e | e | e | e | e | e | e
          · have := loc_lt hL; omega
          · have := loc_lt h.bp; omega
          · have := loc_lt h.bk; omega
          · have := loc_lt h.bl; omega
          · have := loc_lt h.bf; omega
          · have := loc_lt h.br; omega
          · have := loc_lt h4; omega
          · have := loc_lt h.bF; omega
        · exact (own_lt h.free _ h5).2
      omega
  have hL' := hL.chg hch (hn _ (by simp))
  exact ⟨fun c' hc' => CS0.put (h.chg hch (fun b hb => (own_lt ho b hb).1) (fun b hb => hn b (List.mem_cons_of_mem _ hb)) hF) hL' hc' hap', hL'⟩
/-- the cast's last is taken away -/
theorem CS.pop {k : Int} (h : CS w0 w gc gp gk gl gf gr go gF vp vk vl vf vr (cast ++ [k]) fr fd) : ∃ g c, Loc w gc [.slice (some ⟨g, 0, none⟩) (cast.length + 1) c] ∧ cast.length + 1 ≤ c ∧ CS w0 (w.setCell ⟨gc, 0, none⟩ (.slice (some ⟨g, 0, none⟩) cast.length c)) gc gp gk gl gf gr go gF vp vk vl vf vr cast fr fd := by
  obtain ⟨h, vc, h1, h2, h3⟩ := h
  have hl : (cast ++ [k]).length = cast.length + 1 := by simp
  rw [hl] at h2
  obtain ⟨g, c, rfl⟩ := own_form h2 (by omega)
  obtain ⟨A', c', e, hle, _⟩ := (RdS.of_own h2).form
  injection e with _ _ e3
  subst e3
  refine ⟨g, c, h1, hle, h.put h1 ?_ h3⟩
  have := own_prefix h2 (m := cast.length) (by omega) (by omega)
  rw [List.flatMap_append, show cast.length * 1 = (cast.flatMap cInt).length from (row_len0 cast).symm, List.take_left'] at this
  · exact this
  · rfl
/-- a casting is found -/
theorem CS.found {v : Value} (h : CS w0 w gc gp gk gl gf gr go gF vp vk vl vf vr cast fr fd) : CS w0 ((w.setCell ⟨go, 0, none⟩ v).setCell ⟨gF, 0, none⟩ (.bool true)) gc gp gk gl gf gr go gF vp vk vl vf vr cast fr true := by
  obtain ⟨h, vc, h1, h2, h3⟩ := h
  obtain ⟨vo, h4⟩ := h.bo
  have hch : Chg [go, gF] w ((w.setCell ⟨go, 0, none⟩ v).setCell ⟨gF, 0, none⟩ (.bool true)) := chg_set (chg_set (Chg.refl _ _) (by simp)) (by simp)
  have hnd := h.nd
  simp only [BX, List.nodup_cons, List.mem_cons, List.not_mem_nil, or_false, not_or] at hnd
  obtain ⟨n1, n2, n3, n4, n5, n6, n7, _⟩ := hnd
  have hL : Loc ((w.setCell ⟨go, 0, none⟩ v).setCell ⟨gF, 0, none⟩ (.bool true)) go [v] := (h4.set (i := 0) (v := vo) (u := v) rfl).far n7
  have hL2 : Loc ((w.setCell ⟨go, 0, none⟩ v).setCell ⟨gF, 0, none⟩ (.bool true)) gF [.bool true] := (h.bF.far (g := go) (i := 0) (u := v) (fun e => n7 e.symm)).set (i := 0) (v := .bool fd) rfl
  have nm : ∀ b, b ≠ go → b ≠ gF → b ∉ [go, gF] := fun b h1 h2 hb => by
    rcases List.mem_cons.1 hb with e | e
    · exact h1 e
    · exact h2 (List.mem_singleton.1 e)
  have hsub : ∀ b ∈ [go, gF], b ∈ BX gc gp gk gl gf gr go gF := fun b hb => by
    rcases List.mem_cons.1 hb with e | e
    · subst e; simp
    · rw [List.mem_singleton.1 e]; simp
  exact ⟨⟨h.base, h.nd, Below.chg h.below hch h.below.size (fun b hb => h.base b (hsub b hb)), h.bp.chg hch (nm _ n2.2.2.2.2.1 n2.2.2.2.2.2), h.bk.chg hch (nm _ n3.2.2.2.1 n3.2.2.2.2), h.bl.chg hch (nm _ n4.2.2.1 n4.2.2.2), h.bf.chg hch (nm _ n5.2.1 n5.2.2), h.br.chg hch (nm _ n6.1 n6.2), ⟨v, hL⟩, hL2,
    own_chg h.free hch (fun b hb hb' => h.apf b hb (hsub b hb')), h.apf⟩, vc, h1.chg hch (nm _ n1.2.2.2.2.2.1 n1.2.2.2.2.2.2), own_chg h2 hch (fun b hb hb' => h3 b hb (List.mem_append_left _ (hsub b hb'))), h3⟩
end
end Go.Proofs.Ytjbhlbcjljdjmaa

namespace Go.Proofs.Ytjbhlbcjljdjmaa
open Go.RowKit
theorem quietL1 {P : Program} {f : FuncId} {args : Array Value} {w : World} {n : Nat} {v : Value}
    (h : Calls P f args (w.drewN n) fun e w' => e = .returned v ∧ w.drewN n = w') : Calls P f args (w.drewN n) fun e w'' => e = .returned v ∧ ∃ m, w'' = w.drewN m :=
  h.mono fun _ _ ⟨he, hm⟩ => ⟨he, n, hm.symm⟩
set_option maxHeartbeats 1000000 in
theorem castF_any {w0 w : World} {gc gp gk gl gf gr go gF : Nat} {vp vl vf : Value} {cast fr : List Int} {fd : Bool} (A : Option Addr) (n c : Nat) (h : CS w0 w gc gp gk gl gf gr go gF vp (.func (.func 148) #[] #[.pointer (some ⟨go, 0, none⟩), .pointer (some ⟨gF, 0, none⟩)]) vl vf (.func (.func 155) #[] #[.pointer (some ⟨gc, 0, none⟩), .pointer (some ⟨gp, 0, none⟩), .pointer (some ⟨gk, 0, none⟩), .pointer (some ⟨gl, 0, none⟩), .pointer (some ⟨gf, 0, none⟩), .pointer (some ⟨gr, 0, none⟩)]) cast fr fd) :
    Calls Try.prog 148 #[.slice A n c, .pointer (some ⟨go, 0, none⟩), .pointer (some ⟨gF, 0, none⟩)] w fun e w' => e = .returned (.bool false) ∧ CS w0 w' gc gp gk gl gf gr go gF vp (.func (.func 148) #[] #[.pointer (some ⟨go, 0, none⟩), .pointer (some ⟨gF, 0, none⟩)]) vl vf (.func (.func 155) #[] #[.pointer (some ⟨gc, 0, none⟩), .pointer (some ⟨gp, 0, none⟩), .pointer (some ⟨gk, 0, none⟩), .pointer (some ⟨gl, 0, none⟩), .pointer (some ⟨gf, 0, none⟩), .pointer (some ⟨gr, 0, none⟩)]) cast fr true := by
  have H := Lib.hid (h.found (v := .slice A n c))
  obtain ⟨vo, h4⟩ := h.rest.bo
  have b0 := (h4 0 _ rfl).1
  have f0 := (h4 0 _ rfl).2
  have hnd := h.rest.nd
  simp only [BX, List.nodup_cons, List.mem_cons, List.not_mem_nil, or_false, not_or] at hnd
  have hne : ¬ go = gF := hnd.2.2.2.2.2.2.1
  have hne' : ¬ gF = go := fun e => hne e.symm
  have b1 := (h.rest.bF 0 _ rfl).1
  have f1 := (h.rest.bF 0 _ rfl).2
  clear h h4 hnd
  go_enter Try.func148, Try.ntmps148
  go_wp2_with fail
  go_ret
  exact ⟨rfl, H.out⟩
theorem act68cr {a : Act} (h : a.tmps.size = 68) (hd : a.defers = []) : ∃ x0 x1 x2 x3 x4 x5 x6 x7 x8 x9 x10 x11 x12 x13 x14 x15 x16 x17 x18 x19 x20 x21 x22 x23 x24 x25 x26 x27 x28 x29 x30 x31 x32 x33 x34 x35 x36 x37 x38 x39 x40 x41 x42 x43 x44 x45 x46 x47 x48 x49 x50 x51 x52 x53 x54 x55 x56 x57 x58 x59 x60 x61 x62 x63 x64 x65 x66 x67 : Value, a = ⟨#[x0, x1, x2, x3, x4, x5, x6, x7, x8, x9, x10, x11, x12, x13, x14, x15, x16, x17, x18, x19, x20, x21, x22, x23, x24, x25, x26, x27, x28, x29, x30, x31, x32, x33, x34, x35, x36, x37, x38, x39, x40, x41, x42, x43, x44, x45, x46, x47, x48, x49, x50, x51, x52, x53, x54, x55, x56, x57, x58, x59, x60, x61, x62, x63, x64, x65, x66, x67], []⟩ := by
  obtain ⟨⟨l⟩, d⟩ := a
  subst hd
  match l, h with
  | x0 :: x1 :: x2 :: x3 :: x4 :: x5 :: x6 :: x7 :: x8 :: x9 :: x10 :: x11 :: x12 :: x13 :: x14 :: x15 :: x16 :: x17 :: x18 :: x19 :: x20 :: x21 :: x22 :: x23 :: x24 :: x25 :: x26 :: x27 :: x28 :: x29 :: x30 :: x31 :: x32 :: x33 :: x34 :: x35 :: x36 :: x37 :: x38 :: x39 :: x40 :: x41 :: x42 :: x43 :: x44 :: x45 :: x46 :: x47 :: x48 :: x49 :: x50 :: x51 :: x52 :: x53 :: x54 :: x55 :: x56 :: x57 :: x58 :: x59 :: x60 :: x61 :: x62 :: x63 :: x64 :: x65 :: x66 :: x67 :: [], _ => exact ⟨x0, x1, x2, x3, x4, x5, x6, x7, x8, x9, x10, x11, x12, x13, x14, x15, x16, x17, x18, x19, x20, x21, x22, x23, x24, x25, x26, x27, x28, x29, x30, x31, x32, x33, x34, x35, x36, x37, x38, x39, x40, x41, x42, x43, x44, x45, x46, x47, x48, x49, x50, x51, x52, x53, x54, x55, x56, x57, x58, x59, x60, x61, x62, x63, x64, x65, x66, x67, rfl⟩
def pcr (vk : Value) (vc : Value) (B n : Nat) (xs : List Value) (i : Nat) (v : Value) (_ : Nat → Nat) (w : World) : Prop :=
  match i with
  | 0 => v = vk
  | 1 => v = vc
  | 2 => ∃ A c, v = .slice A n c ∧ w.ownsRow B 3 1 (.slice A n c) n xs
  | _ => True
set_option maxHeartbeats 8000000 in
set_option maxRecDepth 100000 in
theorem castR_any (w0 : World) (vp vl vf : Value) (ps0 : List Int) (pl : List RPl) (hp : RdL cInt 1 w0 vp ps0) (hl : RdPls w0 vl pl) (hp7 : ps0.length ≤ 7) (hl6 : pl.length ≤ 6) (gc gp gk gl gf gr go gF : Nat) : ∀ (ps cast fr ld : List Int) (w : World), Hid (ps0.drop cast.length = ps ∧ cast.length ≤ ps0.length) → Hands pl ld fr → CS w0 w gc gp gk gl gf gr go gF vp (.func (.func 148) #[] #[.pointer (some ⟨go, 0, none⟩), .pointer (some ⟨gF, 0, none⟩)]) vl vf (.func (.func 155) #[] #[.pointer (some ⟨gc, 0, none⟩), .pointer (some ⟨gp, 0, none⟩), .pointer (some ⟨gk, 0, none⟩), .pointer (some ⟨gl, 0, none⟩), .pointer (some ⟨gf, 0, none⟩), .pointer (some ⟨gr, 0, none⟩)]) cast fr false →
    Calls Try.prog 155 #[.pointer (some ⟨gc, 0, none⟩), .pointer (some ⟨gp, 0, none⟩), .pointer (some ⟨gk, 0, none⟩), .pointer (some ⟨gl, 0, none⟩), .pointer (some ⟨gf, 0, none⟩), .pointer (some ⟨gr, 0, none⟩)] w fun e w' => e = .returned (.bool (!canS pl ps ld)) ∧ CS w0 w' gc gp gk gl gf gr go gF vp (.func (.func 148) #[] #[.pointer (some ⟨go, 0, none⟩), .pointer (some ⟨gF, 0, none⟩)]) vl vf (.func (.func 155) #[] #[.pointer (some ⟨gc, 0, none⟩), .pointer (some ⟨gp, 0, none⟩), .pointer (some ⟨gk, 0, none⟩), .pointer (some ⟨gl, 0, none⟩), .pointer (some ⟨gf, 0, none⟩), .pointer (some ⟨gr, 0, none⟩)]) cast fr (canS pl ps ld) := by
  intro ps
  obtain ⟨i0, hi0, hz0, hz1, hz2⟩ := info_parts infoInt
  induction ps with
  | nil =>
    intro cast fr ld w hps hhd hC
    have hlen : cast.length = ps0.length := by
      have h1 := congrArg List.length hps.out.1
      have h2 := hps.out.2
      simp at h1
      omega
    have hbe : ((cast.length : Int) == (ps0.length : Int)) = true := by rw [beq_iff_eq]; omega
    have hc7 : cast.length ≤ 7 := by omega
    clear hlen hps
    show Calls Try.prog 155 _ w fun e w' => e = .returned (.bool false) ∧ CS w0 w' gc gp gk gl gf gr go gF vp (.func (.func 148) #[] #[.pointer (some ⟨go, 0, none⟩), .pointer (some ⟨gF, 0, none⟩)]) vl vf (.func (.func 155) #[] #[.pointer (some ⟨gc, 0, none⟩), .pointer (some ⟨gp, 0, none⟩), .pointer (some ⟨gk, 0, none⟩), .pointer (some ⟨gl, 0, none⟩), .pointer (some ⟨gf, 0, none⟩), .pointer (some ⟨gr, 0, none⟩)]) cast fr true
    obtain ⟨vc, Lc, Oc, _⟩ := hC.cst
    have hpw := hp.below hC.rest.below
    have Ocr : RdL cInt 1 w vc cast := RdS.of_own Oc
    obtain ⟨Ac, cc, rfl, _, _⟩ := Ocr.form
    obtain ⟨Ap, cp, rfl, _, _⟩ := hpw.form
    have c0 := (Lc 0 _ rfl).1
    have p0 := (hC.rest.bp 0 _ rfl).1
    have k0 := (hC.rest.bk 0 _ rfl).1
    go_enter Try.func155, Try.ntmps155
    go_upto_region 2 with (fail)
    refine region_made (n := 68) 3 (by kernel_rfl) rfl (by kernel_rfl) (fun w' => Below w.heap.size w w') (fun _ => 0) (pcr (.func (.func 148) #[] #[.pointer (some ⟨go, 0, none⟩), .pointer (some ⟨gF, 0, none⟩)]) (.slice Ac cast.length cc) w.heap.size cast.length (cast.flatMap cInt)) (Below.refl _ _).drew ?_ ?_ ?_
    · intro i v gh gh' w1 w2 hp hJ hb' hg
      match i, hp with
      | 0, hp => exact hp
      | 1, hp => exact hp
      | 2, ⟨A', c', hv, ho⟩ => exact ⟨A', c', hv, own_below ho hb'⟩
      | _ + 3, _ => trivial
    · refine ⟨?_, ?_, ?_, trivial⟩
      all_goals
        intro a gh w5 hag hJ hd
        have ag0 : a.tmps.getD 0 undef = .pointer (some ⟨gc, 0, none⟩) := hag.kept 0 (by kernel_rfl)
        have ag2 : a.tmps.getD 2 undef = .pointer (some ⟨gk, 0, none⟩) := hag.kept 2 (by kernel_rfl)
        clear hag
      · have k1 := carry hJ k0
        go_wp2_with fail
        exact ⟨rfl, _, rfl, rfl, hJ, Below.refl _ _⟩
      · have c1 := carry hJ c0
        go_wp2_with fail
        exact ⟨rfl, _, rfl, rfl, hJ, Below.refl _ _⟩
      · have e1 : a.tmps.getD 16 undef = .slice Ac cast.length cc := hd 1 (by kernel_rfl) _ rfl
        go_wp2_with fail
        refine (copyOf_any _ cast w5 (Ocr.below hJ) (by omega)).mono ?_
        rintro e w6 ⟨v5, rfl, own5, hb5⟩
        obtain ⟨A5, c5, rfl, _, _⟩ := (RdS.of_own own5).form
        go_wp2_with fail
        exact ⟨rfl, _, rfl, ⟨A5, c5, rfl, own_mono own5 hJ.size⟩, bl_trans hJ hb5, hb5⟩
    · intro a gh w5 hag hJ hd
      obtain ⟨x0, x1, x2, x3, x4, x5, x6, x7, x8, x9, x10, x11, x12, x13, x14, x15, x16, x17, x18, x19, x20, x21, x22, x23, x24, x25, x26, x27, x28, x29, x30, x31, x32, x33, x34, x35, x36, x37, x38, x39, x40, x41, x42, x43, x44, x45, x46, x47, x48, x49, x50, x51, x52, x53, x54, x55, x56, x57, x58, x59, x60, x61, x62, x63, x64, x65, x66, x67, rfl⟩ := act68cr hag.size hag.defers
      have ag0 : x0 = .pointer (some ⟨gc, 0, none⟩) := hag.kept 0 (by kernel_rfl)
      have ag1 : x1 = .pointer (some ⟨gp, 0, none⟩) := hag.kept 1 (by kernel_rfl)
      have ag2 : x2 = .pointer (some ⟨gk, 0, none⟩) := hag.kept 2 (by kernel_rfl)
      have ag3 : x3 = .pointer (some ⟨gl, 0, none⟩) := hag.kept 3 (by kernel_rfl)
      have ag4 : x4 = .pointer (some ⟨gf, 0, none⟩) := hag.kept 4 (by kernel_rfl)
      have ag5 : x5 = .pointer (some ⟨gr, 0, none⟩) := hag.kept 5 (by kernel_rfl)
      have ag7 : x7 = undef := hag.kept 7 (by kernel_rfl)
      have ag8 : x8 = undef := hag.kept 8 (by kernel_rfl)
      have ag9 : x9 = undef := hag.kept 9 (by kernel_rfl)
      clear hag
      subst ag0 ag1 ag2 ag3 ag4 ag5 ag7 ag8 ag9
      have e1 : x15 = .func (.func 148) #[] #[.pointer (some ⟨go, 0, none⟩), .pointer (some ⟨gF, 0, none⟩)] := hd 0 (by kernel_rfl) _ rfl
      obtain ⟨A5, c5, e2, own5⟩ : ∃ A c, x17 = .slice A cast.length c ∧ w5.ownsRow w.heap.size 3 1 (.slice A cast.length c) cast.length (cast.flatMap cInt) := hd 2 (by kernel_rfl) _ rfl
      subst e1 e2
      change wpList _ _ _ [_, _] _ _
      have hC5 := hC.keep hJ
      clear hC hJ hd c0 p0 k0
      go_wp2_with fail
      refine (castF_any _ _ _ hC5).mono ?_
      rintro e w6 ⟨rfl, hC6⟩
      go_wp2_with fail
      go_ret
      exact ⟨rfl, hC6⟩
  | cons x ps ih =>
    intro cast fr ld w hps hhd hC
    have hcp : cast.length < ps0.length := by
      have h1 := congrArg List.length hps.out.1
      simp at h1
      omega
    have hdr := hps.out.1
    rw [List.drop_eq_getElem_cons hcp] at hdr
    injection hdr with hdr1 hdr2
    have hpx : ∀ h : cast.length < ps0.length, ps0[cast.length] = x := fun _ => hdr1
    have Hps2 := Lib.hid hdr2
    clear hdr1 hdr2
    have hHD := Lib.hid hhd
    obtain ⟨vc, Lc, Oc, _⟩ := hC.cst
    have hpw := hp.below hC.rest.below
    obtain ⟨Ac, cc, rfl, _, _⟩ := (RdS.of_own Oc).form
    obtain ⟨Ap, cp, rfl, _, _⟩ := hpw.form
    obtain ⟨Al, cl, rfl, _, _⟩ := hl.form
    have c0 := (Lc 0 _ rfl).1
    have p0 := (hC.rest.bp 0 _ rfl).1
    have l0 := (hC.rest.bl 0 _ rfl).1
    have hne : ((cast.length : Int) == (ps0.length : Int)) = false := by rw [beq_eq_false_iff_ne]; omega
    have Hpx := Lib.hid hpx
    have HI := Lib.hid ih
    clear ih Lc Oc hpw hps hpx
    go_enter Try.func155, Try.ntmps155
    go_wp2_with fail
    go_loopw [7, 8, 9, 21] (fun _ _ _ i wr => ∃ k : Nat, k ≤ pl.length ∧ i = .int .i64 k ∧ Hid (TriedF pl x ps ld k) ∧ CS w0 wr gc gp gk gl gf gr go gF (.slice Ap ps0.length cp) (.func (.func 148) #[] #[.pointer (some ⟨go, 0, none⟩), .pointer (some ⟨gF, 0, none⟩)]) (.slice Al pl.length cl) vf (.func (.func 155) #[] #[.pointer (some ⟨gc, 0, none⟩), .pointer (some ⟨gp, 0, none⟩), .pointer (some ⟨gk, 0, none⟩), .pointer (some ⟨gl, 0, none⟩), .pointer (some ⟨gf, 0, none⟩), .pointer (some ⟨gr, 0, none⟩)]) cast fr false) (fun _ _ _ i _ => pl.length - (intOf i).toNat)
    case atStart => exact ⟨0, Nat.zero_le _, rfl, TriedF.zero _ _ _ _, hC⟩
    case round =>
      obtain ⟨k, hk, rfl, htr, hCr⟩ := hrel
      clear hC c0 p0 l0
      by_cases hlt : k < pl.length
      · have hlr := hl.below hCr.rest.below
        obtain ⟨g, off, u, rfl, hg, k0, k1, hru⟩ := hlr.cell hlt
        have hkf : k < fr.length := by have := hHD.out.l2; omega
        have HCN := Lib.hid (hHD.out.can hlt hkf x)
        have HKN := Lib.hid (knows_ix pl[k] x)
        obtain ⟨Au, cu, rfl, _, _⟩ := hru.form
        generalize hqk : pl[k] = q at *
        obtain ⟨r, f⟩ := q
        simp only at k0 k1 hru HKN
        go_upto_region 6 with (fail)
        have hal : Below wr.heap.size wr (wr.alloc (.cells #[.slice Au r.length cu, .int .i64 f] 126)) := (Below.refl _ _).alloc (Nat.le_refl _) _
        have Lq : Loc (wr.alloc (.cells #[.slice Au r.length cu, .int .i64 f] 126)) wr.heap.size [.slice Au r.length cu, .int .i64 f] := Loc.new wr #[.slice Au r.length cu, .int .i64 f] 126
        obtain ⟨gq, hgq⟩ : ∃ g, wr.heap.size = g := ⟨_, rfl⟩
        rw [hgq] at Lq
        have hC1 := hCr.keep hal
        have hru1 := hru.below hal
        clear k0 k1 hlr hCr hru
        generalize (wr.alloc (.cells #[.slice Au r.length cu, .int .i64 f] 126)) = W1 at *
        rw [hgq]
        clear hal hgq hg
        obtain ⟨vc1, Lc1, Oc1, _⟩ := hC1.cst
        obtain ⟨Ac1, cc1, rfl, _, _⟩ := (RdS.of_own Oc1).form
        obtain ⟨gv, cv, hvf, v0, vf0, HST⟩ := hC1.free_at hkf
        subst hvf
        have hpw := hp.below hC1.rest.below
        obtain ⟨gx, ox, rfl, hgx, hcx⟩ := hpw.cell (k := cast.length) cInt_len (by omega) hcp
        have x0 := hcx 0 _ rfl
        simp only [Nat.add_zero, Nat.mul_one] at x0
        rw [Hpx.out hcp] at x0
        clear hcx
        have b0 := (Lc1 0 _ rfl).1
        have b1 := (hC1.rest.bp 0 _ rfl).1
        have b2 := (hC1.rest.bl 0 _ rfl).1
        have b3 := (hC1.rest.bf 0 _ rfl).1
        have b5 := (Lq 0 _ rfl).1
        have b6 := (Lq 1 _ rfl).1
        have hix := idxF_le (l := r) (n := x)
        have HX : Hid (∀ n : Nat, Calls Try.prog 109 #[.slice Au r.length cu, .int .i64 x] (W1.drewN n) fun e w'' => e = .returned (.int .i64 (idxF r x)) ∧ ∃ m, w'' = W1.drewN m) := fun n => quietL1 (indexOf_any _ r x (W1.drewN n) hru1)
        obtain ⟨fk, hfk⟩ : ∃ fk, fr[k] = fk := ⟨_, rfl⟩
        have HAT := Lib.hid (fun h1 => hHD.out.at_ k hlt h1 hkf)
        rw [hfk] at v0 HCN HAT
        have HFK := Lib.hid hfk
        have hfb : 0 ≤ fk ∧ fk ≤ 2 := by have := HAT.out (by have := hHD.out.l1; omega); omega
        clear hfk Lq hru1 HST hqk
        generalize idxF r x = ix at *
        have hcl : ((cast.length : Nat) : Int) < ((ps0.length : Nat) : Int) := by omega
        by_cases hz : fk = 0
        · have hzf : (fk == 0) = true := by rw [beq_iff_eq]; exact hz
          have HN := Lib.hid (htr.out.no (show canAt pl x ld k = false by rw [HCN.out, hz]; rfl))
          clear hz
          go_wp2_with fail
          go_quiet (fail)
          rename_i nq
          have hC2 := hC1.drewN nq
          clear b0 b1 b2 b3 b5 b6 v0 vf0 x0
          generalize W1.drewN nq = W2 at *
          go_wp2_with fail
          go_roundw
          case rel => exact ⟨k + 1, by omega, by go_num, HN.out, hC2⟩
          case measure => simp [intOf]; omega
        · have hzf : (fk == 0) = false := by rw [beq_eq_false_iff_ne]; exact hz
          have Hz := Lib.hid hz
          clear hz
          by_cases hi : ix < 0
          · have hi1 : decide (ix < 0) = true := decide_eq_true hi
            have HN := Lib.hid (htr.out.no (show canAt pl x ld k = false by rw [HCN.out, Bool.eq_false_iff.2 (fun e => absurd (HKN.out.1 e) (by omega)), Bool.and_false]))
            go_wp2_with fail
            go_quiet ((go_at_call 109; exact HX.out _))
            rename_i nq
            have hC2 := hC1.drewN nq
            clear b0 b1 b2 b3 b5 b6 v0 vf0 x0
            generalize W1.drewN nq = W2 at *
            go_wp2_with fail
            go_roundw
            case rel => exact ⟨k + 1, by omega, by go_num, HN.out, hC2⟩
            case measure => simp [intOf]; omega
          · have hi1 : decide (ix < 0) = false := decide_eq_false hi
            have HCT := Lib.hid (show canAt pl x ld k = true by rw [HCN.out, HKN.out.2 (by omega), decide_eq_true Hz.out]; rfl)
            have HLS : Hid (Hands pl (bump ld k) (fr.set k (fk - 1))) := by have := hHD.out.less hkf (by rw [HFK.out]; exact Hz.out); rw [HFK.out] at this; exact this
            clear hix
            go_wp2_with fail
            go_quiet ((go_at_call 109; exact HX.out _))
            rename_i nq
            have hC2 := hC1.drewN nq
            clear b0 b1 b2 b3 b5 b6 v0 vf0 x0 HX Lc1 Oc1 hpw hC1
            generalize W1.drewN nq = W2 at *
            -- a hand is taken
            obtain ⟨gv', cv', e, v0, vf0, HST⟩ := hC2.free_at hkf
            injection e with e1 e2 e3
            injection e1 with e1
            injection e1 with e1
            subst e1 e3
            clear e2
            rw [HFK.out] at v0
            have b3 := (hC2.rest.bf 0 _ rfl).1
            have hw1 : IntKind.i64.wrap (fk - 1) = fk - 1 := IntWalk.i64_in _ (by omega)
            go_upto_region 8 with (fail)
            have hC3 := HST (fk - 1)
            clear HST v0 vf0 b3 hC2 hw1
            generalize W2.setCell ⟨gv, k, none⟩ (.int .i64 (fk - 1)) = W3 at *
            -- the cast grows
            obtain ⟨vc3, Lc3, Oc3, Ap3⟩ := hC3.cst
            obtain ⟨Ac3, cc3, rfl, _, _⟩ := (RdS.of_own Oc3).form
            have b0 := (Lc3 0 _ rfl).1
            have hal : Below W3.heap.size W3 (W3.alloc (.cells #[.int .i64 k] 3)) := (Below.refl _ _).alloc (Nat.le_refl _) _
            have hC4 := hC3.keep hal
            have hZ4 := hC4.rest.below.size
            have Lc4 := Lc3.below hal
            have Oc4 := own_below Oc3 hal
            go_wp2_with (at_builtin; refine wpList_appendB _ rfl (.tmp 48) (.tmp 50) _ rfl w0.heap.size 3 i0 _ 1 8 Try.underlying28 hi0 hz0 hz1 hz2 rfl (by omega) _ cast.length (cast.flatMap cInt) rfl Oc4 _ 1 [.int .i64 k] rfl (rdS_new W3 #[.int .i64 k] _ 1 1 rfl (by simp [maxLen])) (by simp [Value.oneCell']) (by simp [maxLen]; omega) (by omega) hZ4 ?_; intro v5 w5 own5 gr5 at5; obtain ⟨HG5, Lc5⟩ := hC4.rest.grown Lc4 Oc4 Ap3 gr5 at5; have b5 := (Lc5 0 _ rfl).1; have f5 := (Lc5 0 _ rfl).2; obtain ⟨A5, c5, rfl, _, _⟩ := (RdS.of_own own5).form; have hC5 := HG5 (cast ++ [(k : Int)]) (by rw [List.length_append, List.flatMap_append]; exact own5); have b4 := (hC5.rest.br 0 _ rfl).1)
            clear HG5 gr5 at5 Lc5 Oc4 Lc4 hC4 hC3 hal b0 Lc3 Oc3 Ap3 own5
            clear b5 f5
            generalize w5.setCell ⟨gc, 0, none⟩ (.slice A5 (cast.length + 1) c5) = W6 at *
            have hI := HI.out (cast ++ [(k : Int)]) (fr.set k (fk - 1)) (bump ld k) W6 (show Hid (_ ∧ _) from ⟨by rw [List.length_append]; exact Hps2.out, by simp; omega⟩) HLS.out hC5
            obtain ⟨cb, hcb⟩ : ∃ cb, canS pl ps (bump ld k) = cb := ⟨_, rfl⟩
            rw [hcb] at hI
            have HCB := Lib.hid hcb
            clear hcb hC5
            refine hI.mono ?_
            rintro e W7 ⟨rfl, hC7⟩
            clear hI b4
            -- the cast's last is taken away
            obtain ⟨g7, c7, L7, hle7, hC8⟩ := hC7.pop
            have b7 := (L7 0 _ rfl).1
            have f7 := (L7 0 _ rfl).2
            obtain ⟨n7, hn7⟩ : ∃ n, cast.length + 1 = n := ⟨_, rfl⟩
            rw [hn7] at b7 hle7
            have hw1 : IntKind.i64.wrap ((n7 : Int) - 1) = (n7 : Int) - 1 := IntWalk.i64_in _ (by omega)
            have hw2 : (0 : Int) ≤ (n7 : Int) - 1 := by omega
            have hw3 : ((n7 : Int) - 1).toNat = cast.length := by omega
            have hw4 : ¬ (n7 : Int) - 1 < 0 := by omega
            have hw5 : (n7 : Int) - 1 ≤ (c7 : Int) := by omega
            have hw6 : (1 : Int) ≤ (n7 : Int) := by omega
            go_upto_region 11 with (fail)
            clear hw1 hw2 hw3 hw4 hw5 hw6 b7 f7 L7 hC7
            generalize W7.setCell ⟨gc, 0, none⟩ (.slice (some ⟨g7, 0, none⟩) cast.length c7) = W8 at *
            clear hn7 hle7
            -- the hand is free again
            obtain ⟨gv2, cv2, e, v0, vf0, HST⟩ := hC8.free_at (k := k) (by simp; omega)
            injection e with e1 e2 e3
            injection e1 with e1
            injection e1 with e1
            subst e1 e3
            clear e2
            rw [List.getElem_set_self] at v0
            have b3 := (hC8.rest.bf 0 _ rfl).1
            have hC9 := HST fk
            have hsb := set_back hkf (fk - 1)
            rw [HFK.out] at hsb
            rw [hsb] at hC9
            obtain ⟨f1, hf1⟩ : ∃ f1, fk - 1 = f1 := ⟨_, rfl⟩
            have hw1 : IntKind.i64.wrap (f1 + 1) = fk := by rw [IntWalk.i64_in _ (by omega)]; omega
            rw [hf1] at v0
            clear HST hC8 hsb hf1
            go_upto_region 12 with (fail)
            clear v0 vf0 b3 hw1
            generalize W8.setCell ⟨gv, k, none⟩ (.int .i64 fk) = W9 at *
            cases cb
            · have HN := Lib.hid (htr.out.sub HCB.out)
              go_wp2_with fail
              go_roundw
              case rel => exact ⟨k + 1, by omega, by go_num, HN.out, hC9⟩
              case measure => simp [intOf]; omega
            · have HY := Lib.hid (canS_t hlt HCT.out HCB.out)
              go_wp2_with fail
              go_ret
              exact ⟨by rw [HY.out]; rfl, by rw [HY.out]; exact hC9⟩
      · obtain rfl : k = pl.length := by omega
        have HE := Lib.hid htr.out.end_
        have l0 := (hCr.rest.bl 0 _ rfl).1
        go_wp2_with fail
        go_ret
        exact ⟨by rw [HE.out]; rfl, by rw [HE.out]; exact hCr⟩
end Go.Proofs.Ytjbhlbcjljdjmaa

namespace Go.Proofs.Ytjbhlbcjljdjmaa
open Go.RowKit
/-- Boxes beside one that holds a row which grows (the free hands), and the cast's empty row. -/
structure CP (w0 w : World) (gx : Nat) (bxs : List (Nat × Value)) (vc vf : Value) (fr : List Int) : Prop where
  base : ∀ b ∈ gx :: bxs.map (·.1), w0.heap.size ≤ b
  nd : (gx :: bxs.map (·.1)).Nodup
  below : Below w0.heap.size w0 w
  at_ : ∀ p ∈ bxs, Loc w p.1 [p.2]
  box : Loc w gx [vf]
  own : w.ownsRow w0.heap.size 3 1 vf fr.length (fr.flatMap cInt)
  ap : ∀ b ∈ vf.ownBlock.toList, b ∉ gx :: bxs.map (·.1)
  emp : w.ownsRow w0.heap.size 3 1 vc 0 []
  ap2 : ∀ b ∈ vc.ownBlock.toList, b ∉ gx :: bxs.map (·.1) ∧ b ∉ vf.ownBlock.toList
section
variable {w0 w w' : World} {gx : Nat} {bxs : List (Nat × Value)} {vc vf : Value} {fr : List Int}
theorem CP.keep (h : CP w0 w gx bxs vc vf fr) (hb : Below w.heap.size w w') : CP w0 w' gx bxs vc vf fr :=
  ⟨h.base, h.nd, h.below.trans (hb.mono h.below.size), fun p hp => (h.at_ p hp).below hb, h.box.below hb, own_below h.own hb, h.ap, own_below h.emp hb, h.ap2⟩
theorem CP.grow (h : CP w0 w gx bxs vc vf fr) (hg : w.grownBy w' vf.ownBlock) {v' : Value} (hat : v'.ownBlock = vf.ownBlock ∨ v'.ownBlock = some w.heap.size) :
    Loc w' gx [vf] ∧ ∀ f', w'.ownsRow w0.heap.size 3 1 v' f'.length (List.flatMap cInt f') → CP w0 (w'.setCell ⟨gx, 0, none⟩ v') gx bxs vc v' f' := by
  have hch := Chg.of_grown hg
  have hn : ∀ b ∈ gx :: bxs.map (·.1), b ∉ vf.ownBlock.toList := fun b hb hb' => h.ap b hb' hb
  have hlt : ∀ b ∈ gx :: bxs.map (·.1), b < w.heap.size := fun b hb => by
    rcases List.mem_cons.1 hb with rfl | hb
    · exact loc_lt h.box
    · obtain ⟨p, hp, rfl⟩ := List.mem_map.1 hb
      exact loc_lt (h.at_ p hp)
  have hap' : ∀ b ∈ v'.ownBlock.toList, b ∉ gx :: bxs.map (·.1) := fun b hb hb' => by
    rcases hat with e | e
    · rw [e] at hb; exact h.ap b hb hb'
    · rw [e] at hb
      have e2 : b = w.heap.size := by simpa using hb
      have := hlt b hb'
      omega
  have hL' := h.box.chg hch (hn _ (by simp))
  have hb : Below w0.heap.size w0 w' := Below.chg h.below hch h.below.size (fun b hb => (own_lt h.own b hb).1)
  refine ⟨hL', fun f' hf' => ?_⟩
  have hset : Chg [gx] w' (w'.setCell ⟨gx, 0, none⟩ v') := chg_set (Chg.refl _ _) (by simp)
  have h1 : ∀ p ∈ bxs, p.1 ∉ [gx] := fun p hp hb' => by
    have := h.nd
    rw [List.nodup_cons] at this
    have e := List.mem_singleton.1 hb'
    exact this.1 (e ▸ List.mem_map.2 ⟨p, hp, rfl⟩)
  refine ⟨h.base, h.nd, hb.setCell (h.base gx (by simp)) _, fun p hp => ((h.at_ p hp).chg hch (hn _ (List.mem_cons_of_mem _ (List.mem_map.2 ⟨p, hp, rfl⟩)))).chg hset (h1 p hp), hL'.set (i := 0) (v := vf) rfl, own_chg hf' hset (fun b hb hb' => hap' b hb (by rw [List.mem_singleton.1 hb']; simp)), hap',
    own_chg (own_chg h.emp hch (fun b hb => (h.ap2 b hb).2)) hset (fun b hb hb' => (h.ap2 b hb).1 (by rw [List.mem_singleton.1 hb']; simp)), fun b hb => ⟨(h.ap2 b hb).1, fun hb' => ?_⟩⟩
  rcases hat with e | e
  · rw [e] at hb'; exact (h.ap2 b hb).2 hb'
  · rw [e] at hb'
    have e2 : b = w.heap.size := by simpa using hb'
    have := (own_lt h.emp b hb).2
    omega
end
set_option maxHeartbeats 8000000 in
set_option maxRecDepth 100000 in
theorem castings_any (w0 w : World) (vp vl : Value) (ps0 : List Int) (pl : List RPl) (hp : RdL cInt 1 w0 vp ps0) (hl : RdPls w0 vl pl) (hp7 : ps0.length ≤ 7) (hl6 : pl.length ≤ 6) (hfr : ∀ r ∈ pl, 0 ≤ r.2 ∧ r.2 ≤ 2) (go gF : Nat) (hb : Below w0.heap.size w0 w) (hgo : w0.heap.size ≤ go) (hgF : w0.heap.size ≤ gF) (hne : go ≠ gF) (vo : Value) (Lo : Loc w go [vo]) (LF : Loc w gF [.bool false]) :
    Calls Try.prog 147 #[vl, vp, .func (.func 148) #[] #[.pointer (some ⟨go, 0, none⟩), .pointer (some ⟨gF, 0, none⟩)]] w fun e w' => e = .returned (.tuple #[]) ∧ (∃ vo, Loc w' go [vo]) ∧ Loc w' gF [.bool (canS pl ps0 (zeroL pl.length))] ∧ Below w0.heap.size w0 w' := by
  obtain ⟨i0, hi0, hz0, hz1, hz2⟩ := info_parts infoInt
  have hpw := hp.below hb
  have hlw := hl.below hb
  obtain ⟨Ap, cp, rfl, _, _⟩ := hpw.form
  obtain ⟨Al, cl, rfl, _, _⟩ := hlw.form
  have hgol := loc_lt Lo
  have hgFl := loc_lt LF
  have hz := hb.size
  have a0 : Below w.heap.size w (w.alloc (.cells #[.slice Al pl.length cl] 45)) := (Below.refl _ _).alloc (Nat.le_refl _) _
  have hbW : Below w.heap.size w (((((((w.alloc (.cells #[.slice Al pl.length cl] 45)).alloc (.cells #[.slice Ap ps0.length cp] 28)).alloc (.cells #[.func (.func 148) #[] #[.pointer (some ⟨go, 0, none⟩), .pointer (some ⟨gF, 0, none⟩)]] 86)).alloc (.cells #[] 3)).alloc (.cells #[] 3)).alloc (.cells #[.slice (some ⟨w.heap.size + 1 + 1 + 1, 0, none⟩) 0 0] 28)).alloc (.cells #[.slice (some ⟨w.heap.size + 1 + 1 + 1 + 1, 0, none⟩) 0 0] 28)) := by (repeat' (first | (with_reducible exact Below.refl _ _) | (with_reducible assumption) | (with_reducible refine Below.setCell ?_ (by first | omega | (simp; omega) | (simp; done)) _) | (with_reducible refine Below.alloc ?_ (by first | omega | (simp; omega) | (simp; done)) _) | (with_reducible refine Below.drew ?_) | (with_reducible refine below_drewN ?_ _)))
  have L1 : Loc (((((((w.alloc (.cells #[.slice Al pl.length cl] 45)).alloc (.cells #[.slice Ap ps0.length cp] 28)).alloc (.cells #[.func (.func 148) #[] #[.pointer (some ⟨go, 0, none⟩), .pointer (some ⟨gF, 0, none⟩)]] 86)).alloc (.cells #[] 3)).alloc (.cells #[] 3)).alloc (.cells #[.slice (some ⟨w.heap.size + 1 + 1 + 1, 0, none⟩) 0 0] 28)).alloc (.cells #[.slice (some ⟨w.heap.size + 1 + 1 + 1 + 1, 0, none⟩) 0 0] 28)) w.heap.size [.slice Al pl.length cl] := (((((((Loc.new w #[.slice Al pl.length cl] 45).alloc _).alloc _).alloc _).alloc _).alloc _).alloc _)
  have L2 : Loc (((((((w.alloc (.cells #[.slice Al pl.length cl] 45)).alloc (.cells #[.slice Ap ps0.length cp] 28)).alloc (.cells #[.func (.func 148) #[] #[.pointer (some ⟨go, 0, none⟩), .pointer (some ⟨gF, 0, none⟩)]] 86)).alloc (.cells #[] 3)).alloc (.cells #[] 3)).alloc (.cells #[.slice (some ⟨w.heap.size + 1 + 1 + 1, 0, none⟩) 0 0] 28)).alloc (.cells #[.slice (some ⟨w.heap.size + 1 + 1 + 1 + 1, 0, none⟩) 0 0] 28)) (w.heap.size + 1) [.slice Ap ps0.length cp] := by have := ((((((Loc.new (w.alloc (.cells #[.slice Al pl.length cl] 45)) #[.slice Ap ps0.length cp] 28).alloc (.cells #[.func (.func 148) #[] #[.pointer (some ⟨go, 0, none⟩), .pointer (some ⟨gF, 0, none⟩)]] 86)).alloc (.cells #[] 3)).alloc (.cells #[] 3)).alloc (.cells #[.slice (some ⟨w.heap.size + 1 + 1 + 1, 0, none⟩) 0 0] 28)).alloc (.cells #[.slice (some ⟨w.heap.size + 1 + 1 + 1 + 1, 0, none⟩) 0 0] 28)); simpa using this
  have L3 : Loc (((((((w.alloc (.cells #[.slice Al pl.length cl] 45)).alloc (.cells #[.slice Ap ps0.length cp] 28)).alloc (.cells #[.func (.func 148) #[] #[.pointer (some ⟨go, 0, none⟩), .pointer (some ⟨gF, 0, none⟩)]] 86)).alloc (.cells #[] 3)).alloc (.cells #[] 3)).alloc (.cells #[.slice (some ⟨w.heap.size + 1 + 1 + 1, 0, none⟩) 0 0] 28)).alloc (.cells #[.slice (some ⟨w.heap.size + 1 + 1 + 1 + 1, 0, none⟩) 0 0] 28)) (w.heap.size + 1 + 1) [.func (.func 148) #[] #[.pointer (some ⟨go, 0, none⟩), .pointer (some ⟨gF, 0, none⟩)]] := by have := (((((Loc.new ((w.alloc (.cells #[.slice Al pl.length cl] 45)).alloc (.cells #[.slice Ap ps0.length cp] 28)) #[.func (.func 148) #[] #[.pointer (some ⟨go, 0, none⟩), .pointer (some ⟨gF, 0, none⟩)]] 86).alloc (.cells #[] 3)).alloc (.cells #[] 3)).alloc (.cells #[.slice (some ⟨w.heap.size + 1 + 1 + 1, 0, none⟩) 0 0] 28)).alloc (.cells #[.slice (some ⟨w.heap.size + 1 + 1 + 1 + 1, 0, none⟩) 0 0] 28)); simpa using this
  have L6 : Loc (((((((w.alloc (.cells #[.slice Al pl.length cl] 45)).alloc (.cells #[.slice Ap ps0.length cp] 28)).alloc (.cells #[.func (.func 148) #[] #[.pointer (some ⟨go, 0, none⟩), .pointer (some ⟨gF, 0, none⟩)]] 86)).alloc (.cells #[] 3)).alloc (.cells #[] 3)).alloc (.cells #[.slice (some ⟨w.heap.size + 1 + 1 + 1, 0, none⟩) 0 0] 28)).alloc (.cells #[.slice (some ⟨w.heap.size + 1 + 1 + 1 + 1, 0, none⟩) 0 0] 28)) (w.heap.size + 1 + 1 + 1 + 1 + 1) [.slice (some ⟨w.heap.size + 1 + 1 + 1, 0, none⟩) 0 0] := by have := ((Loc.new (((((w.alloc (.cells #[.slice Al pl.length cl] 45)).alloc (.cells #[.slice Ap ps0.length cp] 28)).alloc (.cells #[.func (.func 148) #[] #[.pointer (some ⟨go, 0, none⟩), .pointer (some ⟨gF, 0, none⟩)]] 86)).alloc (.cells #[] 3)).alloc (.cells #[] 3)) #[.slice (some ⟨w.heap.size + 1 + 1 + 1, 0, none⟩) 0 0] 28).alloc (.cells #[.slice (some ⟨w.heap.size + 1 + 1 + 1 + 1, 0, none⟩) 0 0] 28)); simpa using this
  have L7 : Loc (((((((w.alloc (.cells #[.slice Al pl.length cl] 45)).alloc (.cells #[.slice Ap ps0.length cp] 28)).alloc (.cells #[.func (.func 148) #[] #[.pointer (some ⟨go, 0, none⟩), .pointer (some ⟨gF, 0, none⟩)]] 86)).alloc (.cells #[] 3)).alloc (.cells #[] 3)).alloc (.cells #[.slice (some ⟨w.heap.size + 1 + 1 + 1, 0, none⟩) 0 0] 28)).alloc (.cells #[.slice (some ⟨w.heap.size + 1 + 1 + 1 + 1, 0, none⟩) 0 0] 28)) (w.heap.size + 1 + 1 + 1 + 1 + 1 + 1) [.slice (some ⟨w.heap.size + 1 + 1 + 1 + 1, 0, none⟩) 0 0] := by have := (Loc.new ((((((w.alloc (.cells #[.slice Al pl.length cl] 45)).alloc (.cells #[.slice Ap ps0.length cp] 28)).alloc (.cells #[.func (.func 148) #[] #[.pointer (some ⟨go, 0, none⟩), .pointer (some ⟨gF, 0, none⟩)]] 86)).alloc (.cells #[] 3)).alloc (.cells #[] 3)).alloc (.cells #[.slice (some ⟨w.heap.size + 1 + 1 + 1, 0, none⟩) 0 0] 28)) #[.slice (some ⟨w.heap.size + 1 + 1 + 1 + 1, 0, none⟩) 0 0] 28); simpa using this
  have O1 : (((((((w.alloc (.cells #[.slice Al pl.length cl] 45)).alloc (.cells #[.slice Ap ps0.length cp] 28)).alloc (.cells #[.func (.func 148) #[] #[.pointer (some ⟨go, 0, none⟩), .pointer (some ⟨gF, 0, none⟩)]] 86)).alloc (.cells #[] 3)).alloc (.cells #[] 3)).alloc (.cells #[.slice (some ⟨w.heap.size + 1 + 1 + 1, 0, none⟩) 0 0] 28)).alloc (.cells #[.slice (some ⟨w.heap.size + 1 + 1 + 1 + 1, 0, none⟩) 0 0] 28)).ownsRow w0.heap.size 3 1 (.slice (some ⟨w.heap.size + 1 + 1 + 1, 0, none⟩) 0 0) 0 [] := by
    have := (((World.ownsRow_made (size := 1) (e := 3) (((w.alloc (.cells #[.slice Al pl.length cl] 45)).alloc (.cells #[.slice Ap ps0.length cp] 28)).alloc (.cells #[.func (.func 148) #[] #[.pointer (some ⟨go, 0, none⟩), .pointer (some ⟨gF, 0, none⟩)]] 86)) #[] 0 (Nat.le_refl _) (by simp [maxLen]) rfl).alloc (.cells #[] 3)).alloc (.cells #[.slice (some ⟨w.heap.size + 1 + 1 + 1, 0, none⟩) 0 0] 28)).alloc (.cells #[.slice (some ⟨w.heap.size + 1 + 1 + 1 + 1, 0, none⟩) 0 0] 28)
    exact own_mono (by simpa using this) (by omega)
  have O2 : (((((((w.alloc (.cells #[.slice Al pl.length cl] 45)).alloc (.cells #[.slice Ap ps0.length cp] 28)).alloc (.cells #[.func (.func 148) #[] #[.pointer (some ⟨go, 0, none⟩), .pointer (some ⟨gF, 0, none⟩)]] 86)).alloc (.cells #[] 3)).alloc (.cells #[] 3)).alloc (.cells #[.slice (some ⟨w.heap.size + 1 + 1 + 1, 0, none⟩) 0 0] 28)).alloc (.cells #[.slice (some ⟨w.heap.size + 1 + 1 + 1 + 1, 0, none⟩) 0 0] 28)).ownsRow w0.heap.size 3 1 (.slice (some ⟨w.heap.size + 1 + 1 + 1 + 1, 0, none⟩) 0 0) 0 [] := by
    have := ((World.ownsRow_made (size := 1) (e := 3) ((((w.alloc (.cells #[.slice Al pl.length cl] 45)).alloc (.cells #[.slice Ap ps0.length cp] 28)).alloc (.cells #[.func (.func 148) #[] #[.pointer (some ⟨go, 0, none⟩), .pointer (some ⟨gF, 0, none⟩)]] 86)).alloc (.cells #[] 3)) #[] 0 (Nat.le_refl _) (by simp [maxLen]) rfl).alloc (.cells #[.slice (some ⟨w.heap.size + 1 + 1 + 1, 0, none⟩) 0 0] 28)).alloc (.cells #[.slice (some ⟨w.heap.size + 1 + 1 + 1 + 1, 0, none⟩) 0 0] 28)
    exact own_mono (by simpa using this) (by omega)
  have hC : CP w0 (((((((w.alloc (.cells #[.slice Al pl.length cl] 45)).alloc (.cells #[.slice Ap ps0.length cp] 28)).alloc (.cells #[.func (.func 148) #[] #[.pointer (some ⟨go, 0, none⟩), .pointer (some ⟨gF, 0, none⟩)]] 86)).alloc (.cells #[] 3)).alloc (.cells #[] 3)).alloc (.cells #[.slice (some ⟨w.heap.size + 1 + 1 + 1, 0, none⟩) 0 0] 28)).alloc (.cells #[.slice (some ⟨w.heap.size + 1 + 1 + 1 + 1, 0, none⟩) 0 0] 28)) (w.heap.size + 1 + 1 + 1 + 1 + 1) [(w.heap.size, .slice Al pl.length cl), (w.heap.size + 1, .slice Ap ps0.length cp), (w.heap.size + 1 + 1, .func (.func 148) #[] #[.pointer (some ⟨go, 0, none⟩), .pointer (some ⟨gF, 0, none⟩)]), (w.heap.size + 1 + 1 + 1 + 1 + 1 + 1, .slice (some ⟨w.heap.size + 1 + 1 + 1 + 1, 0, none⟩) 0 0), (go, vo), (gF, .bool false)] (.slice (some ⟨w.heap.size + 1 + 1 + 1 + 1, 0, none⟩) 0 0) (.slice (some ⟨w.heap.size + 1 + 1 + 1, 0, none⟩) 0 0) [] := by
    refine ⟨fun b hb => ?_, by simp; omega, hb.trans (hbW.mono hz), fun p hp => ?_, L6, O1, fun b hb => ?_, O2, fun b hb => ?_⟩
    · simp at hb; omega
    · simp only [List.mem_cons, List.not_mem_nil, or_false] at hp
      rcases hp with rfl | rfl | rfl | rfl | rfl | rfl
      · exact L1
      · exact L2
      · exact L3
      · exact L7
      · exact Lo.below hbW
      · exact LF.below hbW
    · simp [Value.ownBlock] at hb; subst hb; simp; omega
    · simp [Value.ownBlock] at hb; subst hb; simp [Value.ownBlock]; omega
  clear L1 L2 L3 L6 L7 O1 O2 hbW a0
  go_enter Try.func147, Try.ntmps147
  go_upto_region 2 with (fail)
  generalize ((((((w.alloc (.cells #[.slice Al pl.length cl] 45)).alloc (.cells #[.slice Ap ps0.length cp] 28)).alloc (.cells #[.func (.func 148) #[] #[.pointer (some ⟨go, 0, none⟩), .pointer (some ⟨gF, 0, none⟩)]] 86)).alloc (.cells #[] 3)).alloc (.cells #[] 3)).alloc (.cells #[.slice (some ⟨w.heap.size + 1 + 1 + 1, 0, none⟩) 0 0] 28)).alloc (.cells #[.slice (some ⟨w.heap.size + 1 + 1 + 1 + 1, 0, none⟩) 0 0] 28) = W at *
  generalize w.heap.size + 1 + 1 + 1 + 1 + 1 + 1 = gc at *
  generalize w.heap.size + 1 + 1 + 1 + 1 + 1 = gf at *
  generalize w.heap.size + 1 + 1 + 1 + 1 = x2 at *
  generalize w.heap.size + 1 + 1 + 1 = x1 at *
  generalize w.heap.size + 1 + 1 = gk at *
  generalize w.heap.size + 1 = gp at *
  generalize w.heap.size = gl at *
  have l0 := (hC.at_ (gl, .slice Al pl.length cl) (by simp) 0 _ rfl).1
  go_wp2_with fail
  go_loopw [9, 15] (fun _ i wr => ∃ (k : Nat) (vf : Value), k ≤ pl.length ∧ i = .int .i64 k ∧ CP w0 wr gf [(gl, .slice Al pl.length cl), (gp, .slice Ap ps0.length cp), (gk, .func (.func 148) #[] #[.pointer (some ⟨go, 0, none⟩), .pointer (some ⟨gF, 0, none⟩)]), (gc, .slice (some ⟨x2, 0, none⟩) 0 0), (go, vo), (gF, .bool false)] (.slice (some ⟨x2, 0, none⟩) 0 0) vf ((pl.map (·.2)).take k)) (fun _ i _ => pl.length - (intOf i).toNat)
  case atStart => exact ⟨0, _, Nat.zero_le _, rfl, hC⟩
  case round =>
    obtain ⟨k, vf, hk, rfl, hCr⟩ := hrel
    clear hC l0
    by_cases hlt : k < pl.length
    · have hlr := hl.below hCr.below
      obtain ⟨g, off, u, rfl, hg, k0, k1, hru⟩ := hlr.cell hlt
      obtain ⟨Au, cu, rfl, _, _⟩ := hru.form
      have Hsn : Hid ((pl.map (·.2)).take (k + 1) = (pl.map (·.2)).take k ++ [pl[k].2]) := by
        show _ = _
        rw [List.take_add_one, List.getElem?_map, List.getElem?_eq_getElem hlt]; rfl
      have hfl : ((pl.map (·.2)).take k).length ≤ 6 := by simp; omega
      generalize (pl.map (·.2)).take k = fr at *
      generalize pl[k] = q at *
      obtain ⟨r, f⟩ := q
      simp only at k0 k1 hru Hsn
      obtain ⟨Af, cf, rfl, _, _⟩ := (RdS.of_own hCr.own).form
      have hal : Below wr.heap.size wr (wr.alloc (.cells #[.slice Au r.length cu, .int .i64 f] 126)) := (Below.refl _ _).alloc (Nat.le_refl _) _
      have Lq : Loc (wr.alloc (.cells #[.slice Au r.length cu, .int .i64 f] 126)) wr.heap.size [.slice Au r.length cu, .int .i64 f] := Loc.new wr #[.slice Au r.length cu, .int .i64 f] 126
      have hC1 := hCr.keep hal
      go_upto_region 5 with (fail)
      obtain ⟨gq, hgq⟩ : ∃ g, wr.heap.size = g := ⟨_, rfl⟩
      rw [hgq] at Lq
      clear k0 k1 hlr hru hCr
      generalize (wr.alloc (.cells #[.slice Au r.length cu, .int .i64 f] 126)) = W1 at *
      rw [hgq]
      clear hal hgq hg
      have b0 := (hC1.box 0 _ rfl).1
      have q1 := (Lq 1 _ rfl).1
      have hal : Below W1.heap.size W1 (W1.alloc (.cells #[.int .i64 f] 3)) := (Below.refl _ _).alloc (Nat.le_refl _) _
      have hC2 := hC1.keep hal
      have hZ2 := hC2.below.size
      go_wp2_with (at_builtin; refine wpList_appendB _ rfl (.tmp 19) (.tmp 22) _ rfl w0.heap.size 3 i0 _ 1 8 Try.underlying28 hi0 hz0 hz1 hz2 rfl (by omega) _ fr.length (fr.flatMap cInt) rfl hC2.own _ 1 [.int .i64 f] rfl (rdS_new W1 #[.int .i64 f] _ 1 1 rfl (by simp [maxLen])) (by simp [Value.oneCell']) (by simp [maxLen]; omega) (by omega) hZ2 ?_; intro v5 w5 own5 gr5 at5; obtain ⟨Lc5, HG5⟩ := hC2.grow gr5 at5; have b5 := (Lc5 0 _ rfl).1; have f5 := (Lc5 0 _ rfl).2; obtain ⟨A5, c5, rfl, _, _⟩ := (RdS.of_own own5).form; have HC5 := Lib.hid (HG5 (fr ++ [f]) (by rw [List.length_append, List.flatMap_append]; exact own5)))
      go_roundw
      case rel => exact ⟨k + 1, _, by omega, by go_num, by rw [Hsn.out]; exact HC5.out⟩
      case measure => simp [intOf]; omega
    · obtain rfl : k = pl.length := by omega
      rw [List.take_of_length_le (by simp)] at hCr
      go_upto_region 8 with (fail)
      have hal : Below wr.heap.size wr (wr.alloc (.cells #[.nilFunc] 147)) := (Below.refl _ _).alloc (Nat.le_refl _) _
      have Lr : Loc (wr.alloc (.cells #[.nilFunc] 147)) wr.heap.size [.nilFunc] := Loc.new wr #[.nilFunc] 147
      have hC1 := hCr.keep hal
      have hzr := hCr.below.size
      have hlt1 : ∀ b ∈ gf :: [gl, gp, gk, gc, go, gF], b < wr.heap.size := fun b hb => by
        rcases List.mem_cons.1 hb with rfl | hb
        · exact loc_lt hCr.box
        · obtain ⟨p, hp, e⟩ := List.mem_map.1 (show b ∈ [(gl, .slice Al pl.length cl), (gp, .slice Ap ps0.length cp), (gk, .func (.func 148) #[] #[.pointer (some ⟨go, 0, none⟩), .pointer (some ⟨gF, 0, none⟩)]), (gc, .slice (some ⟨x2, 0, none⟩) 0 0), (go, vo), (gF, .bool false)].map (·.1) from hb)
          rw [← e]; exact loc_lt (hCr.at_ p hp)
      have hvl1 : ∀ b ∈ vf.ownBlock.toList, b < wr.heap.size := fun b hb => (own_lt hCr.own b hb).2
      have hx2 : x2 < wr.heap.size := (own_lt hCr.emp x2 (by simp [Value.ownBlock])).2
      obtain ⟨gr, hgr⟩ : ∃ g, wr.heap.size = g := ⟨_, rfl⟩
      rw [hgr] at Lr hlt1 hvl1 hx2 hzr
      clear hCr
      generalize (wr.alloc (.cells #[.nilFunc] 147)) = W1 at *
      rw [hgr]
      clear hal hgr
      have r0 := (Lr 0 _ rfl).1
      have r1 := (Lr 0 _ rfl).2
      have hsf := fun (a : Addr) (f : Fn) (x y : Array Value) (m : Mode) (w : World) => run_store Try.prog w a (.func f x y) m rfl
      have hchR : Chg [gr] W1 (W1.setCell ⟨gr, 0, none⟩ (.func (.func 155) #[] #[.pointer (some ⟨gc, 0, none⟩), .pointer (some ⟨gp, 0, none⟩), .pointer (some ⟨gk, 0, none⟩), .pointer (some ⟨gl, 0, none⟩), .pointer (some ⟨gf, 0, none⟩), .pointer (some ⟨gr, 0, none⟩)])) := chg_set (Chg.refl _ _) (by simp)
      have hno : ∀ b ∈ gf :: [gl, gp, gk, gc, go, gF], b ∉ [gr] := fun b hb hb' => by have := hlt1 b hb; rw [List.mem_singleton.1 hb'] at this; omega
      have hCS : CS w0 (W1.setCell ⟨gr, 0, none⟩ (.func (.func 155) #[] #[.pointer (some ⟨gc, 0, none⟩), .pointer (some ⟨gp, 0, none⟩), .pointer (some ⟨gk, 0, none⟩), .pointer (some ⟨gl, 0, none⟩), .pointer (some ⟨gf, 0, none⟩), .pointer (some ⟨gr, 0, none⟩)])) gc gp gk gl gf gr go gF (.slice Ap ps0.length cp) (.func (.func 148) #[] #[.pointer (some ⟨go, 0, none⟩), .pointer (some ⟨gF, 0, none⟩)]) (.slice Al pl.length cl) vf (.func (.func 155) #[] #[.pointer (some ⟨gc, 0, none⟩), .pointer (some ⟨gp, 0, none⟩), .pointer (some ⟨gk, 0, none⟩), .pointer (some ⟨gl, 0, none⟩), .pointer (some ⟨gf, 0, none⟩), .pointer (some ⟨gr, 0, none⟩)]) [] (pl.map (·.2)) false := by
        have hnd := hC1.nd
        have hlg : gl < gr ∧ gp < gr ∧ gk < gr ∧ gc < gr ∧ go < gr ∧ gF < gr ∧ gf < gr := ⟨hlt1 _ (by simp), hlt1 _ (by simp), hlt1 _ (by simp), hlt1 _ (by simp), hlt1 _ (by simp), hlt1 _ (by simp), hlt1 _ (by simp)⟩
        simp only [List.map_cons, List.map_nil, List.nodup_cons, List.mem_cons, List.not_mem_nil, or_false, not_or] at hnd
        refine ⟨⟨fun b hb => ?_, ?_, hC1.below.setCell hzr _, ((hC1.at_ (gp, _) (by simp)).chg hchR (hno _ (by simp))), ((hC1.at_ (gk, _) (by simp)).chg hchR (hno _ (by simp))), ((hC1.at_ (gl, _) (by simp)).chg hchR (hno _ (by simp))), hC1.box.chg hchR (hno _ (by simp)), Lr.set (i := 0) (v := .nilFunc) rfl, ⟨vo, (hC1.at_ (go, vo) (by simp)).chg hchR (hno _ (by simp))⟩, (hC1.at_ (gF, .bool false) (by simp)).chg hchR (hno _ (by simp)), own_chg hC1.own hchR (fun b hb hb' => by have := hvl1 b hb; rw [List.mem_singleton.1 hb'] at this; omega), fun b hb => ?_⟩, .slice (some ⟨x2, 0, none⟩) 0 0, (hC1.at_ (gc, .slice (some ⟨x2, 0, none⟩) 0 0) (by simp)).chg hchR (hno _ (by simp)), own_chg hC1.emp hchR (fun b hb hb' => by simp [Value.ownBlock] at hb; have := List.mem_singleton.1 hb'; omega), fun b hb => ?_⟩
        · by_cases hbr : b = gr
          · rw [hbr]; exact hzr
          · exact hC1.base b (by simp at hb ⊢; omega)
        · simp only [BX, List.nodup_cons, List.mem_cons, List.not_mem_nil, or_false, not_or, List.nodup_nil, and_true, not_false_eq_true]
          omega
        · have h1 := hC1.ap b hb
          have h2 := hvl1 b hb
          simp at h1 ⊢
          omega
        · have h1 := (hC1.ap2 b hb).1
          have h2 := (hC1.ap2 b hb).2
          have h3 : b < gr := by simp [Value.ownBlock] at hb; omega
          rw [List.mem_append]
          rintro (h4 | h4)
          · simp at h1 h4; omega
          · exact h2 h4
      have b3 := (hCS.rest.br 0 _ rfl).1
      clear hC1 Lr hlt1 hvl1 hno
      go_upto_region 9 with (fail)
      clear hsf r0 r1
      generalize W1.setCell ⟨gr, 0, none⟩ (.func (.func 155) #[] #[.pointer (some ⟨gc, 0, none⟩), .pointer (some ⟨gp, 0, none⟩), .pointer (some ⟨gk, 0, none⟩), .pointer (some ⟨gl, 0, none⟩), .pointer (some ⟨gf, 0, none⟩), .pointer (some ⟨gr, 0, none⟩)]) = W2 at *
      have hHR := castR_any w0 _ _ _ ps0 pl hp hl hp7 hl6 gc gp gk gl gf gr go gF ps0 [] (pl.map (·.2)) (zeroL pl.length) W2 (show Hid (_ ∧ _) from ⟨rfl, Nat.zero_le _⟩) (Hands.start hfr) hCS
      clear hCS
      obtain ⟨cb, hcb⟩ : ∃ cb, canS pl ps0 (zeroL pl.length) = cb := ⟨_, rfl⟩
      rw [hcb] at hHR
      have HCB := Lib.hid hcb
      clear hcb
      go_wp2_with fail
      refine hHR.mono ?_
      rintro e W3 ⟨rfl, hC3⟩
      go_wp2_with fail
      first | go_end0 | go_ret
      exact ⟨rfl, hC3.rest.bo, by rw [HCB.out]; exact hC3.rest.bF, hC3.rest.below⟩
theorem arePuppets_any (v : Value) (l : List Int) (w : World) (h : RdL cInt 1 w v l) :
    Calls Try.prog 146 #[v] w fun e w' => e = .returned (.bool (strictB l 0 6)) ∧ Below w.heap.size w w' := by
  obtain ⟨A, c, rfl, h1, h2⟩ := h.form
  have hC := isStrict_any (.slice A l.length c) l 0 6 w h
  generalize strictB l 0 6 = b at *
  go_enter Try.func146, Try.ntmps146
  go_wp2_with fail
  refine hC.mono ?_
  rintro e w1 ⟨rfl, hb⟩
  go_wp2_with fail
  go_ret
  exact ⟨rfl, hb⟩
set_option maxHeartbeats 4000000 in
set_option maxRecDepth 100000 in
theorem implFirstCasting_any (v1 v2 : Value) (ps : List Int) (pl : List RPl) (w : World) (hl : RdPls w v1 pl) (hp : RdL cInt 1 w v2 ps) :
    Calls Try.prog 116 #[v1, v2] w (RetCast (canF pl ps) w) := by
  have hl0 := hl
  have hp0 := hp
  obtain ⟨Al, cl, rfl, _, _⟩ := hl.form
  obtain ⟨Ap, cp, rfl, _, _⟩ := hp.form
  go_enter Try.func116, Try.ntmps116
  go_wp2_with fail
  refine twoB (implPlayersOk_any _ pl _ hl) (fun w1 hq hb1 => ?_) (fun w1 hq hb1 => ?_)
  · have hp1 := hp.below hb1
    have hl1 := hl.below hb1
    obtain ⟨h6, h1, _⟩ := playersB_sz hq.out
    have Hfr := Lib.hid (playersB_fr hq.out)
    go_wp2_with fail
    refine twoB (arePuppets_any _ ps _ hp1) (fun w2 hs hb2 => ?_) (fun w2 hs hb2 => ?_)
    · have h7 := strict_len (m := 6) hs.out
      have HF := Lib.hid (canF_t hq.out hs.out)
      have hb02 := bl_trans hb1 hb2
      have ha : Below w2.heap.size w2 ((w2.alloc (.cells #[.slice none 0 0] 28)).alloc (.cells #[.bool false] 4)) := by (repeat' (first | (with_reducible exact Below.refl _ _) | (with_reducible assumption) | (with_reducible refine Below.setCell ?_ (by first | omega | (simp; omega) | (simp; done)) _) | (with_reducible refine Below.alloc ?_ (by first | omega | (simp; omega) | (simp; done)) _) | (with_reducible refine Below.drew ?_) | (with_reducible refine below_drewN ?_ _)))
      have La : Loc ((w2.alloc (.cells #[.slice none 0 0] 28)).alloc (.cells #[.bool false] 4)) w2.heap.size [.slice none 0 0] := (Loc.new w2 #[.slice none 0 0] 28).alloc _
      have Lb : Loc ((w2.alloc (.cells #[.slice none 0 0] 28)).alloc (.cells #[.bool false] 4)) (w2.heap.size + 1) [.bool false] := by have := Loc.new (w2.alloc (.cells #[.slice none 0 0] 28)) #[.bool false] 4; simpa using this
      have hb03 := bl_trans hb02 ha
      have hz := hb02.size
      have hC := castings_any w ((w2.alloc (.cells #[.slice none 0 0] 28)).alloc (.cells #[.bool false] 4)) _ _ ps pl hp0 hl0 (by omega) h6 Hfr.out w2.heap.size (w2.heap.size + 1) hb03 hz (by omega) (by omega) _ La Lb
      clear ha La Lb hb1 hb2 hp1 hl1 hp hl
      obtain ⟨cb, hcb⟩ : ∃ cb, canS pl ps (zeroL pl.length) = cb := ⟨_, rfl⟩
      rw [hcb] at hC HF
      clear hcb
      go_wp2_with fail
      refine hC.mono ?_
      rintro e w3 ⟨rfl, ⟨vo, Lo⟩, LF, hb⟩
      have b0 := (Lo 0 _ rfl).1
      have b1 := (LF 0 _ rfl).1
      clear hC
      go_wp2_with fail
      go_quiet (fail)
      rename_i nq
      go_wp2_with fail
      go_ret2
      rw [HF.out]
      exact ⟨_, rfl, below_drewN hb _⟩
    · have HF := Lib.hid (canF_f2 (pl := pl) hs.out)
      have hb02 := bl_trans hb1 hb2
      go_wp2_with fail
      go_ret2
      rw [HF.out]
      exact ⟨_, rfl, hb02⟩
  · have HF := Lib.hid (canF_f1 (ps := ps) hq.out)
    go_wp2_with fail
    go_ret2
    rw [HF.out]
    exact ⟨_, rfl, hb1⟩
set_option maxHeartbeats 4000000 in
theorem canPlay_any (v1 v2 : Value) (ps : List Int) (pl : List RPl) (w : World) (hl : RdPls w v1 pl) (hp : RdL cInt 1 w v2 ps) :
    Calls Try.prog 65 #[v1, v2] w fun e w' => e = .returned (.bool (canF pl ps)) ∧ Below w.heap.size w w' := by
  have hC := implFirstCasting_any v1 v2 ps pl w hl hp
  obtain ⟨Al, cl, rfl, _, _⟩ := hl.form
  obtain ⟨Ap, cp, rfl, _, _⟩ := hp.form
  generalize canF pl ps = cb at *
  go_enter Try.func65, Try.ntmps65
  go_wp2_with fail
  refine hC.mono ?_
  rintro e w1 ⟨vo, rfl, hb⟩
  go_wp2_with fail
  go_ret
  exact ⟨rfl, hb⟩
end Go.Proofs.Ytjbhlbcjljdjmaa

namespace Go.Proofs.Ytjbhlbcjljdjmaa
open Go.RowKit
def SeaPost (w0 : World) (vd : Value) (ld : List Int) (b : Bool) (w : World) (e : Ending) (w' : World) : Prop := ∃ vx, e = .returned (.tuple #[vx, .bool b]) ∧ w'.ownsRow w0.heap.size 3 1 vd ld.length (ld.flatMap cInt) ∧ Chg vd.ownBlock.toList w w'
theorem act83ls {a : Act} (h : a.tmps.size = 83) (hd : a.defers = []) : ∃ x0 x1 x2 x3 x4 x5 x6 x7 x8 x9 x10 x11 x12 x13 x14 x15 x16 x17 x18 x19 x20 x21 x22 x23 x24 x25 x26 x27 x28 x29 x30 x31 x32 x33 x34 x35 x36 x37 x38 x39 x40 x41 x42 x43 x44 x45 x46 x47 x48 x49 x50 x51 x52 x53 x54 x55 x56 x57 x58 x59 x60 x61 x62 x63 x64 x65 x66 x67 x68 x69 x70 x71 x72 x73 x74 x75 x76 x77 x78 x79 x80 x81 x82 : Value, a = ⟨#[x0, x1, x2, x3, x4, x5, x6, x7, x8, x9, x10, x11, x12, x13, x14, x15, x16, x17, x18, x19, x20, x21, x22, x23, x24, x25, x26, x27, x28, x29, x30, x31, x32, x33, x34, x35, x36, x37, x38, x39, x40, x41, x42, x43, x44, x45, x46, x47, x48, x49, x50, x51, x52, x53, x54, x55, x56, x57, x58, x59, x60, x61, x62, x63, x64, x65, x66, x67, x68, x69, x70, x71, x72, x73, x74, x75, x76, x77, x78, x79, x80, x81, x82], []⟩ := by
  obtain ⟨⟨l⟩, d⟩ := a
  subst hd
  match l, h with
  | x0 :: x1 :: x2 :: x3 :: x4 :: x5 :: x6 :: x7 :: x8 :: x9 :: x10 :: x11 :: x12 :: x13 :: x14 :: x15 :: x16 :: x17 :: x18 :: x19 :: x20 :: x21 :: x22 :: x23 :: x24 :: x25 :: x26 :: x27 :: x28 :: x29 :: x30 :: x31 :: x32 :: x33 :: x34 :: x35 :: x36 :: x37 :: x38 :: x39 :: x40 :: x41 :: x42 :: x43 :: x44 :: x45 :: x46 :: x47 :: x48 :: x49 :: x50 :: x51 :: x52 :: x53 :: x54 :: x55 :: x56 :: x57 :: x58 :: x59 :: x60 :: x61 :: x62 :: x63 :: x64 :: x65 :: x66 :: x67 :: x68 :: x69 :: x70 :: x71 :: x72 :: x73 :: x74 :: x75 :: x76 :: x77 :: x78 :: x79 :: x80 :: x81 :: x82 :: [], _ => exact ⟨x0, x1, x2, x3, x4, x5, x6, x7, x8, x9, x10, x11, x12, x13, x14, x15, x16, x17, x18, x19, x20, x21, x22, x23, x24, x25, x26, x27, x28, x29, x30, x31, x32, x33, x34, x35, x36, x37, x38, x39, x40, x41, x42, x43, x44, x45, x46, x47, x48, x49, x50, x51, x52, x53, x54, x55, x56, x57, x58, x59, x60, x61, x62, x63, x64, x65, x66, x67, x68, x69, x70, x71, x72, x73, x74, x75, x76, x77, x78, x79, x80, x81, x82, rfl⟩
def pls (gv ldn cd k g off pln cl gx ox psn cp cl0 : Nat) (lk f x : Int) (Au : Option Addr) (n cu : Nat) (kn : Bool) (i : Nat) (v : Value) (_ : Nat → Nat) (w : World) : Prop :=
  match i with
  | 0 => v = .slice (some ⟨gv, 0, none⟩) ldn cd
  | 1 => v = .int .i64 k
  | 2 => v = .pointer (some ⟨gv, k, none⟩)
  | 3 => v = .int .i64 lk
  | 4 => v = .slice (some ⟨g, off, none⟩) pln cl
  | 5 => v = .int .i64 k
  | 6 => v = .pointer (some ⟨g, (off + k * 2), none⟩)
  | 7 => v = .pointer (some ⟨g, (off + k * 2 + 1), none⟩)
  | 8 => v = .int .i64 f
  | 9 => v = .bool false
  | 10 => v = .bool false
  | 11 => v = .slice (some ⟨g, off, none⟩) pln cl
  | 12 => v = .int .i64 k
  | 13 => v = .pointer (some ⟨g, (off + k * 2), none⟩)
  | 14 => v = .agg #[.slice Au n cu, .int .i64 f]
  | 15 => v = .slice (some ⟨gx, ox, none⟩) psn cp
  | 16 => v = .int .i64 cl0
  | 17 => v = .pointer (some ⟨gx, (ox + cl0), none⟩)
  | 18 => v = .int .i64 x
  | 19 => v = .bool kn
  | 20 => v = .bool (!kn)
  | _ => True
set_option maxHeartbeats 8000000 in
set_option maxRecDepth 100000 in
theorem search_any (w0 : World) (vp vl : Value) (ps0 : List Int) (pl : List RPl) (hp : RdL cInt 1 w0 vp ps0) (hl : RdPls w0 vl pl) (hp7 : ps0.length ≤ 7) (hl6 : pl.length ≤ 6) : ∀ (ps cast fr ld : List Int) (vc vd : Value) (w : World), Hid (ps0.drop cast.length = ps ∧ cast.length ≤ ps0.length) → Hands pl ld fr → Below w0.heap.size w0 w → w.ownsRow w0.heap.size 3 1 vd ld.length (ld.flatMap cInt) → w.ownsRow 0 3 1 vc cast.length (cast.flatMap cInt) → Apart vc vd →
    Calls Try.prog 97 #[vl, vp, vc, vd] w (SeaPost w0 vd ld (canS pl ps ld) w) := by
  intro ps
  obtain ⟨i0, hi0, hz0, hz1, hz2⟩ := info_parts infoInt
  induction ps with
  | nil =>
    intro cast fr ld vc vd w hps hhd hb hown hcast hap
    have hlen : cast.length = ps0.length := by
      have h1 := congrArg List.length hps.out.1
      have h2 := hps.out.2
      simp at h1
      omega
    have hbe : ((cast.length : Int) == (ps0.length : Int)) = true := by rw [beq_iff_eq]; omega
    have hc7 : cast.length ≤ 7 := by omega
    have hz := hb.size
    clear hlen hps hhd
    show Calls Try.prog 97 _ w (SeaPost w0 vd ld true w)
    obtain ⟨Ac, cc, rfl, _, _⟩ := (RdS.of_own hcast).form
    obtain ⟨Ad, cd, rfl, _, _⟩ := (RdS.of_own hown).form
    obtain ⟨Ap, cp, rfl, _, _⟩ := (hp.below hb).form
    obtain ⟨Al, cl, rfl, _, _⟩ := (hl.below hb).form
    go_enter Try.func97, Try.ntmps97
    go_wp2_with (at_builtin; refine wpList_append_empty _ rfl (.tmp 20) (.tmp 21) _ rfl w0.heap.size 3 i0 _ 1 8 Try.underlying28 hi0 hz0 hz1 hz2 rfl (by omega) w.heap.size rfl (own_mono (World.ownsRow_made (size := 1) (e := 3) w #[] 0 (Nat.le_refl _) (by simp [maxLen]) rfl) (by omega)) _ cast.length (cast.flatMap cInt) rfl (RdS.of_own (own_below hcast ((Below.refl _ _).alloc (Nat.le_refl _) _))) (oneCell_flat cInt_one cast) (by simp [maxLen]; omega) (by omega) (by simp <;> omega) ?_; intro v5 w5 own5 hb5 in5)
    obtain ⟨A5, c5, rfl, _, _⟩ := (RdS.of_own own5).form
    have hb6 : Below w.heap.size w w5 := bl_alloc hb5
    go_wp2_with fail
    go_ret2
    exact ⟨_, rfl, own_below hown hb6, Chg.of_below hb6 _⟩
  | cons x ps ih =>
    intro cast fr ld vc vd w hps hhd hb hown hcast hap
    have hcp : cast.length < ps0.length := by
      have h1 := congrArg List.length hps.out.1
      simp at h1
      omega
    have hdr := hps.out.1
    rw [List.drop_eq_getElem_cons hcp] at hdr
    injection hdr with hdr1 hdr2
    have hpx : ∀ h : cast.length < ps0.length, ps0[cast.length] = x := fun _ => hdr1
    have Hps2 := Lib.hid hdr2
    clear hdr1 hdr2
    have hHD := Lib.hid hhd
    obtain ⟨Ac, cc, rfl, _, _⟩ := (RdS.of_own hcast).form
    obtain ⟨Ad, cd, rfl, _, _⟩ := (RdS.of_own hown).form
    obtain ⟨Ap, cp, rfl, _, _⟩ := (hp.below hb).form
    obtain ⟨Al, cl, rfl, _, _⟩ := (hl.below hb).form
    have hne : ((cast.length : Int) == (ps0.length : Int)) = false := by rw [beq_eq_false_iff_ne]; omega
    have Hpx := Lib.hid hpx
    have HI := Lib.hid ih
    have Hap := Lib.hid hap
    clear ih hps hpx hap
    go_enter Try.func97, Try.ntmps97
    go_wp2_with fail
    go_loopw [11, 12, 13] (fun i _ _ wr => ∃ k : Nat, k ≤ pl.length ∧ i = .int .i64 k ∧ Hid (TriedF pl x ps ld k) ∧ Below w0.heap.size w0 wr ∧ wr.ownsRow w0.heap.size 3 1 (.slice Ad ld.length cd) ld.length (ld.flatMap cInt) ∧ wr.ownsRow 0 3 1 (.slice Ac cast.length cc) cast.length (cast.flatMap cInt) ∧ Chg (Value.slice Ad ld.length cd).ownBlock.toList w wr) (fun i _ _ _ => pl.length - (intOf i).toNat)
    case atStart => exact ⟨0, Nat.zero_le _, rfl, TriedF.zero _ _ _ _, hb, hown, hcast, Chg.refl _ _⟩
    case round =>
      obtain ⟨k, hk, rfl, htr, hbr, ho, hca, hch⟩ := hrel
      clear hb hown hcast
      by_cases hlt : k < pl.length
      · have hlr := hl.below hbr
        have hzr := hbr.size
        obtain ⟨g, off, u, rfl, hg, k0, k1, hru⟩ := hlr.cell hlt
        have hkl : k < ld.length := by have := hHD.out.l1; omega
        have hkf : k < fr.length := by have := hHD.out.l2; omega
        obtain ⟨gv, cv, e⟩ := own_form ho (by omega)
        injection e with e1 e2 e3
        subst e1 e3
        clear e2
        have HCN := Lib.hid (canAt_eq (pl := pl) (x := x) hlt hkl)
        obtain ⟨Au, cu, rfl, _, _⟩ := hru.form
        have HAT := Lib.hid (hHD.out.at_ k hlt hkl hkf)
        have v0 := row_cell ho hkl
        have vf0 := ho.frozenAt k
        obtain ⟨lk, hlk⟩ : ∃ lk, ld[k] = lk := ⟨_, rfl⟩
        have HBU := Lib.hid (bump_eq (ld := ld) (p := k) hkl)
        have HUB := Lib.hid (unbump (ld := ld) (p := k) hkl)
        rw [hlk] at v0 HCN HAT HBU HUB
        have HLK := Lib.hid hlk
        clear hlk
        generalize hqk : pl[k] = q at *
        obtain ⟨r, f⟩ := q
        simp only at k0 k1 hru HCN HAT
        have hlb : 0 ≤ lk ∧ lk ≤ 2 := by have := HAT.out; omega
        have hpw := hp.below hbr
        obtain ⟨gx, ox, rfl, hgx, hcx⟩ := hpw.cell (k := cast.length) cInt_len (by omega) hcp
        have x0 := hcx 0 _ rfl
        simp only [Nat.add_zero, Nat.mul_one] at x0
        rw [Hpx.out hcp] at x0
        clear hcx hpw hqk
        have hcl : ((cast.length : Nat) : Int) < ((ps0.length : Nat) : Int) := by omega
        obtain ⟨kn, hkn⟩ : ∃ kn, knowsB (r, f) x = kn := ⟨_, rfl⟩
        rw [hkn] at HCN
        have HKW : Hid (∀ w, RdL cInt 1 w (.slice Au r.length cu) r → Calls Try.prog 137 #[.agg #[.slice Au r.length cu, .int .i64 f], .int .i64 x] w fun e w' => e = .returned (.bool kn) ∧ Below w.heap.size w w') := fun w h => by rw [← hkn]; exact l13Knows_any _ r f x w h
        clear hkn hlr
        by_cases hge : f ≤ lk
        · have hd : decide (f ≤ lk) = true := decide_eq_true hge
          have HN := Lib.hid (htr.out.no (show canAt pl x ld k = false by rw [HCN.out, decide_eq_false (by omega)]; rfl))
          go_wp2_with fail
          go_quiet (fail)
          rename_i nq
          have ho2 : (wr.drewN nq).ownsRow w0.heap.size 3 1 (.slice (some ⟨gv, 0, none⟩) ld.length cd) ld.length (ld.flatMap cInt) := ho
          have hca2 : (wr.drewN nq).ownsRow 0 3 1 (.slice Ac cast.length cc) cast.length (cast.flatMap cInt) := hca
          have hbr2 := below_drewN hbr nq
          have hch2 := chg_drewN hch nq
          clear k0 k1 v0 vf0 x0 hru ho hca hbr hch
          generalize wr.drewN nq = W2 at *
          go_wp2_with fail
          go_roundw
          case rel => exact ⟨k + 1, by omega, by go_num, HN.out, hbr2, ho2, hca2, hch2⟩
          case measure => simp [intOf]; omega
        · have hd : decide (f ≤ lk) = false := decide_eq_false hge
          have hd' : decide (lk < f) = true := decide_eq_true (by omega)
          go_upto_region 7 with (fail)
          refine region_guardedL (n := 83) 21 (by kernel_rfl) rfl (by kernel_rfl) [10] (by kernel_rfl) (fun j => if j = 10 then false else false) (fun w' => Below wr.heap.size wr w') (fun _ => 0) (pls gv ld.length cd k g off pl.length cl gx ox ps0.length cp cast.length lk f x Au r.length cu kn) ⟨fun _ _ _ h => h, trivial⟩ (Below.refl _ _).drew ?_ ?_ ?_
          · intro i v gh gh' w1 w2 hp hJ hb' hg
            match i, hp with
            | 0, hp => exact hp
            | 1, hp => exact hp
            | 2, hp => exact hp
            | 3, hp => exact hp
            | 4, hp => exact hp
            | 5, hp => exact hp
            | 6, hp => exact hp
            | 7, hp => exact hp
            | 8, hp => exact hp
            | 9, hp => exact hp
            | 10, hp => exact hp
            | 11, hp => exact hp
            | 12, hp => exact hp
            | 13, hp => exact hp
            | 14, hp => exact hp
            | 15, hp => exact hp
            | 16, hp => exact hp
            | 17, hp => exact hp
            | 18, hp => exact hp
            | 19, hp => exact hp
            | 20, hp => exact hp
            | _ + 21, _ => trivial
          · refine ⟨?_, ?_, ?_, ?_, ?_, ?_, ?_, ?_, ?_, ?_, ?_, ?_, ?_, ?_, ?_, ?_, ?_, ?_, ?_, ?_, ?_, trivial⟩
            · intro a gh w5 hag hJ hd
              dsimp only [bareO]
              have ag3 : a.tmps.getD 3 undef = .slice (some ⟨gv, 0, none⟩) ld.length cd := hag.kept 3 (by kernel_rfl)
              clear hag
              go_wp2_with fail
              exact ⟨rfl, _, rfl, rfl, hJ, Below.refl _ _⟩
            · intro a gh w5 hag hJ hd
              dsimp only [bareO]
              have ag11 : a.tmps.getD 11 undef = .int .i64 k := hag.kept 11 (by kernel_rfl)
              clear hag
              go_wp2_with fail
              exact ⟨rfl, _, rfl, rfl, hJ, Below.refl _ _⟩
            · intro a gh w5 hag hJ hd
              dsimp only [bareO]
              clear hag
              have e0 : a.tmps.getD 29 undef = .slice (some ⟨gv, 0, none⟩) ld.length cd := hd 0 (by kernel_rfl) _ rfl
              have e1 : a.tmps.getD 30 undef = .int .i64 k := hd 1 (by kernel_rfl) _ rfl
              go_wp2_with fail
              exact ⟨rfl, _, rfl, rfl, hJ, Below.refl _ _⟩
            · intro a gh w5 hag hJ hd
              dsimp only [bareO]
              clear hag
              have e0 : a.tmps.getD 31 undef = .pointer (some ⟨gv, k, none⟩) := hd 2 (by kernel_rfl) _ rfl
              have k0 := carry hJ v0
              go_wp2_with fail
              exact ⟨rfl, _, rfl, rfl, hJ, Below.refl _ _⟩
            · intro a gh w5 hag hJ hd
              dsimp only [bareO]
              have ag0 : a.tmps.getD 0 undef = .slice (some ⟨g, off, none⟩) pl.length cl := hag.kept 0 (by kernel_rfl)
              clear hag
              go_wp2_with fail
              exact ⟨rfl, _, rfl, rfl, hJ, Below.refl _ _⟩
            · intro a gh w5 hag hJ hd
              dsimp only [bareO]
              have ag11 : a.tmps.getD 11 undef = .int .i64 k := hag.kept 11 (by kernel_rfl)
              clear hag
              go_wp2_with fail
              exact ⟨rfl, _, rfl, rfl, hJ, Below.refl _ _⟩
            · intro a gh w5 hag hJ hd
              dsimp only [bareO]
              clear hag
              have e0 : a.tmps.getD 33 undef = .slice (some ⟨g, off, none⟩) pl.length cl := hd 4 (by kernel_rfl) _ rfl
              have e1 : a.tmps.getD 34 undef = .int .i64 k := hd 5 (by kernel_rfl) _ rfl
              go_wp2_with fail
              exact ⟨rfl, _, rfl, rfl, hJ, Below.refl _ _⟩
            · intro a gh w5 hag hJ hd
              dsimp only [bareO]
              clear hag
              have e0 : a.tmps.getD 35 undef = .pointer (some ⟨g, (off + k * 2), none⟩) := hd 6 (by kernel_rfl) _ rfl
              go_wp2_with fail
              exact ⟨rfl, _, rfl, rfl, hJ, Below.refl _ _⟩
            · intro a gh w5 hag hJ hd
              dsimp only [bareO]
              clear hag
              have e0 : a.tmps.getD 36 undef = .pointer (some ⟨g, (off + k * 2 + 1), none⟩) := hd 7 (by kernel_rfl) _ rfl
              have k0 := carry hJ k1
              go_wp2_with fail
              exact ⟨rfl, _, rfl, rfl, hJ, Below.refl _ _⟩
            · intro a gh w5 hag hJ hd
              dsimp only [bareO]
              clear hag
              have e0 : a.tmps.getD 32 undef = .int .i64 lk := hd 3 (by kernel_rfl) _ rfl
              have e1 : a.tmps.getD 37 undef = .int .i64 f := hd 8 (by kernel_rfl) _ rfl
              go_wp2_with fail
              exact ⟨rfl, _, rfl, rfl, hJ, Below.refl _ _⟩
            · intro a gh w5 hag hJ hd
              dsimp only [bareO]
              clear hag
              have e0 : a.tmps.getD 38 undef = .bool false := hd 9 (by kernel_rfl) _ rfl
              go_wp2_with fail
              exact ⟨rfl, _, rfl, rfl, hJ, Below.refl _ _⟩
            · intro a gh w5 hag hJ hd
              dsimp only [bareO]
              have ag0 : a.tmps.getD 0 undef = .slice (some ⟨g, off, none⟩) pl.length cl := hag.kept 0 (by kernel_rfl)
              clear hag
              go_wp2_with fail
              exact ⟨rfl, _, rfl, rfl, hJ, Below.refl _ _⟩
            · intro a gh w5 hag hJ hd
              dsimp only [bareO]
              have ag11 : a.tmps.getD 11 undef = .int .i64 k := hag.kept 11 (by kernel_rfl)
              clear hag
              go_wp2_with fail
              exact ⟨rfl, _, rfl, rfl, hJ, Below.refl _ _⟩
            · intro a gh w5 hag hJ hd
              dsimp only [bareO]
              clear hag
              have e0 : a.tmps.getD 40 undef = .slice (some ⟨g, off, none⟩) pl.length cl := hd 11 (by kernel_rfl) _ rfl
              have e1 : a.tmps.getD 41 undef = .int .i64 k := hd 12 (by kernel_rfl) _ rfl
              go_wp2_with fail
              exact ⟨rfl, _, rfl, rfl, hJ, Below.refl _ _⟩
            · intro a gh w5 hag hJ hd
              dsimp only [bareO]
              clear hag
              have e0 : a.tmps.getD 42 undef = .pointer (some ⟨g, (off + k * 2), none⟩) := hd 13 (by kernel_rfl) _ rfl
              have k2 := carry hJ k0
              have k3 := carry hJ k1
              go_wp2_with fail
              exact ⟨rfl, _, rfl, rfl, hJ, Below.refl _ _⟩
            · intro a gh w5 hag hJ hd
              dsimp only [bareO]
              have ag1 : a.tmps.getD 1 undef = .slice (some ⟨gx, ox, none⟩) ps0.length cp := hag.kept 1 (by kernel_rfl)
              clear hag
              go_wp2_with fail
              exact ⟨rfl, _, rfl, rfl, hJ, Below.refl _ _⟩
            · intro a gh w5 hag hJ hd
              dsimp only [bareO]
              have ag10 : a.tmps.getD 10 undef = .int .i64 cast.length := hag.kept 10 (by kernel_rfl)
              clear hag
              go_wp2_with fail
              exact ⟨rfl, _, rfl, rfl, hJ, Below.refl _ _⟩
            · intro a gh w5 hag hJ hd
              dsimp only [bareO]
              clear hag
              have e0 : a.tmps.getD 44 undef = .slice (some ⟨gx, ox, none⟩) ps0.length cp := hd 15 (by kernel_rfl) _ rfl
              have e1 : a.tmps.getD 45 undef = .int .i64 cast.length := hd 16 (by kernel_rfl) _ rfl
              go_wp2_with fail
              exact ⟨rfl, _, rfl, rfl, hJ, Below.refl _ _⟩
            · intro a gh w5 hag hJ hd
              dsimp only [bareO]
              clear hag
              have e0 : a.tmps.getD 46 undef = .pointer (some ⟨gx, (ox + cast.length), none⟩) := hd 17 (by kernel_rfl) _ rfl
              have k2 := carry hJ x0
              go_wp2_with fail
              exact ⟨rfl, _, rfl, rfl, hJ, Below.refl _ _⟩
            · intro a gh w5 hag hJ hd
              dsimp only [bareO]
              clear hag
              have e0 : a.tmps.getD 43 undef = .agg #[.slice Au r.length cu, .int .i64 f] := hd 14 (by kernel_rfl) _ rfl
              have e1 : a.tmps.getD 47 undef = .int .i64 x := hd 18 (by kernel_rfl) _ rfl
              go_wp2_with fail
              refine (HKW.out w5 (hru.below hJ)).mono ?_
              rintro e w6 ⟨rfl, hb6⟩
              go_wp2_with fail
              exact ⟨rfl, _, rfl, rfl, bl_trans hJ hb6, hb6⟩
            · intro a gh w5 hag hJ hd
              dsimp only [bareO]
              clear hag
              have e0 : a.tmps.getD 48 undef = .bool kn := hd 19 (by kernel_rfl) _ rfl
              go_wp2_with fail
              exact ⟨rfl, _, rfl, rfl, hJ, Below.refl _ _⟩
          · intro a gh w5 hag hJ hd
            obtain ⟨x0, x1, x2, x3, x4, x5, x6, x7, x8, x9, x10, x11, x12, x13, x14, x15, x16, x17, x18, x19, x20, x21, x22, x23, x24, x25, x26, x27, x28, x29, x30, x31, x32, x33, x34, x35, x36, x37, x38, x39, x40, x41, x42, x43, x44, x45, x46, x47, x48, x49, x50, x51, x52, x53, x54, x55, x56, x57, x58, x59, x60, x61, x62, x63, x64, x65, x66, x67, x68, x69, x70, x71, x72, x73, x74, x75, x76, x77, x78, x79, x80, x81, x82, rfl⟩ := act83ls hag.size hag.defers
            have ag0 : x0 = .slice (some ⟨g, off, none⟩) pl.length cl := hag.kept 0 (by kernel_rfl)
            have ag1 : x1 = .slice (some ⟨gx, ox, none⟩) ps0.length cp := hag.kept 1 (by kernel_rfl)
            have ag2 : x2 = .slice Ac cast.length cc := hag.kept 2 (by kernel_rfl)
            have ag3 : x3 = .slice (some ⟨gv, 0, none⟩) ld.length cd := hag.kept 3 (by kernel_rfl)
            have ag4 : x4 = undef := hag.kept 4 (by kernel_rfl)
            have ag5 : x5 = undef := hag.kept 5 (by kernel_rfl)
            have ag6 : x6 = undef := hag.kept 6 (by kernel_rfl)
            have ag7 : x7 = undef := hag.kept 7 (by kernel_rfl)
            have ag8 : x8 = u8 := hag.kept 8 (by kernel_rfl)
            have ag9 : x9 = u9 := hag.kept 9 (by kernel_rfl)
            have ag10 : x10 = .int .i64 cast.length := hag.kept 10 (by kernel_rfl)
            have ag11 : x11 = .int .i64 k := hag.kept 11 (by kernel_rfl)
            have ag14 : x14 = .slice Ac cast.length cc := hag.kept 14 (by kernel_rfl)
            have ag15 : x15 = .int .i64 cast.length := hag.kept 15 (by kernel_rfl)
            have ag16 : x16 = .int .i64 cast.length := hag.kept 16 (by kernel_rfl)
            have ag17 : x17 = .slice (some ⟨gx, ox, none⟩) ps0.length cp := hag.kept 17 (by kernel_rfl)
            have ag18 : x18 = .int .i64 ps0.length := hag.kept 18 (by kernel_rfl)
            have ag19 : x19 = .bool false := hag.kept 19 (by kernel_rfl)
            have ag20 : x20 = undef := hag.kept 20 (by kernel_rfl)
            have ag21 : x21 = undef := hag.kept 21 (by kernel_rfl)
            have ag22 : x22 = undef := hag.kept 22 (by kernel_rfl)
            have ag82 : x82 = undef := hag.kept 82 (by kernel_rfl)
            clear hag
            subst ag0 ag1 ag2 ag3 ag4 ag5 ag6 ag7 ag8 ag9 ag10 ag11 ag14 ag15 ag16 ag17 ag18 ag19 ag20 ag21 ag22 ag82
            obtain e1 : x39 = .bool false := hd 10 (by kernel_rfl) _ rfl
            obtain e2 : x49 = .bool (!kn) := hd 20 (by kernel_rfl) _ rfl
            subst e1 e2
            change wpList _ _ _ [_] _ _
            have ho2 := own_below ho hJ
            have hca2 := own_below hca hJ
            have hbr2 := hbr.trans (hJ.mono hzr)
            have hch2 := hch.trans (Chg.of_below hJ _)
            have hz5 := hbr2.size
            have v1 := carry hJ v0
            have vf1 := carryF hJ v0 vf0
            clear hJ hd k0 k1 v0 vf0 x0 hru ho hca hbr hch hzr hg hgx
            cases kn
            · have HN := Lib.hid (htr.out.no (show canAt pl x ld k = false by rw [HCN.out, Bool.and_false]))
              go_wp2_with fail
              go_roundw
              case rel => exact ⟨k + 1, by omega, by go_num, HN.out, hbr2, ho2, hca2, hch2⟩
              case measure => simp [intOf]; omega
            · have HCT := Lib.hid (show canAt pl x ld k = true by rw [HCN.out, hd']; rfl)
              have hw1 : IntKind.i64.wrap (lk + 1) = lk + 1 := IntWalk.i64_in _ (by omega)
              have hd5 : ∀ b ∈ (Value.slice (some ⟨gv, 0, none⟩) ld.length cd).ownBlock.toList, b = gv := fun b hb => by simpa [Value.ownBlock] using hb
              have hgv := own_lt ho2 gv (by simp [Value.ownBlock])
              have HLS : Hid (Hands pl (bump ld k) (fr.set k (fr[k] - 1))) := hHD.out.less hkf (by have := HAT.out; omega)
              go_upto_region 9 with (fail)
              have hch6 : Chg (Value.slice (some ⟨gv, 0, none⟩) ld.length cd).ownBlock.toList w5 (w5.setCell ⟨gv, k, none⟩ (.int .i64 (lk + 1))) := chg_set (Chg.refl _ _) (by simp [Value.ownBlock])
              have ho6 : (w5.setCell ⟨gv, k, none⟩ (.int .i64 (lk + 1))).ownsRow w0.heap.size 3 1 (.slice (some ⟨gv, 0, none⟩) ld.length cd) (bump ld k).length ((bump ld k).flatMap cInt) := by rw [bump_len, HBU.out]; exact row_stored ho2 k (lk + 1)
              have hca6 := own_chg hca2 hch6 Hap.out
              have hbr6 := Below.chg hbr2 hch6 hz5 (fun b hb => by rw [hd5 b hb]; exact hgv.1)
              have hz6 := hch6.size
              clear hw1 v1 vf1
              generalize w5.setCell ⟨gv, k, none⟩ (.int .i64 (lk + 1)) = W6 at *
              go_wp2_with (at_builtin; first | (refine wpList_append_empty _ rfl (.tmp 62) (.tmp 63) _ rfl W6.heap.size 3 i0 _ 1 8 Try.underlying28 hi0 hz0 hz1 hz2 rfl (by omega) W6.heap.size rfl (own_mono (World.ownsRow_made (size := 1) (e := 3) W6 #[] 0 (Nat.le_refl _) (by simp [maxLen]) rfl) (by omega)) _ cast.length (cast.flatMap cInt) rfl (RdS.of_own (own_below hca6 ((Below.refl _ _).alloc (Nat.le_refl _) _))) (oneCell_flat cInt_one cast) (by simp [maxLen]; omega) (by omega) (by simp <;> omega) ?_; intro v7 v7w own7 hb7 in7; obtain ⟨A7, c7, rfl, _, _⟩ := (RdS.of_own own7).form; have hb7' : Below W6.heap.size W6 v7w := bl_alloc hb7; have hz7 := hb7'.size) | (refine wpList_appendB _ rfl (.tmp 64) (.tmp 66) _ rfl W6.heap.size 3 i0 _ 1 8 Try.underlying28 hi0 hz0 hz1 hz2 rfl (by omega) _ cast.length (cast.flatMap cInt) rfl (own_below own7 ((Below.refl _ _).alloc (Nat.le_refl _) _)) _ 1 [.int .i64 k] rfl (rdS_new v7w #[.int .i64 k] _ 1 1 rfl (by simp [maxLen])) (by simp [Value.oneCell']) (by simp [maxLen]; omega) (by omega) (by simp; omega) ?_; intro v8 w8 own8 gr8 at8; obtain ⟨A8, c8, rfl, _, _⟩ := (RdS.of_own own8).form))
              have hb8 : Below W6.heap.size W6 w8 := (hb7'.alloc (by omega) _).trans (below_own (own_below own7 ((Below.refl _ _).alloc (Nat.le_refl _) _)) gr8 (by simp; omega))
              have ho8 := own_below ho6 hb8
              have hbr8 := hbr6.trans (hb8.mono (by omega))
              have own8' : w8.ownsRow 0 3 1 (.slice A8 (cast.length + 1) c8) (cast ++ [(k : Int)]).length ((cast ++ [(k : Int)]).flatMap cInt) := by rw [List.length_append, List.flatMap_append]; exact own_mono own8 (Nat.zero_le _)
              have hap8 : Apart (.slice A8 (cast.length + 1) c8) (.slice (some ⟨gv, 0, none⟩) ld.length cd) := fun b hb hb' => by have := (own_lt own8 b hb).1; rw [hd5 b hb'] at this; omega
              have hI := HI.out (cast ++ [(k : Int)]) (fr.set k (fr[k] - 1)) (bump ld k) _ _ w8 (show Hid (_ ∧ _) from ⟨by rw [List.length_append]; exact Hps2.out, by simp; omega⟩) HLS.out hbr8 ho8 own8' hap8
              obtain ⟨cb, hcb⟩ : ∃ cb, canS pl ps (bump ld k) = cb := ⟨_, rfl⟩
              rw [hcb] at hI
              have HCB := Lib.hid hcb
              clear hcb own8 own8' hap8 ho8 gr8 at8 own7 in7 hb7 hb7'
              refine hI.mono ?_
              rintro e w9 ⟨vx, rfl, ho9, hch9⟩
              rw [bump_len] at ho9
              have hc9 := row_cell ho9 (k := k) (by rw [bump_len]; exact hkl)
              have hf9 := ho9.frozenAt k
              have hbk : (bump ld k)[k]'(by rw [bump_len]; exact hkl) = lk + 1 := by simp only [HBU.out, List.getElem_set_self]
              rw [hbk] at hc9
              obtain ⟨l1, hl1⟩ : ∃ l1, lk + 1 = l1 := ⟨_, rfl⟩
              rw [hl1] at hc9
              have hw1 : IntKind.i64.wrap (l1 - 1) = lk := by rw [IntWalk.i64_in _ (by omega)]; omega
              clear hI hl1 hbk
              have HO10 := Lib.hid (row_stored ho9 k lk)
              rw [HUB.out] at HO10
              have HC10 : Hid (Chg (Value.slice (some ⟨gv, 0, none⟩) ld.length cd).ownBlock.toList w5 (w9.setCell ⟨gv, k, none⟩ (.int .i64 lk))) := chg_set (hch6.trans ((Chg.of_below hb8 _).trans hch9)) (by simp [Value.ownBlock])
              clear ho9 hch9 hch6 hb8 hca6 ho6 hbr6 hbr8
              go_upto_region 11 with (fail)
              have ho10 := HO10.out
              have hc10 := HC10.out
              clear HO10 HC10 hc9 hf9 hw1
              generalize w9.setCell ⟨gv, k, none⟩ (.int .i64 lk) = W10 at *
              have hca10 := own_chg hca2 hc10 Hap.out
              have hbr10 := Below.chg hbr2 hc10 hz5 (fun b hb => by rw [hd5 b hb]; exact hgv.1)
              have hch10 := hch2.trans hc10
              cases cb
              · have HN := Lib.hid (htr.out.sub HCB.out)
                go_wp2_with fail
                go_roundw
                case rel => exact ⟨k + 1, by omega, by go_num, HN.out, hbr10, ho10, hca10, hch10⟩
                case measure => simp [intOf]; omega
              · have HY := Lib.hid (canS_t hlt HCT.out HCB.out)
                go_wp2_with fail
                go_ret2
                rw [HY.out]
                exact ⟨_, rfl, ho10, hch10⟩
      · obtain rfl : k = pl.length := by omega
        have HE := Lib.hid htr.out.end_
        go_wp2_with fail
        go_ret2
        rw [HE.out]
        exact ⟨_, rfl, own_below ho ((Below.refl _ _).alloc (Nat.le_refl _) _), hch.alloc _⟩
end Go.Proofs.Ytjbhlbcjljdjmaa

namespace Go.Proofs.Ytjbhlbcjljdjmaa
open Go.RowKit
set_option maxHeartbeats 4000000 in
set_option maxRecDepth 100000 in
theorem specFirstCasting_any (v1 v2 : Value) (ps : List Int) (pl : List RPl) (w : World) (hl : RdPls w v1 pl) (hp : RdL cInt 1 w v2 ps) :
    Calls Try.prog 40 #[v1, v2] w (RetCast (canF pl ps) w) := by
  have hl0 := hl
  have hp0 := hp
  obtain ⟨i0, hi0, hz0, hz1, hz2⟩ := info_parts infoInt
  obtain ⟨Al, cl, rfl, _, _⟩ := hl.form
  obtain ⟨Ap, cp, rfl, _, _⟩ := hp.form
  go_enter Try.func40, Try.ntmps40
  go_wp2_with fail
  refine twoB (specPlayersOk_any _ pl _ hl) (fun w1 hq hb1 => ?_) (fun w1 hq hb1 => ?_)
  · have hp1 := hp.below hb1
    obtain ⟨h6, h1, _⟩ := playersB_sz hq.out
    have Hfr := Lib.hid (playersB_fr hq.out)
    obtain ⟨sb, hsb⟩ : ∃ sb, strictB ps 0 6 = sb := ⟨_, rfl⟩
    have hC := l11Rising_q _ ps 6 w1 hp1
    have hC' : Calls Try.prog 96 #[.slice Ap ps.length cp, .int .i64 6] w1 fun e w' => e = .returned (.bool sb) ∧ ∃ d, w' = w1.drewN d := by rw [← hsb]; exact hC
    have HSB := Lib.hid hsb
    clear hC hsb
    go_wp2_with fail
    refine hC'.mono ?_
    rintro e w2 ⟨rfl, d, rfl⟩
    have hb2 : Below w.heap.size w (w1.drewN d) := below_drewN hb1 d
    clear hC' hp1 hp hl hb1
    generalize w1.drewN d = W at *
    cases sb
    · have HF := Lib.hid (canF_f2 (pl := pl) HSB.out)
      go_wp2_with fail
      go_ret2
      rw [HF.out]
      exact ⟨_, rfl, hb2.alloc hb2.size _⟩
    · have h7 := strict_len (m := 6) HSB.out
      have HF := Lib.hid (canF_t hq.out HSB.out)
      have hz := hb2.size
      have hca : (W.alloc (.cells #[] 3)).ownsRow W.heap.size 3 1 (.slice (some ⟨W.heap.size, 0, none⟩) 0 0) 0 [] := World.ownsRow_made (size := 1) (e := 3) W #[] 0 (Nat.le_refl _) (by simp [maxLen]) rfl
      go_wp2_with (at_make; refine wpList_make_full _ rfl _ _ _ rfl (W.heap.size + 1) 3 i0 _ 1 Try.underlying28 hi0 hz0 hz1 _ _ _ _ pl.length rfl rfl rfl rfl (by rw [hz2]; omega) (by simp [maxLen]; omega) (by simp) ?_; intro w3 hown hgr)
      have hsz : (W.alloc (.cells #[] 3)).heap.size = W.heap.size + 1 := by simp
      rw [row_made, Nat.mul_one, hsz] at hown
      have hb3 : Below W.heap.size W w3 := ((Below.refl _ _).alloc (Nat.le_refl _) _).grown hgr (by simp) (by simp)
      have hb03 := hb2.trans (hb3.mono hz)
      have hca3 : w3.ownsRow 0 3 1 (.slice (some ⟨W.heap.size, 0, none⟩) 0 0) ([] : List Int).length (([] : List Int).flatMap cInt) := own_mono (own_below hca ((Below.refl _ _).grown hgr (Nat.le_refl _) (by simp))) (Nat.zero_le _)
      have hap : Apart (.slice (some ⟨W.heap.size, 0, none⟩) 0 0) (.slice (some ⟨W.heap.size + 1, 0, none⟩) pl.length pl.length) := fun b hb hb' => by
        simp [Value.ownBlock] at hb hb'; omega
      have hI := search_any w _ _ ps pl hp0 hl0 (by omega) h6 ps [] (pl.map (·.2)) (zeroL pl.length) (.slice (some ⟨W.heap.size, 0, none⟩) 0 0) (.slice (some ⟨W.heap.size + 1, 0, none⟩) pl.length pl.length) w3 (show Hid (_ ∧ _) from ⟨rfl, Nat.zero_le _⟩) (Hands.start Hfr.out) hb03 (by rw [show (zeroL pl.length).length = pl.length by simp [zeroL]]; exact own_mono hown (by omega)) hca3 hap
      obtain ⟨cb, hcb⟩ : ∃ cb, canS pl ps (zeroL pl.length) = cb := ⟨_, rfl⟩
      rw [hcb] at hI HF
      clear hcb
      refine hI.mono ?_
      rintro e w4 ⟨vx, rfl, ho4, hch4⟩
      have hb4 := Below.chg hb03 hch4 hb03.size (fun b hb => by simp [Value.ownBlock] at hb; omega)
      clear hI hca3 hown hgr ho4
      go_wp2_with fail
      go_ret2
      rw [HF.out]
      exact ⟨_, rfl, hb4⟩
  · have HF := Lib.hid (canF_f1 (ps := ps) hq.out)
    go_wp2_with fail
    go_ret2
    rw [HF.out]
    exact ⟨_, rfl, hb1.alloc hb1.size _⟩
set_option maxHeartbeats 4000000 in
theorem l17Can_any (v1 v2 : Value) (ps : List Int) (pl : List RPl) (w : World) (hl : RdPls w v1 pl) (hp : RdL cInt 1 w v2 ps) :
    Calls Try.prog 59 #[v1, v2] w fun e w' => e = .returned (.bool (canF pl ps)) ∧ Below w.heap.size w w' := by
  have hC := specFirstCasting_any v1 v2 ps pl w hl hp
  obtain ⟨Al, cl, rfl, _, _⟩ := hl.form
  obtain ⟨Ap, cp, rfl, _, _⟩ := hp.form
  generalize canF pl ps = cb at *
  go_enter Try.func59, Try.ntmps59
  go_wp2_with fail
  refine hC.mono ?_
  rintro e w1 ⟨vo, rfl, hb⟩
  go_wp2_with fail
  go_ret
  exact ⟨rfl, hb⟩
end Go.Proofs.Ytjbhlbcjljdjmaa
