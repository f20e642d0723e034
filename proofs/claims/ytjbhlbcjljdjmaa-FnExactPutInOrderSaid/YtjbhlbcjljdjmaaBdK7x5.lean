/- Several texts in one: Contracts: companies that grow: with, CrossOver, TakeBack. Written by a program (gen_k7.py). Contracts: theatres that become others: becomes, HirePlayer, MovePuppet. Written by a program (gen_k10.py). Plain laws: a number put into a list, as the reference puts it; days added; puppets taught. No program in sight. Castings in plain words: players who know a puppet and have a free hand; why a company does not play. No program in sight. Contracts: the exchanges that sort, the way home, of the reference. -/
import Derived.Deep.DeepCutAuto
import Derived.Test.YtjbhlbcjljdjmaaBdK1x6
import Derived.Test.YtjbhlbcjljdjmaaBdK3x6
import Derived.Test.YtjbhlbcjljdjmaaBdI1x7
import Derived.Test.YtjbhlbcjljdjmaaBdM7x3
import Derived.Test.YtjbhlbcjljdjmaaY2
import Derived.Test.YtjbhlbcjljdjmaaBdM5x3
namespace Go.Proofs.Ytjbhlbcjljdjmaa
open Go.RowKit
def RetCompany (n : Int) (ok : Bool) (d1 : List RCross) (d2 : List RPl) (w : World) (e : Ending) (w' : World) : Prop :=
  ∃ x1 x2 S, e = .returned (.tuple #[.agg #[.int .i64 n, x1, x2], .bool ok]) ∧ OwCompany w' S x1 x2 d1 d2 ∧ Fresh w.heap.size w' S ∧ Below w.heap.size w w'
def withB (n : Int) (cs : List RCross) (pl : List RPl) (l : List RCross) : Bool := companyB n cs pl && companyB n (cs ++ l) pl
def withC (n : Int) (cs : List RCross) (pl : List RPl) (l : List RCross) : List RCross := if withB n cs pl l = true then cs ++ l else cs
theorem with_sz (n : Int) (cs : List RCross) (pl : List RPl) (l : List RCross) : szCompany (withC n cs pl l) pl ≤ szCompany cs pl ∨ szCompany (withC n cs pl l) pl ≤ 1000 := by
  unfold withC
  split
  · rename_i h
    rw [withB, Bool.and_eq_true] at h
    have := companyB_sz h.2
    omega
  · exact .inl (Nat.le_refl _)
theorem with_f {n : Int} {cs l : List RCross} {pl : List RPl} {w w' : World} {e : Ending} (h : withB n cs pl l = false) (hr : RetCompany n false cs pl w e w') : RetCompany n (withB n cs pl l) (withC n cs pl l) pl w e w' := by rw [withC, h]; exact hr
theorem with_t {n : Int} {cs l : List RCross} {pl : List RPl} {w w' : World} {e : Ending} (h : withB n cs pl l = true) (hr : RetCompany n true (cs ++ l) pl w e w') : RetCompany n (withB n cs pl l) (withC n cs pl l) pl w e w' := by rw [withC, h]; exact hr
set_option maxHeartbeats 8000000 in
set_option maxRecDepth 100000 in
theorem implWith_any (n : Int) (v1 v2 vl : Value) (cs : List RCross) (pl : List RPl) (l : List RCross) (w : World) (h : RdCompany w v1 v2 cs pl) (hv : RdL cCross 2 w vl l) (hll : l.length ≤ 100000) (hsz : szCompany cs pl ≤ 1048576) :
    Calls Try.prog 74 #[.agg #[.int .i64 n, v1, v2], vl] w (RetCompany n (withB n cs pl l) (withC n cs pl l) pl w) := by
  obtain ⟨⟨A1, n1, rfl⟩, ⟨A2, n2, rfl⟩⟩ := h.forms
  go_enter Try.func74, Try.ntmps74
  go_wp2_with fail
  refine (companyCopied_any n _ _ cs pl _ (h.below (by (repeat' (first | (with_reducible exact Below.refl _ _) | (with_reducible assumption) | (with_reducible refine Below.setCell ?_ (by first | omega | (simp; omega) | (simp; done)) _) | (with_reducible refine Below.alloc ?_ (by first | omega | (simp; omega) | (simp; done)) _) | (with_reducible refine Below.drew ?_) | (with_reducible refine below_drewN ?_ _))))) hsz).mono ?_
  rintro e w1 ⟨x1, x2, S, rfl, ow, f1, q1⟩
  obtain ⟨⟨B1, k1, rfl⟩, ⟨B2, k2, rfl⟩⟩ := ow.rd.forms
  have z1 := q1.size
  simp at z1
  have hb : Below w.heap.size w w1 := Below.trans (by (repeat' (first | (with_reducible exact Below.refl _ _) | (with_reducible assumption) | (with_reducible refine Below.setCell ?_ (by first | omega | (simp; omega) | (simp; done)) _) | (with_reducible refine Below.alloc ?_ (by first | omega | (simp; omega) | (simp; done)) _) | (with_reducible refine Below.drew ?_) | (with_reducible refine below_drewN ?_ _)))) (q1.mono (by simp <;> omega))
  replace f1 := fresh_mono (B' := w.heap.size + 1 + 1) f1 (by simp) (Nat.le_refl _)
  have Lc : Loc w1 (w.heap.size) [.int .i64 n, .slice A1 cs.length n1, .slice A2 pl.length n2] := ((Loc.new w #[.int .i64 n, .slice A1 cs.length n1, .slice A2 pl.length n2] 47).alloc _).below q1
  have Lr : Loc w1 (w.heap.size + 1) [.int .i64 0, .slice none 0 0, .slice none 0 0] := by
    have := (Loc.new (w.alloc (.cells #[.int .i64 n, .slice A1 cs.length n1, .slice A2 pl.length n2] 47)) #[.int .i64 0, .slice none 0 0, .slice none 0 0] 47).below q1
    simpa using this
  go_upto_region 2 with (fail)
  obtain ⟨g, hgz⟩ : ∃ g, w1.heap.size = g := ⟨_, rfl⟩
  replace Lc : Loc (w1.alloc (.cells #[.int .i64 n, .slice B1 cs.length k1, .slice B2 pl.length k2] 47)) (w.heap.size) [.int .i64 n, .slice A1 cs.length n1, .slice A2 pl.length n2] := Lc.alloc _
  replace Lr : Loc (w1.alloc (.cells #[.int .i64 n, .slice B1 cs.length k1, .slice B2 pl.length k2] 47)) (w.heap.size + 1) [.int .i64 0, .slice none 0 0, .slice none 0 0] := Lr.alloc _
  have Lo : Loc (w1.alloc (.cells #[.int .i64 n, .slice B1 cs.length k1, .slice B2 pl.length k2] 47)) (w1.heap.size) [.int .i64 n, .slice B1 cs.length k1, .slice B2 pl.length k2] := Loc.new w1 #[.int .i64 n, .slice B1 cs.length k1, .slice B2 pl.length k2] 47
  replace hb : Below w.heap.size w (w1.alloc (.cells #[.int .i64 n, .slice B1 cs.length k1, .slice B2 pl.length k2] 47)) := by (repeat' (first | (with_reducible exact Below.refl _ _) | (with_reducible assumption) | (with_reducible refine Below.setCell ?_ (by first | omega | (simp; omega) | (simp; done)) _) | (with_reducible refine Below.alloc ?_ (by first | omega | (simp; omega) | (simp; done)) _) | (with_reducible refine Below.drew ?_) | (with_reducible refine below_drewN ?_ _)))
  replace ow := ow.below (w' := (w1.alloc (.cells #[.int .i64 n, .slice B1 cs.length k1, .slice B2 pl.length k2] 47))) (by (repeat' (first | (with_reducible exact Below.refl _ _) | (with_reducible assumption) | (with_reducible refine Below.setCell ?_ (by first | omega | (simp; omega) | (simp; done)) _) | (with_reducible refine Below.alloc ?_ (by first | omega | (simp; omega) | (simp; done)) _) | (with_reducible refine Below.drew ?_) | (with_reducible refine below_drewN ?_ _))))
  have hS : ∀ b ∈ S, b < g := fun b hb => by have := (f1.2 b hb).2; omega
  replace f1 := fresh_mono (w' := (w1.alloc (.cells #[.int .i64 n, .slice B1 cs.length k1, .slice B2 pl.length k2] 47))) f1 (Nat.le_refl _) (by simp)
  have hgW : g < (w1.alloc (.cells #[.int .i64 n, .slice B1 cs.length k1, .slice B2 pl.length k2] 47)).heap.size := by simp; omega
  have hg2 : w.heap.size + 1 + 1 ≤ g := by omega
  clear q1
  generalize w1.alloc (.cells #[.int .i64 n, .slice B1 cs.length k1, .slice B2 pl.length k2] 47) = W at *
  rw [hgz] at Lo ⊢
  clear hgz z1 w1
  have hcl : cs.length ≤ 1048576 := by unfold szCompany at hsz; omega
  obtain ⟨S1, S2, rfl, o1, o2⟩ := ow
  have hv' := hv.below hb
  obtain ⟨Av, cv, rfl, _, _⟩ := hv.form
  obtain ⟨i0, hi0, hz0, hz1, hz2⟩ := info_parts infoCross
  have e1 := o1.2
  subst e1
  have hown : W.ownsRow (w.heap.size + 1 + 1) 115 2 (.slice B1 cs.length k1) cs.length (cs.flatMap cCross) := own_up o1.1 (fun b hb => f1.2 b (List.mem_append_left _ hb))
  have Hf := Lib.hid f1
  have HS := Lib.hid hS
  have O2 := Lib.hid o2
  have Hown := Lib.hid hown
  clear f1 hS o2 hown o1
  have o0 := (Lo 0 _ rfl).1
  have o1 := (Lo 1 _ rfl).1
  have o2 := (Lo 2 _ rfl).1
  have of1 := (Lo 1 _ rfl).2
  go_upto_region 3 with (at_builtin; refine wpList_appendB _ rfl (.tmp 10) (.tmp 11) _ rfl (w.heap.size + 1 + 1) 115 i0 _ 2 16 Try.underlying44 hi0 hz0 hz1 hz2 rfl (by omega) _ cs.length (cs.flatMap cCross) rfl Hown.out _ l.length (l.flatMap cCross) rfl hv' (oneCell_flat cCross_one l) (by simp [maxLen]; omega) (by omega) (by omega) ?_; intro v3 w3 own3 gr3 at3; obtain ⟨B3, k3, rfl, _, _⟩ := (RdS.of_own own3).form; have hch := Chg.of_grown gr3; have ho1 := carryChg hch o1 (fun hm => Nat.lt_irrefl _ (HS.out _ (List.mem_append_left _ hm))); have hof1 := carryChgF hch o1 of1 (fun hm => Nat.lt_irrefl _ (HS.out _ (List.mem_append_left _ hm))); clear o0 o1 o2 of1 hv')
  have hc0 : w.heap.size ∉ (Value.slice B1 cs.length k1).ownBlock.toList := fun hm => by have := (Hf.out.2 _ (List.mem_append_left _ hm)).1; omega
  have hc1 : w.heap.size + 1 ∉ (Value.slice B1 cs.length k1).ownBlock.toList := fun hm => by have := (Hf.out.2 _ (List.mem_append_left _ hm)).1; omega
  have hcg : g ∉ (Value.slice B1 cs.length k1).ownBlock.toList := fun hm => Nat.lt_irrefl _ (HS.out _ (List.mem_append_left _ hm))
  replace Lc := (Lc.chg hch hc0).far (g := g) (i := 1) (u := .slice B3 (cs.length + l.length) k3) (by omega)
  replace Lr := (Lr.chg hch hc1).far (g := g) (i := 1) (u := .slice B3 (cs.length + l.length) k3) (by omega)
  replace Lo : Loc (w3.setCell ⟨g, 1, none⟩ (.slice B3 (cs.length + l.length) k3)) (g) [.int .i64 n, .slice B3 (cs.length + l.length) k3, .slice B2 pl.length k2] := (Lo.chg hch hcg).set (i := 1) (v := .slice B1 cs.length k1) rfl
  obtain ⟨_, _, hdj, hdj'⟩ := nodup2 Hf.out.1
  obtain ⟨f3, hd3⟩ := fresh_app own3 at3 (T := S2) (fun b hb => ⟨(Hf.out.2 b (List.mem_append_right _ hb)).2, hdj' b hb⟩)
  have hs3 := gr3.size
  have f2 := fresh_mono (w' := w3) (fresh_right Hf.out) (Nat.le_refl _) hs3
  have fj := fresh_join f3 f2 hd3
  have hgn : ∀ b ∈ (Value.slice B3 (cs.length + l.length) k3).ownBlock.toList ++ S2, b ≠ g := by
    intro b hb e
    subst e
    rcases List.mem_append.1 hb with hb | hb
    · rcases at3 with h3 | h3
      · rw [h3] at hb; exact hcg hb
      · rw [h3] at hb; simp at hb; omega
    · exact Nat.lt_irrefl _ (HS.out _ (List.mem_append_right _ hb))
  have o3 : OwL 115 cCross 2 w3 (Value.slice B3 (cs.length + l.length) k3).ownBlock.toList (.slice B3 (cs.length + l.length) k3) (cs ++ l) := ⟨by rw [List.length_append, List.flatMap_append]; exact own_mono own3 (Nat.zero_le _), rfl⟩
  have ow3 : OwCompany w3 ((Value.slice B3 (cs.length + l.length) k3).ownBlock.toList ++ S2) (.slice B3 (cs.length + l.length) k3) (.slice B2 pl.length k2) (cs ++ l) pl := ⟨_, _, rfl, o3, O2.out.chg hch hdj'⟩
  have hset : Chg [g] w3 (w3.setCell ⟨g, 1, none⟩ (.slice B3 (cs.length + l.length) k3)) := by repeat' (first | (with_reducible exact Chg.refl _ _) | (with_reducible refine chg_set ?_ (by simp)))
  have ow4 := ow3.chg hset (fun b hb => by have := hgn b hb; simpa using this)
  have f4 := fresh_mono (w' := (w3.setCell ⟨g, 1, none⟩ (.slice B3 (cs.length + l.length) k3))) fj (Nat.le_refl _) hset.size
  have hb3 : Below w.heap.size w (w3.setCell ⟨g, 1, none⟩ (.slice B3 (cs.length + l.length) k3)) := Below.chg (Below.chg hb hch hb.size (fun b hm => by have := (Hf.out.2 b (List.mem_append_left _ hm)).1; omega)) hset (by have := hb.size; omega) (by simp; omega)
  have hgW3 : g < (w3.setCell ⟨g, 1, none⟩ (.slice B3 (cs.length + l.length) k3)).heap.size := by rw [World.size_setCell]; omega
  clear hc0 hc1 hcg hdj hdj' f3 hd3 hs3 f2 fj o3 ow3 hset Hf HS O2 Hown own3 gr3 at3 hch ho1 hof1 hb hgW
  generalize w3.setCell ⟨g, 1, none⟩ (.slice B3 (cs.length + l.length) k3) = W3 at *
  obtain ⟨S3, hS3⟩ : ∃ S3, (Value.slice B3 (cs.length + l.length) k3).ownBlock.toList ++ S2 = S3 := ⟨_, rfl⟩
  rw [hS3] at ow4 f4 hgn
  clear hS3
  have OW := Lib.hid ow4
  have FW := Lib.hid f4
  have HG := Lib.hid hgn
  clear ow4 f4 hgn
  have c0 := (Lc 0 _ rfl).1
  have c1 := (Lc 1 _ rfl).1
  have c2 := (Lc 2 _ rfl).1
  have o0 := (Lo 0 _ rfl).1
  have o1 := (Lo 1 _ rfl).1
  have o2 := (Lo 2 _ rfl).1
  go_wp2_with fail
  refine twoB (implCompanyOk_any n _ _ cs pl _ (h.below hb3)) (fun w4 hq q4 => ?_) (fun w4 hq q4 => ?_)
  · have z4 := q4.size
    replace Lc := Lc.below q4
    replace Lr := Lr.below q4
    replace Lo := Lo.below q4
    have hb4 : Below w.heap.size w w4 := hb3.trans (q4.mono (by have := hb3.size; omega))
    have OW4 := Lib.hid (OW.out.below q4)
    clear c0 c1 c2 o0 o1 o2
    have o0 := (Lo 0 _ rfl).1
    have o1 := (Lo 1 _ rfl).1
    have o2 := (Lo 2 _ rfl).1
    go_wp2_with fail
    refine twoB (implCompanyOk_any n _ _ (cs ++ l) pl _ (OW4.out.rd)) (fun w5 hq' q5 => ?_) (fun w5 hq' q5 => ?_)
    · have z5 := q5.size
      replace Lr := Lr.below q5
      replace Lo := Lo.below q5
      have hb5 : Below w.heap.size w w5 := hb4.trans (q5.mono (by have := hb4.size; omega))
      have OW5 := Lib.hid (OW4.out.below q5)
      clear o0 o1 o2
      have o0 := (Lo 0 _ rfl).1
      have o1 := (Lo 1 _ rfl).1
      have o2 := (Lo 2 _ rfl).1
      have r0 := (Lr 0 _ rfl).1
      have rf0 := (Lr 0 _ rfl).2
      have r1 := (Lr 1 _ rfl).1
      have rf1 := (Lr 1 _ rfl).2
      have r2 := (Lr 2 _ rfl).1
      have rf2 := (Lr 2 _ rfl).2
      go_wp2_with fail
      refine bodyPost_ret (v := .tuple #[.agg #[.int .i64 n, .slice B3 (cs.length + l.length) k3, .slice B2 pl.length k2], .bool true]) (by simp [results, Try.results74, go_sem, *]) rfl (with_t (by rw [withB, hq.out, hq'.out]; rfl) ⟨_, _, S3, rfl, ?_, ?_, ?_⟩)
      · exact OW5.out.chg (T := [w.heap.size + 1]) (by repeat' (first | (with_reducible exact Chg.refl _ _) | (with_reducible refine chg_set ?_ (by simp)))) (fun b hb => by have := FW.out.2 b hb; simp; omega)
      · exact fresh_mono FW.out (by omega) (by simp; omega)
      · exact Below.chg hb5 (S := [w.heap.size + 1]) (by repeat' (first | (with_reducible exact Chg.refl _ _) | (with_reducible refine chg_set ?_ (by simp)))) hb5.size (by simp)
    · have z5 := q5.size
      replace Lc := Lc.below q5
      replace Lr := Lr.below q5
      have hb5 : Below w.heap.size w w5 := hb4.trans (q5.mono (by have := hb4.size; omega))
      clear o0 o1 o2
      have c0 := (Lc 0 _ rfl).1
      have c1 := (Lc 1 _ rfl).1
      have c2 := (Lc 2 _ rfl).1
      go_wp2_with fail
      refine (companyCopied_any n _ _ cs pl _ (h.below hb5) hsz).mono ?_
      rintro e w6 ⟨y1, y2, T, rfl, ow6, f6, q6⟩
      obtain ⟨⟨D1, m1, rfl⟩, ⟨D2, m2, rfl⟩⟩ := ow6.rd.forms
      have Lr6 := Lr.below q6
      have z6 := q6.size
      have zb := hb5.size
      have hb6 : Below w.heap.size w w6 := hb5.trans (q6.mono (by omega))
      replace f6 := fresh_mono (B' := w.heap.size + 1 + 1) f6 (by omega) (Nat.le_refl _)
      clear c0 c1 c2
      have r0 := (Lr6 0 _ rfl).1
      have rf0 := (Lr6 0 _ rfl).2
      have r1 := (Lr6 1 _ rfl).1
      have rf1 := (Lr6 1 _ rfl).2
      have r2 := (Lr6 2 _ rfl).1
      have rf2 := (Lr6 2 _ rfl).2
      have OW6 := Lib.hid ow6
      have F6 := Lib.hid f6
      clear ow6 f6
      go_wp2_with fail
      refine bodyPost_ret (v := .tuple #[.agg #[.int .i64 n, .slice D1 cs.length m1, .slice D2 pl.length m2], .bool false]) (by simp [results, Try.results74, go_sem, *]) rfl (with_f (by rw [withB, hq'.out, Bool.and_false]) ⟨_, _, T, rfl, ?_, ?_, ?_⟩)
      · exact OW6.out.chg (T := [w.heap.size + 1]) (by repeat' (first | (with_reducible exact Chg.refl _ _) | (with_reducible refine chg_set ?_ (by simp)))) (fun b hb => by have := F6.out.2 b hb; simp; omega)
      · exact fresh_mono F6.out (by omega) (by simp)
      · exact Below.chg hb6 (S := [w.heap.size + 1]) (by repeat' (first | (with_reducible exact Chg.refl _ _) | (with_reducible refine chg_set ?_ (by simp)))) hb6.size (by simp)
  · have z4 := q4.size
    replace Lc := Lc.below q4
    replace Lr := Lr.below q4
    have hb4 : Below w.heap.size w w4 := hb3.trans (q4.mono (by have := hb3.size; omega))
    clear c0 c1 c2 o0 o1 o2
    have c0 := (Lc 0 _ rfl).1
    have c1 := (Lc 1 _ rfl).1
    have c2 := (Lc 2 _ rfl).1
    go_wp2_with fail
    refine (companyCopied_any n _ _ cs pl _ (h.below hb4) hsz).mono ?_
    rintro e w6 ⟨y1, y2, T, rfl, ow6, f6, q6⟩
    obtain ⟨⟨D1, m1, rfl⟩, ⟨D2, m2, rfl⟩⟩ := ow6.rd.forms
    have Lr6 := Lr.below q6
    have z6 := q6.size
    have zb := hb4.size
    have hb6 : Below w.heap.size w w6 := hb4.trans (q6.mono (by omega))
    replace f6 := fresh_mono (B' := w.heap.size + 1 + 1) f6 (by omega) (Nat.le_refl _)
    clear c0 c1 c2
    have r0 := (Lr6 0 _ rfl).1
    have rf0 := (Lr6 0 _ rfl).2
    have r1 := (Lr6 1 _ rfl).1
    have rf1 := (Lr6 1 _ rfl).2
    have r2 := (Lr6 2 _ rfl).1
    have rf2 := (Lr6 2 _ rfl).2
    have OW6 := Lib.hid ow6
    have F6 := Lib.hid f6
    clear ow6 f6
    go_wp2_with fail
    refine bodyPost_ret (v := .tuple #[.agg #[.int .i64 n, .slice D1 cs.length m1, .slice D2 pl.length m2], .bool false]) (by simp [results, Try.results74, go_sem, *]) rfl (with_f (by rw [withB, hq.out]; rfl) ⟨_, _, T, rfl, ?_, ?_, ?_⟩)
    · exact OW6.out.chg (T := [w.heap.size + 1]) (by repeat' (first | (with_reducible exact Chg.refl _ _) | (with_reducible refine chg_set ?_ (by simp)))) (fun b hb => by have := F6.out.2 b hb; simp; omega)
    · exact fresh_mono F6.out (by omega) (by simp)
    · exact Below.chg hb6 (S := [w.heap.size + 1]) (by repeat' (first | (with_reducible exact Chg.refl _ _) | (with_reducible refine chg_set ?_ (by simp)))) hb6.size (by simp)
set_option maxHeartbeats 8000000 in
set_option maxRecDepth 100000 in
theorem l37Add_any (n : Int) (v1 v2 vl : Value) (cs : List RCross) (pl : List RPl) (l : List RCross) (w : World) (h : RdCompany w v1 v2 cs pl) (hv : RdL cCross 2 w vl l) (hll : l.length ≤ 100000) (hsz : szCompany cs pl ≤ 1048576) :
    Calls Try.prog 71 #[.agg #[.int .i64 n, v1, v2], vl] w (RetCompany n (withB n cs pl l) (withC n cs pl l) pl w) := by
  obtain ⟨⟨A1, n1, rfl⟩, ⟨A2, n2, rfl⟩⟩ := h.forms
  go_enter Try.func71, Try.ntmps71
  go_wp2_with fail
  refine (l37Copy_any n _ _ cs pl _ (h.below (by (repeat' (first | (with_reducible exact Below.refl _ _) | (with_reducible assumption) | (with_reducible refine Below.setCell ?_ (by first | omega | (simp; omega) | (simp; done)) _) | (with_reducible refine Below.alloc ?_ (by first | omega | (simp; omega) | (simp; done)) _) | (with_reducible refine Below.drew ?_) | (with_reducible refine below_drewN ?_ _))))) hsz).mono ?_
  rintro e w1 ⟨x1, x2, S, rfl, ow, f1, q1⟩
  obtain ⟨⟨B1, k1, rfl⟩, ⟨B2, k2, rfl⟩⟩ := ow.rd.forms
  have z1 := q1.size
  simp at z1
  have hb : Below w.heap.size w w1 := Below.trans (by (repeat' (first | (with_reducible exact Below.refl _ _) | (with_reducible assumption) | (with_reducible refine Below.setCell ?_ (by first | omega | (simp; omega) | (simp; done)) _) | (with_reducible refine Below.alloc ?_ (by first | omega | (simp; omega) | (simp; done)) _) | (with_reducible refine Below.drew ?_) | (with_reducible refine below_drewN ?_ _)))) (q1.mono (by simp <;> omega))
  replace f1 := fresh_mono (B' := w.heap.size + 1 + 1) f1 (by simp) (Nat.le_refl _)
  have Lc : Loc w1 (w.heap.size) [.int .i64 n, .slice A1 cs.length n1, .slice A2 pl.length n2] := ((Loc.new w #[.int .i64 n, .slice A1 cs.length n1, .slice A2 pl.length n2] 47).alloc _).below q1
  have Lr : Loc w1 (w.heap.size + 1) [.int .i64 0, .slice none 0 0, .slice none 0 0] := by
    have := (Loc.new (w.alloc (.cells #[.int .i64 n, .slice A1 cs.length n1, .slice A2 pl.length n2] 47)) #[.int .i64 0, .slice none 0 0, .slice none 0 0] 47).below q1
    simpa using this
  go_upto_region 2 with (fail)
  obtain ⟨g, hgz⟩ : ∃ g, w1.heap.size = g := ⟨_, rfl⟩
  replace Lc : Loc (w1.alloc (.cells #[.int .i64 n, .slice B1 cs.length k1, .slice B2 pl.length k2] 47)) (w.heap.size) [.int .i64 n, .slice A1 cs.length n1, .slice A2 pl.length n2] := Lc.alloc _
  replace Lr : Loc (w1.alloc (.cells #[.int .i64 n, .slice B1 cs.length k1, .slice B2 pl.length k2] 47)) (w.heap.size + 1) [.int .i64 0, .slice none 0 0, .slice none 0 0] := Lr.alloc _
  have Lo : Loc (w1.alloc (.cells #[.int .i64 n, .slice B1 cs.length k1, .slice B2 pl.length k2] 47)) (w1.heap.size) [.int .i64 n, .slice B1 cs.length k1, .slice B2 pl.length k2] := Loc.new w1 #[.int .i64 n, .slice B1 cs.length k1, .slice B2 pl.length k2] 47
  replace hb : Below w.heap.size w (w1.alloc (.cells #[.int .i64 n, .slice B1 cs.length k1, .slice B2 pl.length k2] 47)) := by (repeat' (first | (with_reducible exact Below.refl _ _) | (with_reducible assumption) | (with_reducible refine Below.setCell ?_ (by first | omega | (simp; omega) | (simp; done)) _) | (with_reducible refine Below.alloc ?_ (by first | omega | (simp; omega) | (simp; done)) _) | (with_reducible refine Below.drew ?_) | (with_reducible refine below_drewN ?_ _)))
  replace ow := ow.below (w' := (w1.alloc (.cells #[.int .i64 n, .slice B1 cs.length k1, .slice B2 pl.length k2] 47))) (by (repeat' (first | (with_reducible exact Below.refl _ _) | (with_reducible assumption) | (with_reducible refine Below.setCell ?_ (by first | omega | (simp; omega) | (simp; done)) _) | (with_reducible refine Below.alloc ?_ (by first | omega | (simp; omega) | (simp; done)) _) | (with_reducible refine Below.drew ?_) | (with_reducible refine below_drewN ?_ _))))
  have hS : ∀ b ∈ S, b < g := fun b hb => by have := (f1.2 b hb).2; omega
  replace f1 := fresh_mono (w' := (w1.alloc (.cells #[.int .i64 n, .slice B1 cs.length k1, .slice B2 pl.length k2] 47))) f1 (Nat.le_refl _) (by simp)
  have hgW : g < (w1.alloc (.cells #[.int .i64 n, .slice B1 cs.length k1, .slice B2 pl.length k2] 47)).heap.size := by simp; omega
  have hg2 : w.heap.size + 1 + 1 ≤ g := by omega
  clear q1
  generalize w1.alloc (.cells #[.int .i64 n, .slice B1 cs.length k1, .slice B2 pl.length k2] 47) = W at *
  rw [hgz] at Lo ⊢
  clear hgz z1 w1
  have hcl : cs.length ≤ 1048576 := by unfold szCompany at hsz; omega
  obtain ⟨S1, S2, rfl, o1, o2⟩ := ow
  have hv' := hv.below hb
  obtain ⟨Av, cv, rfl, _, _⟩ := hv.form
  obtain ⟨i0, hi0, hz0, hz1, hz2⟩ := info_parts infoCross
  have e1 := o1.2
  subst e1
  have hown : W.ownsRow (w.heap.size + 1 + 1) 115 2 (.slice B1 cs.length k1) cs.length (cs.flatMap cCross) := own_up o1.1 (fun b hb => f1.2 b (List.mem_append_left _ hb))
  have Hf := Lib.hid f1
  have HS := Lib.hid hS
  have O2 := Lib.hid o2
  have Hown := Lib.hid hown
  clear f1 hS o2 hown o1
  have o0 := (Lo 0 _ rfl).1
  have o1 := (Lo 1 _ rfl).1
  have o2 := (Lo 2 _ rfl).1
  have of1 := (Lo 1 _ rfl).2
  go_upto_region 3 with (at_builtin; refine wpList_appendB _ rfl (.tmp 10) (.tmp 11) _ rfl (w.heap.size + 1 + 1) 115 i0 _ 2 16 Try.underlying44 hi0 hz0 hz1 hz2 rfl (by omega) _ cs.length (cs.flatMap cCross) rfl Hown.out _ l.length (l.flatMap cCross) rfl hv' (oneCell_flat cCross_one l) (by simp [maxLen]; omega) (by omega) (by omega) ?_; intro v3 w3 own3 gr3 at3; obtain ⟨B3, k3, rfl, _, _⟩ := (RdS.of_own own3).form; have hch := Chg.of_grown gr3; have ho1 := carryChg hch o1 (fun hm => Nat.lt_irrefl _ (HS.out _ (List.mem_append_left _ hm))); have hof1 := carryChgF hch o1 of1 (fun hm => Nat.lt_irrefl _ (HS.out _ (List.mem_append_left _ hm))); clear o0 o1 o2 of1 hv')
  have hc0 : w.heap.size ∉ (Value.slice B1 cs.length k1).ownBlock.toList := fun hm => by have := (Hf.out.2 _ (List.mem_append_left _ hm)).1; omega
  have hc1 : w.heap.size + 1 ∉ (Value.slice B1 cs.length k1).ownBlock.toList := fun hm => by have := (Hf.out.2 _ (List.mem_append_left _ hm)).1; omega
  have hcg : g ∉ (Value.slice B1 cs.length k1).ownBlock.toList := fun hm => Nat.lt_irrefl _ (HS.out _ (List.mem_append_left _ hm))
  replace Lc := (Lc.chg hch hc0).far (g := g) (i := 1) (u := .slice B3 (cs.length + l.length) k3) (by omega)
  replace Lr := (Lr.chg hch hc1).far (g := g) (i := 1) (u := .slice B3 (cs.length + l.length) k3) (by omega)
  replace Lo : Loc (w3.setCell ⟨g, 1, none⟩ (.slice B3 (cs.length + l.length) k3)) (g) [.int .i64 n, .slice B3 (cs.length + l.length) k3, .slice B2 pl.length k2] := (Lo.chg hch hcg).set (i := 1) (v := .slice B1 cs.length k1) rfl
  obtain ⟨_, _, hdj, hdj'⟩ := nodup2 Hf.out.1
  obtain ⟨f3, hd3⟩ := fresh_app own3 at3 (T := S2) (fun b hb => ⟨(Hf.out.2 b (List.mem_append_right _ hb)).2, hdj' b hb⟩)
  have hs3 := gr3.size
  have f2 := fresh_mono (w' := w3) (fresh_right Hf.out) (Nat.le_refl _) hs3
  have fj := fresh_join f3 f2 hd3
  have hgn : ∀ b ∈ (Value.slice B3 (cs.length + l.length) k3).ownBlock.toList ++ S2, b ≠ g := by
    intro b hb e
    subst e
    rcases List.mem_append.1 hb with hb | hb
    · rcases at3 with h3 | h3
      · rw [h3] at hb; exact hcg hb
      · rw [h3] at hb; simp at hb; omega
    · exact Nat.lt_irrefl _ (HS.out _ (List.mem_append_right _ hb))
  have o3 : OwL 115 cCross 2 w3 (Value.slice B3 (cs.length + l.length) k3).ownBlock.toList (.slice B3 (cs.length + l.length) k3) (cs ++ l) := ⟨by rw [List.length_append, List.flatMap_append]; exact own_mono own3 (Nat.zero_le _), rfl⟩
  have ow3 : OwCompany w3 ((Value.slice B3 (cs.length + l.length) k3).ownBlock.toList ++ S2) (.slice B3 (cs.length + l.length) k3) (.slice B2 pl.length k2) (cs ++ l) pl := ⟨_, _, rfl, o3, O2.out.chg hch hdj'⟩
  have hset : Chg [g] w3 (w3.setCell ⟨g, 1, none⟩ (.slice B3 (cs.length + l.length) k3)) := by repeat' (first | (with_reducible exact Chg.refl _ _) | (with_reducible refine chg_set ?_ (by simp)))
  have ow4 := ow3.chg hset (fun b hb => by have := hgn b hb; simpa using this)
  have f4 := fresh_mono (w' := (w3.setCell ⟨g, 1, none⟩ (.slice B3 (cs.length + l.length) k3))) fj (Nat.le_refl _) hset.size
  have hb3 : Below w.heap.size w (w3.setCell ⟨g, 1, none⟩ (.slice B3 (cs.length + l.length) k3)) := Below.chg (Below.chg hb hch hb.size (fun b hm => by have := (Hf.out.2 b (List.mem_append_left _ hm)).1; omega)) hset (by have := hb.size; omega) (by simp; omega)
  have hgW3 : g < (w3.setCell ⟨g, 1, none⟩ (.slice B3 (cs.length + l.length) k3)).heap.size := by rw [World.size_setCell]; omega
  clear hc0 hc1 hcg hdj hdj' f3 hd3 hs3 f2 fj o3 ow3 hset Hf HS O2 Hown own3 gr3 at3 hch ho1 hof1 hb hgW
  generalize w3.setCell ⟨g, 1, none⟩ (.slice B3 (cs.length + l.length) k3) = W3 at *
  obtain ⟨S3, hS3⟩ : ∃ S3, (Value.slice B3 (cs.length + l.length) k3).ownBlock.toList ++ S2 = S3 := ⟨_, rfl⟩
  rw [hS3] at ow4 f4 hgn
  clear hS3
  have OW := Lib.hid ow4
  have FW := Lib.hid f4
  have HG := Lib.hid hgn
  clear ow4 f4 hgn
  have c0 := (Lc 0 _ rfl).1
  have c1 := (Lc 1 _ rfl).1
  have c2 := (Lc 2 _ rfl).1
  have o0 := (Lo 0 _ rfl).1
  have o1 := (Lo 1 _ rfl).1
  have o2 := (Lo 2 _ rfl).1
  go_wp2_with fail
  refine twoB (specCompanyOk_any n _ _ cs pl _ (h.below hb3)) (fun w4 hq q4 => ?_) (fun w4 hq q4 => ?_)
  · have z4 := q4.size
    replace Lc := Lc.below q4
    replace Lr := Lr.below q4
    replace Lo := Lo.below q4
    have hb4 : Below w.heap.size w w4 := hb3.trans (q4.mono (by have := hb3.size; omega))
    have OW4 := Lib.hid (OW.out.below q4)
    clear c0 c1 c2 o0 o1 o2
    have o0 := (Lo 0 _ rfl).1
    have o1 := (Lo 1 _ rfl).1
    have o2 := (Lo 2 _ rfl).1
    go_wp2_with fail
    refine twoB (specCompanyOk_any n _ _ (cs ++ l) pl _ (OW4.out.rd)) (fun w5 hq' q5 => ?_) (fun w5 hq' q5 => ?_)
    · have z5 := q5.size
      replace Lr := Lr.below q5
      replace Lo := Lo.below q5
      have hb5 : Below w.heap.size w w5 := hb4.trans (q5.mono (by have := hb4.size; omega))
      have OW5 := Lib.hid (OW4.out.below q5)
      clear o0 o1 o2
      have o0 := (Lo 0 _ rfl).1
      have o1 := (Lo 1 _ rfl).1
      have o2 := (Lo 2 _ rfl).1
      have r0 := (Lr 0 _ rfl).1
      have rf0 := (Lr 0 _ rfl).2
      have r1 := (Lr 1 _ rfl).1
      have rf1 := (Lr 1 _ rfl).2
      have r2 := (Lr 2 _ rfl).1
      have rf2 := (Lr 2 _ rfl).2
      go_wp2_with fail
      refine bodyPost_ret (v := .tuple #[.agg #[.int .i64 n, .slice B3 (cs.length + l.length) k3, .slice B2 pl.length k2], .bool true]) (by simp [results, Try.results71, go_sem, *]) rfl (with_t (by rw [withB, hq.out, hq'.out]; rfl) ⟨_, _, S3, rfl, ?_, ?_, ?_⟩)
      · exact OW5.out.chg (T := [w.heap.size + 1]) (by repeat' (first | (with_reducible exact Chg.refl _ _) | (with_reducible refine chg_set ?_ (by simp)))) (fun b hb => by have := FW.out.2 b hb; simp; omega)
      · exact fresh_mono FW.out (by omega) (by simp; omega)
      · exact Below.chg hb5 (S := [w.heap.size + 1]) (by repeat' (first | (with_reducible exact Chg.refl _ _) | (with_reducible refine chg_set ?_ (by simp)))) hb5.size (by simp)
    · have z5 := q5.size
      replace Lc := Lc.below q5
      replace Lr := Lr.below q5
      have hb5 : Below w.heap.size w w5 := hb4.trans (q5.mono (by have := hb4.size; omega))
      clear o0 o1 o2
      have c0 := (Lc 0 _ rfl).1
      have c1 := (Lc 1 _ rfl).1
      have c2 := (Lc 2 _ rfl).1
      go_wp2_with fail
      refine (l37Copy_any n _ _ cs pl _ (h.below hb5) hsz).mono ?_
      rintro e w6 ⟨y1, y2, T, rfl, ow6, f6, q6⟩
      obtain ⟨⟨D1, m1, rfl⟩, ⟨D2, m2, rfl⟩⟩ := ow6.rd.forms
      have Lr6 := Lr.below q6
      have z6 := q6.size
      have zb := hb5.size
      have hb6 : Below w.heap.size w w6 := hb5.trans (q6.mono (by omega))
      replace f6 := fresh_mono (B' := w.heap.size + 1 + 1) f6 (by omega) (Nat.le_refl _)
      clear c0 c1 c2
      have r0 := (Lr6 0 _ rfl).1
      have rf0 := (Lr6 0 _ rfl).2
      have r1 := (Lr6 1 _ rfl).1
      have rf1 := (Lr6 1 _ rfl).2
      have r2 := (Lr6 2 _ rfl).1
      have rf2 := (Lr6 2 _ rfl).2
      have OW6 := Lib.hid ow6
      have F6 := Lib.hid f6
      clear ow6 f6
      go_wp2_with fail
      refine bodyPost_ret (v := .tuple #[.agg #[.int .i64 n, .slice D1 cs.length m1, .slice D2 pl.length m2], .bool false]) (by simp [results, Try.results71, go_sem, *]) rfl (with_f (by rw [withB, hq'.out, Bool.and_false]) ⟨_, _, T, rfl, ?_, ?_, ?_⟩)
      · exact OW6.out.chg (T := [w.heap.size + 1]) (by repeat' (first | (with_reducible exact Chg.refl _ _) | (with_reducible refine chg_set ?_ (by simp)))) (fun b hb => by have := F6.out.2 b hb; simp; omega)
      · exact fresh_mono F6.out (by omega) (by simp)
      · exact Below.chg hb6 (S := [w.heap.size + 1]) (by repeat' (first | (with_reducible exact Chg.refl _ _) | (with_reducible refine chg_set ?_ (by simp)))) hb6.size (by simp)
  · have z4 := q4.size
    replace Lc := Lc.below q4
    replace Lr := Lr.below q4
    have hb4 : Below w.heap.size w w4 := hb3.trans (q4.mono (by have := hb3.size; omega))
    clear c0 c1 c2 o0 o1 o2
    have c0 := (Lc 0 _ rfl).1
    have c1 := (Lc 1 _ rfl).1
    have c2 := (Lc 2 _ rfl).1
    go_wp2_with fail
    refine (l37Copy_any n _ _ cs pl _ (h.below hb4) hsz).mono ?_
    rintro e w6 ⟨y1, y2, T, rfl, ow6, f6, q6⟩
    obtain ⟨⟨D1, m1, rfl⟩, ⟨D2, m2, rfl⟩⟩ := ow6.rd.forms
    have Lr6 := Lr.below q6
    have z6 := q6.size
    have zb := hb4.size
    have hb6 : Below w.heap.size w w6 := hb4.trans (q6.mono (by omega))
    replace f6 := fresh_mono (B' := w.heap.size + 1 + 1) f6 (by omega) (Nat.le_refl _)
    clear c0 c1 c2
    have r0 := (Lr6 0 _ rfl).1
    have rf0 := (Lr6 0 _ rfl).2
    have r1 := (Lr6 1 _ rfl).1
    have rf1 := (Lr6 1 _ rfl).2
    have r2 := (Lr6 2 _ rfl).1
    have rf2 := (Lr6 2 _ rfl).2
    have OW6 := Lib.hid ow6
    have F6 := Lib.hid f6
    clear ow6 f6
    go_wp2_with fail
    refine bodyPost_ret (v := .tuple #[.agg #[.int .i64 n, .slice D1 cs.length m1, .slice D2 pl.length m2], .bool false]) (by simp [results, Try.results71, go_sem, *]) rfl (with_f (by rw [withB, hq.out]; rfl) ⟨_, _, T, rfl, ?_, ?_, ?_⟩)
    · exact OW6.out.chg (T := [w.heap.size + 1]) (by repeat' (first | (with_reducible exact Chg.refl _ _) | (with_reducible refine chg_set ?_ (by simp)))) (fun b hb => by have := F6.out.2 b hb; simp; omega)
    · exact fresh_mono F6.out (by omega) (by simp)
    · exact Below.chg hb6 (S := [w.heap.size + 1]) (by repeat' (first | (with_reducible exact Chg.refl _ _) | (with_reducible refine chg_set ?_ (by simp)))) hb6.size (by simp)
set_option maxHeartbeats 8000000 in
set_option maxRecDepth 100000 in
theorem implCrossOver_any (n a : Int) (f : Bool) (v1 v2 : Value) (cs : List RCross) (pl : List RPl) (w : World) (h : RdCompany w v1 v2 cs pl) (hsz : szCompany cs pl ≤ 1048576) :
    Calls Try.prog 46 #[.agg #[.int .i64 n, v1, v2], .int .i64 a, .bool f] w (RetCompany n (withB n cs pl [(a, f)]) (withC n cs pl [(a, f)]) pl w) := by
  obtain ⟨⟨A1, n1, rfl⟩, ⟨A2, n2, rfl⟩⟩ := h.forms
  go_enter Try.func46, Try.ntmps46
  go_wp2_with fail
  refine (implWith_any n _ _ (.slice (some ⟨w.heap.size + 1 + 1, 0, none⟩) 1 1) cs pl [(a, f)] _ (h.below (by (repeat' (first | (with_reducible exact Below.refl _ _) | (with_reducible assumption) | (with_reducible refine Below.setCell ?_ (by first | omega | (simp; omega) | (simp; done)) _) | (with_reducible refine Below.alloc ?_ (by first | omega | (simp; omega) | (simp; done)) _) | (with_reducible refine Below.drew ?_) | (with_reducible refine below_drewN ?_ _))))) (rdS_newAt _ (w.heap.size + 1 + 1) (by simp) #[.int .i64 a, .bool f] _ 2 1 rfl (by simp [maxLen])) (by simp) hsz).mono ?_
  rintro e W1 ⟨x1, x2, S, rfl, ow, f1, q⟩
  obtain ⟨⟨B1, k1, rfl⟩, ⟨B2, k2, rfl⟩⟩ := ow.rd.forms
  generalize withB n cs pl [(a, f)] = ok at *
  generalize withC n cs pl [(a, f)] = cs' at *
  have Lc : Loc W1 (w.heap.size) [.int .i64 n, .slice A1 cs.length n1, .slice A2 pl.length n2] := by have := (((Loc.new w #[.int .i64 n, .slice A1 cs.length n1, .slice A2 pl.length n2] 47).alloc _).alloc _).below q; simpa using this
  have Lr : Loc W1 (w.heap.size + 1) [.int .i64 0, .slice none 0 0, .slice none 0 0] := by have := ((Loc.new (w.alloc (.cells #[.int .i64 n, .slice A1 cs.length n1, .slice A2 pl.length n2] 47)) #[.int .i64 0, .slice none 0 0, .slice none 0 0] 47).alloc _).below q; simpa using this
  have Lm : Loc W1 (w.heap.size + 1 + 1) [.int .i64 a, .bool f] := by have := (Loc.new ((w.alloc (.cells #[.int .i64 n, .slice A1 cs.length n1, .slice A2 pl.length n2] 47)).alloc (.cells #[.int .i64 0, .slice none 0 0, .slice none 0 0] 47)) #[.int .i64 a, .bool f] 115).below q; simpa using this
  have hb : Below w.heap.size w W1 := Below.trans (by (repeat' (first | (with_reducible exact Below.refl _ _) | (with_reducible assumption) | (with_reducible refine Below.setCell ?_ (by first | omega | (simp; omega) | (simp; done)) _) | (with_reducible refine Below.alloc ?_ (by first | omega | (simp; omega) | (simp; done)) _) | (with_reducible refine Below.drew ?_) | (with_reducible refine below_drewN ?_ _)))) (q.mono (by simp <;> omega))
  have hz0 : w.heap.size + 1 + 1 + 1 ≤ W1.heap.size := by have := q.size; simp at this; omega
  have hlow : w.heap.size + 1 + 1 + 1 ≤ ((((w.alloc (.cells #[.int .i64 n, .slice A1 cs.length n1, .slice A2 pl.length n2] 47)).alloc (.cells #[.int .i64 0, .slice none 0 0, .slice none 0 0] 47)).alloc (.cells #[.int .i64 a, .bool f] 115))).heap.size := by first | exact Nat.le_refl _ | (simp; done) | (simp; omega) | omega
  have FK := Lib.hid (fresh_mono f1 hlow (Nat.le_refl _))
  have DK : Hid (∀ x ∈ S, x ∉ [w.heap.size, w.heap.size + 1, w.heap.size + 1 + 1]) := (fun x hx => by have := (FK.out.2 x hx).1; simp; omega)
  have OK := Lib.hid ow
  clear ow f1 hlow
  clear q
  have r0 := (Lr 0 _ rfl).1
  have rf0 := (Lr 0 _ rfl).2
  have r1 := (Lr 1 _ rfl).1
  have rf1 := (Lr 1 _ rfl).2
  have r2 := (Lr 2 _ rfl).1
  have rf2 := (Lr 2 _ rfl).2
  go_wp2_with fail
  refine bodyPost_ret (v := .tuple #[.agg #[.int .i64 n, .slice B1 cs'.length k1, .slice B2 pl.length k2], .bool ok]) (by simp [results, Try.results46, go_sem, *]) rfl (⟨_, _, S, rfl, ?_, ?_, ?_⟩)
  · exact OK.out.chg (T := [w.heap.size + 1]) (by repeat' (first | (with_reducible exact Chg.refl _ _) | (with_reducible refine chg_set ?_ (by simp)))) (fun x hx hx' => DK.out x hx (by simp at hx'; subst hx'; simp))
  · exact fresh_mono FK.out (by omega) (by simp)
  · exact Below.chg hb (S := [w.heap.size + 1]) (by repeat' (first | (with_reducible exact Chg.refl _ _) | (with_reducible refine chg_set ?_ (by simp)))) hb.size (by simp)
def takeB (n : Int) (cs : List RCross) (pl : List RPl) : Bool := companyB n cs pl && decide (0 < cs.length)
def takeC (n : Int) (cs : List RCross) (pl : List RPl) : List RCross := if takeB n cs pl = true then cs.take (cs.length - 1) else cs
theorem take_sz (n : Int) (cs : List RCross) (pl : List RPl) : szCompany (takeC n cs pl) pl ≤ szCompany cs pl := by
  unfold takeC szCompany
  split
  · rw [List.length_take]; omega
  · exact Nat.le_refl _
theorem take_f {n : Int} {cs : List RCross} {pl : List RPl} {w w' : World} {e : Ending} (h : takeB n cs pl = false) (hr : RetCompany n false cs pl w e w') : RetCompany n (takeB n cs pl) (takeC n cs pl) pl w e w' := by rw [takeC, h]; exact hr
theorem take_t {n : Int} {cs : List RCross} {pl : List RPl} {w w' : World} {e : Ending} (h : takeB n cs pl = true) (hr : RetCompany n true (cs.take (cs.length - 1)) pl w e w') : RetCompany n (takeB n cs pl) (takeC n cs pl) pl w e w' := by rw [takeC, h]; exact hr
theorem own_prefix {w : World} {B : Nat} {e : TypeId} {size n c m : Nat} {A : Option Addr} {xs : List Value} (h : w.ownsRow B e size (.slice A n c) n xs) (hm : m ≤ n) (hn : 0 < n) : w.ownsRow B e size (.slice A m c) m (xs.take (m * size)) := by
  refine ⟨by rw [List.length_take, h.1]; exact Nat.min_eq_left (Nat.mul_le_mul_right _ hm), ?_⟩
  rcases h.2 with ⟨_, h0⟩ | ⟨g, cap, cur, hv, h1, h2, h3, h4, h5, h6⟩
  · omega
  · injection hv with e1 e2 e3
    subst e1 e3
    exact .inr ⟨g, c, cur, rfl, h1, h2, by omega, h4, h5, by rw [← h6, List.take_take, Nat.min_eq_left (Nat.mul_le_mul_right _ hm)]⟩
theorem flat_take {α : Type} {f : α → List Value} {size : Nat} (hf : ∀ a, (f a).length = size) (l : List α) (m : Nat) : (l.take m).flatMap f = (l.flatMap f).take (m * size) := by
  induction l generalizing m with
  | nil => simp
  | cons a l ih =>
    cases m with
    | zero => simp
    | succ m =>
      rw [List.take_succ_cons, List.flatMap_cons, List.flatMap_cons, ih, List.take_append, hf, List.take_of_length_le (l := f a) (by rw [hf, Nat.add_mul]; omega), show (m + 1) * size - size = m * size by rw [Nat.add_mul]; omega]
theorem take_own {w : World} {S : List Nat} {A : Option Addr} {c : Nat} {v2 : Value} {cs : List RCross} {pl : List RPl} (h : OwCompany w S (.slice A cs.length c) v2 cs pl) (h0 : 0 < cs.length) : OwCompany w S (.slice A (cs.length - 1) c) v2 (cs.take (cs.length - 1)) pl := by
  obtain ⟨S1, S2, e, o1, o2⟩ := h
  refine ⟨S1, S2, e, ⟨?_, o1.2.trans (by cases A <;> rfl)⟩, o2⟩
  have hl : (cs.take (cs.length - 1)).length = cs.length - 1 := by rw [List.length_take]; omega
  rw [hl, flat_take cCross_len]
  exact own_prefix o1.1 (by omega) h0
set_option maxHeartbeats 8000000 in
set_option maxRecDepth 100000 in
theorem implTakeBack_any (n : Int) (v1 v2 : Value) (cs : List RCross) (pl : List RPl) (w : World) (h : RdCompany w v1 v2 cs pl) (hsz : szCompany cs pl ≤ 1048576) :
    Calls Try.prog 47 #[.agg #[.int .i64 n, v1, v2]] w (RetCompany n (takeB n cs pl) (takeC n cs pl) pl w) := by
  obtain ⟨⟨A1, n1, rfl⟩, ⟨A2, n2, rfl⟩⟩ := h.forms
  go_enter Try.func47, Try.ntmps47
  go_wp2_with fail
  refine (companyCopied_any n _ _ cs pl _ (h.below (by (repeat' (first | (with_reducible exact Below.refl _ _) | (with_reducible assumption) | (with_reducible refine Below.setCell ?_ (by first | omega | (simp; omega) | (simp; done)) _) | (with_reducible refine Below.alloc ?_ (by first | omega | (simp; omega) | (simp; done)) _) | (with_reducible refine Below.drew ?_) | (with_reducible refine below_drewN ?_ _))))) hsz).mono ?_
  rintro e W1 ⟨x1, x2, S, rfl, ow, f1, q⟩
  obtain ⟨⟨B1, k1, rfl⟩, ⟨B2, k2, rfl⟩⟩ := ow.rd.forms
  have Lc : Loc W1 (w.heap.size) [.int .i64 n, .slice A1 cs.length n1, .slice A2 pl.length n2] := by have := ((Loc.new w #[.int .i64 n, .slice A1 cs.length n1, .slice A2 pl.length n2] 47).alloc _).below q; simpa using this
  have Lr : Loc W1 (w.heap.size + 1) [.int .i64 0, .slice none 0 0, .slice none 0 0] := by have := (Loc.new (w.alloc (.cells #[.int .i64 n, .slice A1 cs.length n1, .slice A2 pl.length n2] 47)) #[.int .i64 0, .slice none 0 0, .slice none 0 0] 47).below q; simpa using this
  have hb : Below w.heap.size w W1 := Below.trans (by (repeat' (first | (with_reducible exact Below.refl _ _) | (with_reducible assumption) | (with_reducible refine Below.setCell ?_ (by first | omega | (simp; omega) | (simp; done)) _) | (with_reducible refine Below.alloc ?_ (by first | omega | (simp; omega) | (simp; done)) _) | (with_reducible refine Below.drew ?_) | (with_reducible refine below_drewN ?_ _)))) (q.mono (by simp <;> omega))
  have hz0 : w.heap.size + 1 + 1 ≤ W1.heap.size := by have := q.size; simp at this; omega
  have hlow : w.heap.size + 1 + 1 ≤ (((w.alloc (.cells #[.int .i64 n, .slice A1 cs.length n1, .slice A2 pl.length n2] 47)).alloc (.cells #[.int .i64 0, .slice none 0 0, .slice none 0 0] 47))).heap.size := by first | exact Nat.le_refl _ | (simp; done) | (simp; omega) | omega
  have FK := Lib.hid (fresh_mono f1 hlow (Nat.le_refl _))
  have DK : Hid (∀ x ∈ S, x ∉ [w.heap.size, w.heap.size + 1]) := (fun x hx => by have := (FK.out.2 x hx).1; simp; omega)
  have OK := Lib.hid ow
  clear ow f1 hlow
  clear q
  go_upto_region 2 with (fail)
  replace Lc : Loc (W1.alloc (.cells #[.int .i64 n, .slice B1 cs.length k1, .slice B2 pl.length k2] 47)) (w.heap.size) [.int .i64 n, .slice A1 cs.length n1, .slice A2 pl.length n2] := Lc.alloc _
  replace Lr : Loc (W1.alloc (.cells #[.int .i64 n, .slice B1 cs.length k1, .slice B2 pl.length k2] 47)) (w.heap.size + 1) [.int .i64 0, .slice none 0 0, .slice none 0 0] := Lr.alloc _
  obtain ⟨go, hgo⟩ : ∃ g, W1.heap.size = g := ⟨_, rfl⟩
  have Lo : Loc (W1.alloc (.cells #[.int .i64 n, .slice B1 cs.length k1, .slice B2 pl.length k2] 47)) W1.heap.size [.int .i64 n, .slice B1 cs.length k1, .slice B2 pl.length k2] := Loc.new W1 #[.int .i64 n, .slice B1 cs.length k1, .slice B2 pl.length k2] 47
  rw [hgo] at Lo
  have OK' := Lib.hid (OK.out.below (w' := (W1.alloc (.cells #[.int .i64 n, .slice B1 cs.length k1, .slice B2 pl.length k2] 47))) ((Below.refl _ _).alloc (Nat.le_refl _) _))
  clear OK; have OK := OK'; clear OK'
  have DK' : Hid (∀ x ∈ S, x ∉ [w.heap.size, w.heap.size + 1, go]) := (fun x hx => by have := DK.out x hx; have := (FK.out.2 x hx).2; simp at *; omega)
  clear DK; have DK := DK'; clear DK'
  have FK' := Lib.hid (fresh_mono (w' := (W1.alloc (.cells #[.int .i64 n, .slice B1 cs.length k1, .slice B2 pl.length k2] 47))) FK.out (Nat.le_refl _) (by simp))
  clear FK; have FK := FK'; clear FK'
  replace hb : Below w.heap.size w (W1.alloc (.cells #[.int .i64 n, .slice B1 cs.length k1, .slice B2 pl.length k2] 47)) := hb.alloc hb.size _
  have hlto : go < (W1.alloc (.cells #[.int .i64 n, .slice B1 cs.length k1, .slice B2 pl.length k2] 47)).heap.size := by simp; omega
  have hne_c_o : w.heap.size < go := by omega
  have hne_r_o : w.heap.size + 1 < go := by omega
  generalize W1.alloc (.cells #[.int .i64 n, .slice B1 cs.length k1, .slice B2 pl.length k2] 47) = W2 at *
  rw [hgo]
  clear hgo
  have c0 := (Lc 0 _ rfl).1
  have c1 := (Lc 1 _ rfl).1
  have c2 := (Lc 2 _ rfl).1
  go_wp2_with fail
  refine twoB (implCompanyOk_any n _ _ cs pl _ (h.below hb)) (fun W3 hq q => ?_) (fun W3 hq q => ?_)
  · skip
    clear c0 c1 c2
    have hzq : W2.heap.size ≤ W3.heap.size := by have := q.size; (try simp at this); omega
    replace Lc := Lc.below q
    replace Lr := Lr.below q
    replace Lo := Lo.below q
    have OK' := Lib.hid (OK.out.below q)
    clear OK; have OK := OK'; clear OK'
    have FK' := Lib.hid (fresh_mono (w' := W3) FK.out (Nat.le_refl _) hzq)
    clear FK; have FK := FK'; clear FK'
    replace hb : Below w.heap.size w W3 := hb.trans (q.mono hb.size)
    clear q
    rcases Nat.eq_zero_or_pos cs.length with h0 | h0
    · have hd : ((cs.length : Int) == 0) = true := by rw [beq_iff_eq]; omega
      have H0 := Lib.hid h0
      clear h0
      have c1 := (Lc 1 _ rfl).1
      have o0 := (Lo 0 _ rfl).1
      have o1 := (Lo 1 _ rfl).1
      have o2 := (Lo 2 _ rfl).1
      have r0 := (Lr 0 _ rfl).1
      have rf0 := (Lr 0 _ rfl).2
      have r1 := (Lr 1 _ rfl).1
      have rf1 := (Lr 1 _ rfl).2
      have r2 := (Lr 2 _ rfl).1
      have rf2 := (Lr 2 _ rfl).2
      go_wp2_with fail
      refine bodyPost_ret (v := .tuple #[.agg #[.int .i64 n, .slice B1 cs.length k1, .slice B2 pl.length k2], .bool false]) (by simp [results, Try.results47, go_sem, *]) rfl (take_f (by rw [takeB, H0.out]; simp) ⟨_, _, S, rfl, ?_, ?_, ?_⟩)
      · exact OK.out.chg (T := [w.heap.size + 1]) (by repeat' (first | (with_reducible exact Chg.refl _ _) | (with_reducible refine chg_set ?_ (by simp)))) (fun x hx hx' => DK.out x hx (by simp at hx'; subst hx'; simp))
      · exact fresh_mono FK.out (by omega) (by simp)
      · exact Below.chg hb (S := [w.heap.size + 1]) (by repeat' (first | (with_reducible exact Chg.refl _ _) | (with_reducible refine chg_set ?_ (by simp)))) hb.size (by simp)
    · have hd : ((cs.length : Int) == 0) = false := by rw [beq_eq_false_iff_ne]; omega
      have hk1 : cs.length ≤ k1 := by obtain ⟨S1, S2, _, o1, _⟩ := OK.out; obtain ⟨_, c', e, h1, _⟩ := o1.rd.form; injection e with _ _ e3; omega
      have hcl : cs.length ≤ 1048576 := by unfold szCompany at hsz; omega
      have c1 := (Lc 1 _ rfl).1
      have o0 := (Lo 0 _ rfl).1
      have o1 := (Lo 1 _ rfl).1
      have o2 := (Lo 2 _ rfl).1
      have of1 := (Lo 1 _ rfl).2
      go_upto_region 5 with (fail)
      clear c1 o0 o1 o2 of1
      replace Lc : Loc (W3.setCell ⟨go, 1, none⟩ (.slice B1 (cs.length - 1) k1)) (w.heap.size) [.int .i64 n, .slice A1 cs.length n1, .slice A2 pl.length n2] := Lc.far (g := go) (i := 1) (u := .slice B1 (cs.length - 1) k1) (by omega)
      replace Lr : Loc (W3.setCell ⟨go, 1, none⟩ (.slice B1 (cs.length - 1) k1)) (w.heap.size + 1) [.int .i64 0, .slice none 0 0, .slice none 0 0] := Lr.far (g := go) (i := 1) (u := .slice B1 (cs.length - 1) k1) (by omega)
      replace Lo : Loc (W3.setCell ⟨go, 1, none⟩ (.slice B1 (cs.length - 1) k1)) (go) [.int .i64 n, .slice B1 (cs.length - 1) k1, .slice B2 pl.length k2] := Lo.set (i := 1) (v := .slice B1 cs.length k1) rfl
      have hch : Chg [go] W3 (W3.setCell ⟨go, 1, none⟩ (.slice B1 (cs.length - 1) k1)) := chg_set (Chg.refl _ _) (by simp)
      have OK' := Lib.hid (OK.out.chg hch (fun x hx hx' => DK.out x hx (by simp at hx'; subst hx'; simp)))
      clear OK; have OK := OK'; clear OK'
      have FK' := Lib.hid (fresh_mono (w' := (W3.setCell ⟨go, 1, none⟩ (.slice B1 (cs.length - 1) k1))) FK.out (Nat.le_refl _) hch.size)
      clear FK; have FK := FK'; clear FK'
      replace hb : Below w.heap.size w (W3.setCell ⟨go, 1, none⟩ (.slice B1 (cs.length - 1) k1)) := Below.chg hb hch hb.size (by simp; omega)
      have hzc := hch.size
      clear hch
      generalize W3.setCell ⟨go, 1, none⟩ (.slice B1 (cs.length - 1) k1) = W4 at *
      have OK' := Lib.hid (take_own OK.out h0)
      clear OK; have OK := OK'; clear OK'
      have H0 := Lib.hid h0
      clear h0
      have o0 := (Lo 0 _ rfl).1
      have o1 := (Lo 1 _ rfl).1
      have o2 := (Lo 2 _ rfl).1
      have r0 := (Lr 0 _ rfl).1
      have rf0 := (Lr 0 _ rfl).2
      have r1 := (Lr 1 _ rfl).1
      have rf1 := (Lr 1 _ rfl).2
      have r2 := (Lr 2 _ rfl).1
      have rf2 := (Lr 2 _ rfl).2
      go_wp2_with fail
      refine bodyPost_ret (v := .tuple #[.agg #[.int .i64 n, .slice B1 (cs.length - 1) k1, .slice B2 pl.length k2], .bool true]) (by simp [results, Try.results47, go_sem, *]) rfl (take_t (by rw [takeB, hq.out]; exact decide_eq_true H0.out) ⟨_, _, S, rfl, ?_, ?_, ?_⟩)
      · exact OK.out.chg (T := [w.heap.size + 1]) (by repeat' (first | (with_reducible exact Chg.refl _ _) | (with_reducible refine chg_set ?_ (by simp)))) (fun x hx hx' => DK.out x hx (by simp at hx'; subst hx'; simp))
      · exact fresh_mono FK.out (by omega) (by simp)
      · exact Below.chg hb (S := [w.heap.size + 1]) (by repeat' (first | (with_reducible exact Chg.refl _ _) | (with_reducible refine chg_set ?_ (by simp)))) hb.size (by simp)
  · skip
    clear c0 c1 c2
    have hzq : W2.heap.size ≤ W3.heap.size := by have := q.size; (try simp at this); omega
    replace Lc := Lc.below q
    replace Lr := Lr.below q
    replace Lo := Lo.below q
    have OK' := Lib.hid (OK.out.below q)
    clear OK; have OK := OK'; clear OK'
    have FK' := Lib.hid (fresh_mono (w' := W3) FK.out (Nat.le_refl _) hzq)
    clear FK; have FK := FK'; clear FK'
    replace hb : Below w.heap.size w W3 := hb.trans (q.mono hb.size)
    clear q
    have o0 := (Lo 0 _ rfl).1
    have o1 := (Lo 1 _ rfl).1
    have o2 := (Lo 2 _ rfl).1
    have r0 := (Lr 0 _ rfl).1
    have rf0 := (Lr 0 _ rfl).2
    have r1 := (Lr 1 _ rfl).1
    have rf1 := (Lr 1 _ rfl).2
    have r2 := (Lr 2 _ rfl).1
    have rf2 := (Lr 2 _ rfl).2
    go_wp2_with fail
    refine bodyPost_ret (v := .tuple #[.agg #[.int .i64 n, .slice B1 cs.length k1, .slice B2 pl.length k2], .bool false]) (by simp [results, Try.results47, go_sem, *]) rfl (take_f (by rw [takeB, hq.out]; rfl) ⟨_, _, S, rfl, ?_, ?_, ?_⟩)
    · exact OK.out.chg (T := [w.heap.size + 1]) (by repeat' (first | (with_reducible exact Chg.refl _ _) | (with_reducible refine chg_set ?_ (by simp)))) (fun x hx hx' => DK.out x hx (by simp at hx'; subst hx'; simp))
    · exact fresh_mono FK.out (by omega) (by simp)
    · exact Below.chg hb (S := [w.heap.size + 1]) (by repeat' (first | (with_reducible exact Chg.refl _ _) | (with_reducible refine chg_set ?_ (by simp)))) hb.size (by simp)
end Go.Proofs.Ytjbhlbcjljdjmaa

namespace Go.Proofs.Ytjbhlbcjljdjmaa
open Go.RowKit
/-- A theatre as data. -/
structure Th where
  n : Int
  m : Int
  cs : List RCross
  pl : List RPl
  ds : List Int
def Th.ok (t : Th) : Bool := theatreB t.n t.m t.cs t.pl t.ds
def Th.sz (t : Th) : Nat := szTheatre t.cs t.pl t.ds
/-- A theatre and a Bool are returned, in blocks of the call's own from B on. -/
def RetT (B : Nat) (n m : Int) (ok : Bool) (cs : List RCross) (pl : List RPl) (ds : List Int) (w : World) (e : Ending) (w' : World) : Prop :=
  ∃ x1 x2 x3 S, e = .returned (.tuple #[.agg #[.int .i64 n, x1, x2, x3, .int .i64 m], .bool ok]) ∧ OwTheatre w' S x1 x2 x3 cs pl ds ∧ Fresh B w' S ∧ Below w.heap.size w w'
def RetTh (B : Nat) (r : Th × Bool) : World → Ending → World → Prop := RetT B r.1.n r.1.m r.2 r.1.cs r.1.pl r.1.ds
def becF (t u : Th) (ok : Bool) : Th × Bool := if t.ok = true ∧ ok = true ∧ u.ok = true then (u, true) else (t, false)
theorem theatreB_sz {n m : Int} {cs : List RCross} {pl : List RPl} {ds : List Int} (h : theatreB n m cs pl ds = true) : szTheatre cs pl ds ≤ 148 := by
  rw [theatreB, Bool.and_eq_true, Bool.and_eq_true] at h
  have h1 := companyB_sz h.1.1
  have h2 := h.1.2
  rw [keepsB, Bool.and_eq_true, Bool.and_eq_true] at h2
  have h3 := (season_bd h2.1.1).1
  unfold szTheatre
  omega
theorem bec_sz (t u : Th) (ok : Bool) : (becF t u ok).1.sz ≤ t.sz ∨ (becF t u ok).1.sz ≤ 148 := by
  unfold becF
  split
  · rename_i h; exact .inr (theatreB_sz h.2.2)
  · exact .inl (Nat.le_refl _)
theorem bec_t {B : Nat} {t u : Th} {ok : Bool} {w w' : World} {e : Ending} (h : t.ok = true ∧ ok = true ∧ u.ok = true) (hr : RetTh B (u, true) w e w') : RetTh B (becF t u ok) w e w' := by rw [becF, if_pos h]; exact hr
theorem bec_f {B : Nat} {t u : Th} {ok : Bool} {w w' : World} {e : Ending} (h : ¬ (t.ok = true ∧ ok = true ∧ u.ok = true)) (hr : RetTh B (t, false) w e w') : RetTh B (becF t u ok) w e w' := by rw [becF, if_neg h]; exact hr
set_option maxHeartbeats 8000000 in
set_option maxRecDepth 100000 in
theorem becomes_any (n m n' m' : Int) (v1 v2 v3 y1 y2 y3 : Value) (cs cs' : List RCross) (pl pl' : List RPl) (ds ds' : List Int) (ok : Bool) (B : Nat) (S : List Nat) (w : World) (h : RdTheatre w v1 v2 v3 cs pl ds) (hsz : szTheatre cs pl ds ≤ 1048576) (how : OwTheatre w S y1 y2 y3 cs' pl' ds') (hf : Fresh B w S) (hB : B ≤ w.heap.size) :
    Calls Try.prog 86 #[.agg #[.int .i64 n, v1, v2, v3, .int .i64 m], .agg #[.int .i64 n', y1, y2, y3, .int .i64 m'], .bool ok] w (RetTh B (becF ⟨n, m, cs, pl, ds⟩ ⟨n', m', cs', pl', ds'⟩ ok) w) := by
  obtain ⟨⟨A1, n1, rfl⟩, ⟨A2, n2, rfl⟩, ⟨A3, n3, rfl⟩⟩ := h.forms
  obtain ⟨⟨B1, k1, rfl⟩, ⟨B2, k2, rfl⟩, ⟨B3, k3, rfl⟩⟩ := how.rd.forms
  have Hok := Lib.hid how
  clear how
  go_enter Try.func86, Try.ntmps86
  go_wp2_with fail
  refine twoB (implTheatreOk_any n m _ _ _ cs pl ds _ (h.below (by (repeat' (first | (with_reducible exact Below.refl _ _) | (with_reducible assumption) | (with_reducible refine Below.setCell ?_ (by first | omega | (simp; omega) | (simp; done)) _) | (with_reducible refine Below.alloc ?_ (by first | omega | (simp; omega) | (simp; done)) _) | (with_reducible refine Below.drew ?_) | (with_reducible refine below_drewN ?_ _)))))) (fun W1 hq q => ?_) (fun W1 hq q => ?_)
  · skip
    have Lc : Loc W1 (w.heap.size) [.int .i64 n, .slice A1 cs.length n1, .slice A2 pl.length n2, .slice A3 ds.length n3, .int .i64 m] := by have := (((Loc.new w #[.int .i64 n, .slice A1 cs.length n1, .slice A2 pl.length n2, .slice A3 ds.length n3, .int .i64 m] 58).alloc _).alloc _).below q; simpa using this
    have Ld : Loc W1 (w.heap.size + 1) [.int .i64 n', .slice B1 cs'.length k1, .slice B2 pl'.length k2, .slice B3 ds'.length k3, .int .i64 m'] := by have := ((Loc.new (w.alloc (.cells #[.int .i64 n, .slice A1 cs.length n1, .slice A2 pl.length n2, .slice A3 ds.length n3, .int .i64 m] 58)) #[.int .i64 n', .slice B1 cs'.length k1, .slice B2 pl'.length k2, .slice B3 ds'.length k3, .int .i64 m'] 58).alloc _).below q; simpa using this
    have Lr : Loc W1 (w.heap.size + 1 + 1) [.int .i64 0, .slice none 0 0, .slice none 0 0, .slice none 0 0, .int .i64 0] := by have := (Loc.new ((w.alloc (.cells #[.int .i64 n, .slice A1 cs.length n1, .slice A2 pl.length n2, .slice A3 ds.length n3, .int .i64 m] 58)).alloc (.cells #[.int .i64 n', .slice B1 cs'.length k1, .slice B2 pl'.length k2, .slice B3 ds'.length k3, .int .i64 m'] 58)) #[.int .i64 0, .slice none 0 0, .slice none 0 0, .slice none 0 0, .int .i64 0] 58).below q; simpa using this
    have hb : Below w.heap.size w W1 := Below.trans (by (repeat' (first | (with_reducible exact Below.refl _ _) | (with_reducible assumption) | (with_reducible refine Below.setCell ?_ (by first | omega | (simp; omega) | (simp; done)) _) | (with_reducible refine Below.alloc ?_ (by first | omega | (simp; omega) | (simp; done)) _) | (with_reducible refine Below.drew ?_) | (with_reducible refine below_drewN ?_ _)))) (q.mono (by simp <;> omega))
    have hz0 : w.heap.size + 1 + 1 + 1 ≤ W1.heap.size := by have := q.size; simp at this; omega
    clear q
    have OK : Hid (OwTheatre W1 S _ _ _ cs' pl' ds') := Lib.hid (Hok.out.below hb)
    have FK : Hid (Fresh B W1 S) := Lib.hid (fresh_mono hf (Nat.le_refl _) hb.size)
    have DK : Hid (∀ x ∈ S, x ∉ [w.heap.size, w.heap.size + 1, w.heap.size + 1 + 1]) := (fun x hx => by have := (hf.2 x hx).2; simp; omega)
    cases ok
    · skip
      have c0 := (Lc 0 _ rfl).1
      have c1 := (Lc 1 _ rfl).1
      have c2 := (Lc 2 _ rfl).1
      have c3 := (Lc 3 _ rfl).1
      have c4 := (Lc 4 _ rfl).1
      go_wp2_with fail
      refine (theatreCopied_any n m _ _ _ cs pl ds _ (h.below hb) hsz).mono ?_
      rintro e W2 ⟨y1, y2, y3, T, rfl, ow6, f6, q⟩
      clear c0 c1 c2 c3 c4
      obtain ⟨⟨D1, e1, rfl⟩, ⟨D2, e2, rfl⟩, ⟨D3, e3, rfl⟩⟩ := ow6.rd.forms
      have hzq : W1.heap.size ≤ W2.heap.size := by have := q.size; (try simp at this); omega
      replace Lc := Lc.below q
      replace Ld := Ld.below q
      replace Lr := Lr.below q
      have OK' := Lib.hid (OK.out.below q)
      clear OK; have OK := OK'; clear OK'
      have FK' := Lib.hid (fresh_mono (w' := W2) FK.out (Nat.le_refl _) hzq)
      clear FK; have FK := FK'; clear FK'
      replace hb : Below w.heap.size w W2 := hb.trans (q.mono hb.size)
      have hlow : W1.heap.size ≤ W1.heap.size := by first | exact Nat.le_refl _ | (simp; done) | (simp; omega) | omega
      have FZ := Lib.hid (fresh_mono f6 hlow (Nat.le_refl _))
      have DZ : Hid (∀ x ∈ T, x ∉ [w.heap.size, w.heap.size + 1, w.heap.size + 1 + 1]) := (fun x hx => by have := (FZ.out.2 x hx).1; simp; omega)
      have OZ := Lib.hid ow6
      clear ow6 f6 hlow
      clear q
      have r0 := (Lr 0 _ rfl).1
      have rf0 := (Lr 0 _ rfl).2
      have r1 := (Lr 1 _ rfl).1
      have rf1 := (Lr 1 _ rfl).2
      have r2 := (Lr 2 _ rfl).1
      have rf2 := (Lr 2 _ rfl).2
      have r3 := (Lr 3 _ rfl).1
      have rf3 := (Lr 3 _ rfl).2
      have r4 := (Lr 4 _ rfl).1
      have rf4 := (Lr 4 _ rfl).2
      go_wp2_with fail
      refine bodyPost_ret (v := .tuple #[.agg #[.int .i64 n, .slice D1 cs.length e1, .slice D2 pl.length e2, .slice D3 ds.length e3, .int .i64 m], .bool false]) (by simp [results, Try.results86, go_sem, *]) rfl (bec_f (by simp) ⟨_, _, _, T, rfl, ?_, ?_, ?_⟩)
      · exact OZ.out.chg (T := [w.heap.size + 1 + 1]) (by repeat' (first | (with_reducible exact Chg.refl _ _) | (with_reducible refine chg_set ?_ (by simp)))) (fun x hx hx' => DZ.out x hx (by simp at hx'; subst hx'; simp))
      · exact fresh_mono FZ.out (by omega) (by simp)
      · exact Below.chg hb (S := [w.heap.size + 1 + 1]) (by repeat' (first | (with_reducible exact Chg.refl _ _) | (with_reducible refine chg_set ?_ (by simp)))) hb.size (fun x hx => by simp at hx; omega)
    · skip
      have d0 := (Ld 0 _ rfl).1
      have d1 := (Ld 1 _ rfl).1
      have d2 := (Ld 2 _ rfl).1
      have d3 := (Ld 3 _ rfl).1
      have d4 := (Ld 4 _ rfl).1
      go_wp2_with fail
      refine twoB (implTheatreOk_any n' m' _ _ _ cs' pl' ds' _ OK.out.rd) (fun W2 hq' q => ?_) (fun W2 hq' q => ?_)
      · skip
        clear d0 d1 d2 d3 d4
        have hzq : W1.heap.size ≤ W2.heap.size := by have := q.size; (try simp at this); omega
        replace Lc := Lc.below q
        replace Ld := Ld.below q
        replace Lr := Lr.below q
        have OK' := Lib.hid (OK.out.below q)
        clear OK; have OK := OK'; clear OK'
        have FK' := Lib.hid (fresh_mono (w' := W2) FK.out (Nat.le_refl _) hzq)
        clear FK; have FK := FK'; clear FK'
        replace hb : Below w.heap.size w W2 := hb.trans (q.mono hb.size)
        clear q
        have d0 := (Ld 0 _ rfl).1
        have d1 := (Ld 1 _ rfl).1
        have d2 := (Ld 2 _ rfl).1
        have d3 := (Ld 3 _ rfl).1
        have d4 := (Ld 4 _ rfl).1
        have r0 := (Lr 0 _ rfl).1
        have rf0 := (Lr 0 _ rfl).2
        have r1 := (Lr 1 _ rfl).1
        have rf1 := (Lr 1 _ rfl).2
        have r2 := (Lr 2 _ rfl).1
        have rf2 := (Lr 2 _ rfl).2
        have r3 := (Lr 3 _ rfl).1
        have rf3 := (Lr 3 _ rfl).2
        have r4 := (Lr 4 _ rfl).1
        have rf4 := (Lr 4 _ rfl).2
        go_wp2_with fail
        refine bodyPost_ret (v := .tuple #[.agg #[.int .i64 n', .slice B1 cs'.length k1, .slice B2 pl'.length k2, .slice B3 ds'.length k3, .int .i64 m'], .bool true]) (by simp [results, Try.results86, go_sem, *]) rfl (bec_t ⟨hq.out, rfl, hq'.out⟩ ⟨_, _, _, S, rfl, ?_, ?_, ?_⟩)
        · exact OK.out.chg (T := [w.heap.size + 1 + 1]) (by repeat' (first | (with_reducible exact Chg.refl _ _) | (with_reducible refine chg_set ?_ (by simp)))) (fun x hx hx' => DK.out x hx (by simp at hx'; subst hx'; simp))
        · exact fresh_mono FK.out (by omega) (by simp)
        · exact Below.chg hb (S := [w.heap.size + 1 + 1]) (by repeat' (first | (with_reducible exact Chg.refl _ _) | (with_reducible refine chg_set ?_ (by simp)))) hb.size (fun x hx => by simp at hx; omega)
      · skip
        clear d0 d1 d2 d3 d4
        have hzq : W1.heap.size ≤ W2.heap.size := by have := q.size; (try simp at this); omega
        replace Lc := Lc.below q
        replace Ld := Ld.below q
        replace Lr := Lr.below q
        have OK' := Lib.hid (OK.out.below q)
        clear OK; have OK := OK'; clear OK'
        have FK' := Lib.hid (fresh_mono (w' := W2) FK.out (Nat.le_refl _) hzq)
        clear FK; have FK := FK'; clear FK'
        replace hb : Below w.heap.size w W2 := hb.trans (q.mono hb.size)
        clear q
        have c0 := (Lc 0 _ rfl).1
        have c1 := (Lc 1 _ rfl).1
        have c2 := (Lc 2 _ rfl).1
        have c3 := (Lc 3 _ rfl).1
        have c4 := (Lc 4 _ rfl).1
        go_wp2_with fail
        refine (theatreCopied_any n m _ _ _ cs pl ds _ (h.below hb) hsz).mono ?_
        rintro e W3 ⟨y1, y2, y3, T, rfl, ow6, f6, q⟩
        clear c0 c1 c2 c3 c4
        obtain ⟨⟨D1, e1, rfl⟩, ⟨D2, e2, rfl⟩, ⟨D3, e3, rfl⟩⟩ := ow6.rd.forms
        have hzq : W2.heap.size ≤ W3.heap.size := by have := q.size; (try simp at this); omega
        replace Lc := Lc.below q
        replace Ld := Ld.below q
        replace Lr := Lr.below q
        have OK' := Lib.hid (OK.out.below q)
        clear OK; have OK := OK'; clear OK'
        have FK' := Lib.hid (fresh_mono (w' := W3) FK.out (Nat.le_refl _) hzq)
        clear FK; have FK := FK'; clear FK'
        replace hb : Below w.heap.size w W3 := hb.trans (q.mono hb.size)
        have hlow : W2.heap.size ≤ W2.heap.size := by first | exact Nat.le_refl _ | (simp; done) | (simp; omega) | omega
        have FZ := Lib.hid (fresh_mono f6 hlow (Nat.le_refl _))
        have DZ : Hid (∀ x ∈ T, x ∉ [w.heap.size, w.heap.size + 1, w.heap.size + 1 + 1]) := (fun x hx => by have := (FZ.out.2 x hx).1; simp; omega)
        have OZ := Lib.hid ow6
        clear ow6 f6 hlow
        clear q
        have r0 := (Lr 0 _ rfl).1
        have rf0 := (Lr 0 _ rfl).2
        have r1 := (Lr 1 _ rfl).1
        have rf1 := (Lr 1 _ rfl).2
        have r2 := (Lr 2 _ rfl).1
        have rf2 := (Lr 2 _ rfl).2
        have r3 := (Lr 3 _ rfl).1
        have rf3 := (Lr 3 _ rfl).2
        have r4 := (Lr 4 _ rfl).1
        have rf4 := (Lr 4 _ rfl).2
        go_wp2_with fail
        refine bodyPost_ret (v := .tuple #[.agg #[.int .i64 n, .slice D1 cs.length e1, .slice D2 pl.length e2, .slice D3 ds.length e3, .int .i64 m], .bool false]) (by simp [results, Try.results86, go_sem, *]) rfl (bec_f (fun hh => absurd (show theatreB n' m' cs' pl' ds' = true from hh.2.2) (by rw [hq'.out]; simp)) ⟨_, _, _, T, rfl, ?_, ?_, ?_⟩)
        · exact OZ.out.chg (T := [w.heap.size + 1 + 1]) (by repeat' (first | (with_reducible exact Chg.refl _ _) | (with_reducible refine chg_set ?_ (by simp)))) (fun x hx hx' => DZ.out x hx (by simp at hx'; subst hx'; simp))
        · exact fresh_mono FZ.out (by omega) (by simp)
        · exact Below.chg hb (S := [w.heap.size + 1 + 1]) (by repeat' (first | (with_reducible exact Chg.refl _ _) | (with_reducible refine chg_set ?_ (by simp)))) hb.size (fun x hx => by simp at hx; omega)
  · skip
    have Lc : Loc W1 (w.heap.size) [.int .i64 n, .slice A1 cs.length n1, .slice A2 pl.length n2, .slice A3 ds.length n3, .int .i64 m] := by have := (((Loc.new w #[.int .i64 n, .slice A1 cs.length n1, .slice A2 pl.length n2, .slice A3 ds.length n3, .int .i64 m] 58).alloc _).alloc _).below q; simpa using this
    have Ld : Loc W1 (w.heap.size + 1) [.int .i64 n', .slice B1 cs'.length k1, .slice B2 pl'.length k2, .slice B3 ds'.length k3, .int .i64 m'] := by have := ((Loc.new (w.alloc (.cells #[.int .i64 n, .slice A1 cs.length n1, .slice A2 pl.length n2, .slice A3 ds.length n3, .int .i64 m] 58)) #[.int .i64 n', .slice B1 cs'.length k1, .slice B2 pl'.length k2, .slice B3 ds'.length k3, .int .i64 m'] 58).alloc _).below q; simpa using this
    have Lr : Loc W1 (w.heap.size + 1 + 1) [.int .i64 0, .slice none 0 0, .slice none 0 0, .slice none 0 0, .int .i64 0] := by have := (Loc.new ((w.alloc (.cells #[.int .i64 n, .slice A1 cs.length n1, .slice A2 pl.length n2, .slice A3 ds.length n3, .int .i64 m] 58)).alloc (.cells #[.int .i64 n', .slice B1 cs'.length k1, .slice B2 pl'.length k2, .slice B3 ds'.length k3, .int .i64 m'] 58)) #[.int .i64 0, .slice none 0 0, .slice none 0 0, .slice none 0 0, .int .i64 0] 58).below q; simpa using this
    have hb : Below w.heap.size w W1 := Below.trans (by (repeat' (first | (with_reducible exact Below.refl _ _) | (with_reducible assumption) | (with_reducible refine Below.setCell ?_ (by first | omega | (simp; omega) | (simp; done)) _) | (with_reducible refine Below.alloc ?_ (by first | omega | (simp; omega) | (simp; done)) _) | (with_reducible refine Below.drew ?_) | (with_reducible refine below_drewN ?_ _)))) (q.mono (by simp <;> omega))
    have hz0 : w.heap.size + 1 + 1 + 1 ≤ W1.heap.size := by have := q.size; simp at this; omega
    clear q
    have OK : Hid (OwTheatre W1 S _ _ _ cs' pl' ds') := Lib.hid (Hok.out.below hb)
    have FK : Hid (Fresh B W1 S) := Lib.hid (fresh_mono hf (Nat.le_refl _) hb.size)
    have DK : Hid (∀ x ∈ S, x ∉ [w.heap.size, w.heap.size + 1, w.heap.size + 1 + 1]) := (fun x hx => by have := (hf.2 x hx).2; simp; omega)
    cases ok
    · skip
      have c0 := (Lc 0 _ rfl).1
      have c1 := (Lc 1 _ rfl).1
      have c2 := (Lc 2 _ rfl).1
      have c3 := (Lc 3 _ rfl).1
      have c4 := (Lc 4 _ rfl).1
      go_wp2_with fail
      refine (theatreCopied_any n m _ _ _ cs pl ds _ (h.below hb) hsz).mono ?_
      rintro e W2 ⟨y1, y2, y3, T, rfl, ow6, f6, q⟩
      clear c0 c1 c2 c3 c4
      obtain ⟨⟨D1, e1, rfl⟩, ⟨D2, e2, rfl⟩, ⟨D3, e3, rfl⟩⟩ := ow6.rd.forms
      have hzq : W1.heap.size ≤ W2.heap.size := by have := q.size; (try simp at this); omega
      replace Lc := Lc.below q
      replace Ld := Ld.below q
      replace Lr := Lr.below q
      have OK' := Lib.hid (OK.out.below q)
      clear OK; have OK := OK'; clear OK'
      have FK' := Lib.hid (fresh_mono (w' := W2) FK.out (Nat.le_refl _) hzq)
      clear FK; have FK := FK'; clear FK'
      replace hb : Below w.heap.size w W2 := hb.trans (q.mono hb.size)
      have hlow : W1.heap.size ≤ W1.heap.size := by first | exact Nat.le_refl _ | (simp; done) | (simp; omega) | omega
      have FZ := Lib.hid (fresh_mono f6 hlow (Nat.le_refl _))
      have DZ : Hid (∀ x ∈ T, x ∉ [w.heap.size, w.heap.size + 1, w.heap.size + 1 + 1]) := (fun x hx => by have := (FZ.out.2 x hx).1; simp; omega)
      have OZ := Lib.hid ow6
      clear ow6 f6 hlow
      clear q
      have r0 := (Lr 0 _ rfl).1
      have rf0 := (Lr 0 _ rfl).2
      have r1 := (Lr 1 _ rfl).1
      have rf1 := (Lr 1 _ rfl).2
      have r2 := (Lr 2 _ rfl).1
      have rf2 := (Lr 2 _ rfl).2
      have r3 := (Lr 3 _ rfl).1
      have rf3 := (Lr 3 _ rfl).2
      have r4 := (Lr 4 _ rfl).1
      have rf4 := (Lr 4 _ rfl).2
      go_wp2_with fail
      refine bodyPost_ret (v := .tuple #[.agg #[.int .i64 n, .slice D1 cs.length e1, .slice D2 pl.length e2, .slice D3 ds.length e3, .int .i64 m], .bool false]) (by simp [results, Try.results86, go_sem, *]) rfl (bec_f (fun hh => absurd (show theatreB n m cs pl ds = true from hh.1) (by rw [hq.out]; simp)) ⟨_, _, _, T, rfl, ?_, ?_, ?_⟩)
      · exact OZ.out.chg (T := [w.heap.size + 1 + 1]) (by repeat' (first | (with_reducible exact Chg.refl _ _) | (with_reducible refine chg_set ?_ (by simp)))) (fun x hx hx' => DZ.out x hx (by simp at hx'; subst hx'; simp))
      · exact fresh_mono FZ.out (by omega) (by simp)
      · exact Below.chg hb (S := [w.heap.size + 1 + 1]) (by repeat' (first | (with_reducible exact Chg.refl _ _) | (with_reducible refine chg_set ?_ (by simp)))) hb.size (fun x hx => by simp at hx; omega)
    · skip
      have c0 := (Lc 0 _ rfl).1
      have c1 := (Lc 1 _ rfl).1
      have c2 := (Lc 2 _ rfl).1
      have c3 := (Lc 3 _ rfl).1
      have c4 := (Lc 4 _ rfl).1
      go_wp2_with fail
      refine (theatreCopied_any n m _ _ _ cs pl ds _ (h.below hb) hsz).mono ?_
      rintro e W2 ⟨y1, y2, y3, T, rfl, ow6, f6, q⟩
      clear c0 c1 c2 c3 c4
      obtain ⟨⟨D1, e1, rfl⟩, ⟨D2, e2, rfl⟩, ⟨D3, e3, rfl⟩⟩ := ow6.rd.forms
      have hzq : W1.heap.size ≤ W2.heap.size := by have := q.size; (try simp at this); omega
      replace Lc := Lc.below q
      replace Ld := Ld.below q
      replace Lr := Lr.below q
      have OK' := Lib.hid (OK.out.below q)
      clear OK; have OK := OK'; clear OK'
      have FK' := Lib.hid (fresh_mono (w' := W2) FK.out (Nat.le_refl _) hzq)
      clear FK; have FK := FK'; clear FK'
      replace hb : Below w.heap.size w W2 := hb.trans (q.mono hb.size)
      have hlow : W1.heap.size ≤ W1.heap.size := by first | exact Nat.le_refl _ | (simp; done) | (simp; omega) | omega
      have FZ := Lib.hid (fresh_mono f6 hlow (Nat.le_refl _))
      have DZ : Hid (∀ x ∈ T, x ∉ [w.heap.size, w.heap.size + 1, w.heap.size + 1 + 1]) := (fun x hx => by have := (FZ.out.2 x hx).1; simp; omega)
      have OZ := Lib.hid ow6
      clear ow6 f6 hlow
      clear q
      have r0 := (Lr 0 _ rfl).1
      have rf0 := (Lr 0 _ rfl).2
      have r1 := (Lr 1 _ rfl).1
      have rf1 := (Lr 1 _ rfl).2
      have r2 := (Lr 2 _ rfl).1
      have rf2 := (Lr 2 _ rfl).2
      have r3 := (Lr 3 _ rfl).1
      have rf3 := (Lr 3 _ rfl).2
      have r4 := (Lr 4 _ rfl).1
      have rf4 := (Lr 4 _ rfl).2
      go_wp2_with fail
      refine bodyPost_ret (v := .tuple #[.agg #[.int .i64 n, .slice D1 cs.length e1, .slice D2 pl.length e2, .slice D3 ds.length e3, .int .i64 m], .bool false]) (by simp [results, Try.results86, go_sem, *]) rfl (bec_f (fun hh => absurd (show theatreB n m cs pl ds = true from hh.1) (by rw [hq.out]; simp)) ⟨_, _, _, T, rfl, ?_, ?_, ?_⟩)
      · exact OZ.out.chg (T := [w.heap.size + 1 + 1]) (by repeat' (first | (with_reducible exact Chg.refl _ _) | (with_reducible refine chg_set ?_ (by simp)))) (fun x hx hx' => DZ.out x hx (by simp at hx'; subst hx'; simp))
      · exact fresh_mono FZ.out (by omega) (by simp)
      · exact Below.chg hb (S := [w.heap.size + 1 + 1]) (by repeat' (first | (with_reducible exact Chg.refl _ _) | (with_reducible refine chg_set ?_ (by simp)))) hb.size (fun x hx => by simp at hx; omega)
def moveF (t : Th) (a : Int) (f : Bool) : Th × Bool := becF t ⟨t.n, t.m, withC t.n t.cs t.pl [(a, f)], t.pl, t.ds⟩ (withB t.n t.cs t.pl [(a, f)])
theorem with_ok {n m : Int} {cs l : List RCross} {pl : List RPl} {ds : List Int} (h : theatreB n m cs pl ds = true) (hw : withB n cs pl l = true) : theatreB n m (withC n cs pl l) pl ds = true := by
  rw [withC, hw]
  rw [withB, Bool.and_eq_true] at hw
  unfold theatreB at h ⊢
  rw [Bool.and_eq_true, Bool.and_eq_true] at h ⊢
  exact ⟨⟨hw.2, h.1.2⟩, h.2⟩
theorem becomes_eq {n m n' m' : Int} {v1 v2 v3 y1 y2 y3 : Value} {cs cs' : List RCross} {pl pl' : List RPl} {ds ds' : List Int} {ok : Bool} {B : Nat} {S : List Nat} {rn rm : Int} {rcs : List RCross} {rpl : List RPl} {rds : List Int} {rb : Bool} {w : World}
    (hr : becF ⟨n, m, cs, pl, ds⟩ ⟨n', m', cs', pl', ds'⟩ ok = (⟨rn, rm, rcs, rpl, rds⟩, rb)) (h : RdTheatre w v1 v2 v3 cs pl ds) (hsz : szTheatre cs pl ds ≤ 1048576) (how : OwTheatre w S y1 y2 y3 cs' pl' ds') (hf : Fresh B w S) (hB : B ≤ w.heap.size) :
    Calls Try.prog 86 #[.agg #[.int .i64 n, v1, v2, v3, .int .i64 m], .agg #[.int .i64 n', y1, y2, y3, .int .i64 m'], .bool ok] w (RetT B rn rm rb rcs rpl rds w) := by
  have := becomes_any n m n' m' v1 v2 v3 y1 y2 y3 cs cs' pl pl' ds ds' ok B S w h hsz how hf hB
  rw [hr] at this
  exact this
end Go.Proofs.Ytjbhlbcjljdjmaa

namespace Go.Proofs.Ytjbhlbcjljdjmaa
open Go.RowKit
/-- how many stand ahead of n -/
def atF (n : Int) : List Int → Nat
  | [] => 0
  | x :: l => if x < n then atF n l + 1 else 0
theorem atF_le (n : Int) (l : List Int) : atF n l ≤ l.length := by
  induction l with
  | nil => exact Nat.le_refl _
  | cons x l ih => unfold atF; split <;> simp; omega
theorem atF_of {n : Int} : ∀ (l : List Int) (k : Nat), k ≤ l.length → (∀ j (h : j < l.length), j < k → l[j] < n) → (∀ h : k < l.length, ¬ l[k] < n) → atF n l = k := by
  intro l
  induction l with
  | nil => intro k hk _ _; simp at hk; subst hk; rfl
  | cons x l ih =>
    intro k hk h1 h2
    cases k with
    | zero => have := h2 (by simp); simp only [List.getElem_cons_zero] at this; unfold atF; rw [if_neg this]
    | succ k =>
      have h0 := h1 0 (by simp) (by omega)
      simp only [List.getElem_cons_zero] at h0
      unfold atF
      rw [if_pos h0, ih k (by simpa using hk) (fun j hj hjk => by have := h1 (j + 1) (by simpa using hj) (by omega); simpa using this) (fun hk' => by have := h2 (by simpa using hk'); simpa using this)]
theorem putF_at (n : Int) (l : List Int) : putF n l = l.take (atF n l) ++ [n] ++ l.drop (atF n l) := by
  induction l with
  | nil => rfl
  | cons x l ih =>
    unfold putF atF
    by_cases h : x < n
    · rw [if_pos h, if_neg (show ¬ n ≤ x by omega), ih]; simp
    · rw [if_neg h, if_pos (show n ≤ x by omega)]; rfl
theorem putF_flat (n : Int) (l : List Int) : ((l.take (atF n l)).flatMap cInt ++ [.int .i64 n]) ++ (l.drop (atF n l)).flatMap cInt = (putF n l).flatMap cInt := by
  rw [putF_at, List.flatMap_append, List.flatMap_append]; rfl
/- days -/
def addF (l : List Int) (d : Int) : List Int × Bool := if seasonB l = true ∧ seasonB (putF d l) = true then (putF d l, true) else (l, false)
theorem addF_t {l : List Int} {d : Int} (h1 : seasonB l = true) (h2 : seasonB (putF d l) = true) : addF l d = (putF d l, true) := if_pos ⟨h1, h2⟩
theorem addF_f1 {l : List Int} {d : Int} (h : seasonB l = false) : addF l d = (l, false) := if_neg (by rw [h]; simp)
theorem addF_f2 {l : List Int} {d : Int} (h : seasonB (putF d l) = false) : addF l d = (l, false) := if_neg (by rw [h]; simp)
theorem addF_len (l : List Int) (d : Int) : (addF l d).1.length ≤ l.length ∨ (addF l d).1.length ≤ 60 := by
  unfold addF
  split
  · rename_i h; exact .inr (season_bd h.2).1
  · exact .inl (Nat.le_refl _)
/- players -/
def knowsB (p : RPl) (x : Int) : Bool := p.1.any (fun y => decide (y = x))
def teachB (pl : List RPl) (k p : Int) : Bool := ((playersB pl && inB k 0 (pl.length - 1)) && inB p 0 6) && !knowsB (pl.getD k.toNat ([], 0)) p
def teachF (pl : List RPl) (k p : Int) : List RPl × Bool := if teachB pl k p = true then (pl.set k.toNat (putF p (pl.getD k.toNat ([], 0)).1, (pl.getD k.toNat ([], 0)).2), true) else (pl, false)
theorem teachF_t {pl : List RPl} {k : Nat} {p : Int} (hk : k < pl.length) (h : teachB pl k p = true) : teachF pl k p = (pl.set k (putF p pl[k].1, pl[k].2), true) := by
  rw [teachF, if_pos h, show ((k : Int)).toNat = k from rfl, List.getD_eq_getElem?_getD, List.getElem?_eq_getElem hk]; rfl
theorem teachF_f {pl : List RPl} {k p : Int} (h : teachB pl k p = false) : teachF pl k p = (pl, false) := if_neg (by rw [h]; simp)
theorem teach_f1 {pl : List RPl} {k p : Int} (h : playersB pl = false) : teachB pl k p = false := by rw [teachB, h]; rfl
theorem teach_f2 {pl : List RPl} {k p : Int} (h : inB k 0 (pl.length - 1) = false) : teachB pl k p = false := by rw [teachB, h, Bool.and_false]; rfl
theorem teach_f3 {pl : List RPl} {k p : Int} (h : inB p 0 6 = false) : teachB pl k p = false := by rw [teachB, h, Bool.and_false]; rfl
theorem teach_v {pl : List RPl} {k : Nat} {p : Int} (hk : k < pl.length) (h1 : playersB pl = true) (h2 : inB k 0 (pl.length - 1) = true) (h3 : inB p 0 6 = true) : teachB pl k p = !knowsB pl[k] p := by
  rw [teachB, h1, h2, h3, show ((k : Int)).toNat = k from rfl, List.getD_eq_getElem?_getD, List.getElem?_eq_getElem hk]; rfl
def teachT (t : Th) (k p : Int) : Th × Bool := becF t ⟨t.n, wrap64 (t.m - 4), t.cs, (teachF t.pl k p).1, t.ds⟩ (teachF t.pl k p).2
end Go.Proofs.Ytjbhlbcjljdjmaa

namespace Go.Proofs.Ytjbhlbcjljdjmaa
open Go.RowKit
/-- whether player p can take puppet x under a load -/
def canAt (pl : List RPl) (x : Int) (ld : List Int) (p : Nat) : Bool := decide (ld.getD p 0 < (pl.getD p ([], 0)).2) && knowsB (pl.getD p ([], 0)) x
def bump (ld : List Int) (p : Nat) : List Int := ld.set p (ld.getD p 0 + 1)
/-- whether the puppets that are left can be cast -/
def canS (pl : List RPl) : List Int → List Int → Bool
  | [], _ => true
  | x :: ps, ld => (List.range pl.length).any (fun p => canAt pl x ld p && canS pl ps (bump ld p))
theorem bump_len (ld : List Int) (p : Nat) : (bump ld p).length = ld.length := by simp [bump]
def zeroL (n : Nat) : List Int := List.replicate n 0
def canF (pl : List RPl) (ps : List Int) : Bool := (playersB pl && strictB ps 0 6) && canS pl ps (zeroL pl.length)
theorem canF_f1 {pl : List RPl} {ps : List Int} (h : playersB pl = false) : canF pl ps = false := by rw [canF, h]; rfl
theorem canF_f2 {pl : List RPl} {ps : List Int} (h : strictB ps 0 6 = false) : canF pl ps = false := by rw [canF, h, Bool.and_false]; rfl
theorem canF_t {pl : List RPl} {ps : List Int} (h1 : playersB pl = true) (h2 : strictB ps 0 6 = true) : canF pl ps = canS pl ps (zeroL pl.length) := by rw [canF, h1, h2]; rfl
theorem canS_t {pl : List RPl} {x : Int} {ps ld : List Int} {p : Nat} (hp : p < pl.length) (h1 : canAt pl x ld p = true) (h2 : canS pl ps (bump ld p) = true) : canS pl (x :: ps) ld = true := by
  rw [canS, List.any_eq_true]
  exact ⟨p, List.mem_range.2 hp, by rw [h1, h2]; rfl⟩
/-- the first k players have been tried in vain -/
def TriedF (pl : List RPl) (x : Int) (ps ld : List Int) (k : Nat) : Prop := ∀ p, p < k → (canAt pl x ld p && canS pl ps (bump ld p)) = false
theorem TriedF.zero (pl : List RPl) (x : Int) (ps ld : List Int) : TriedF pl x ps ld 0 := fun p h => absurd h (by omega)
theorem TriedF.no {pl : List RPl} {x : Int} {ps ld : List Int} {k : Nat} (h : TriedF pl x ps ld k) (h1 : canAt pl x ld k = false) : TriedF pl x ps ld (k + 1) := fun p hp => by
  rcases Nat.lt_succ_iff_lt_or_eq.1 hp with h2 | rfl
  · exact h p h2
  · rw [h1]; rfl
theorem TriedF.sub {pl : List RPl} {x : Int} {ps ld : List Int} {k : Nat} (h : TriedF pl x ps ld k) (h1 : canS pl ps (bump ld k) = false) : TriedF pl x ps ld (k + 1) := fun p hp => by
  rcases Nat.lt_succ_iff_lt_or_eq.1 hp with h2 | rfl
  · exact h p h2
  · rw [h1, Bool.and_false]
theorem TriedF.end_ {pl : List RPl} {x : Int} {ps ld : List Int} (h : TriedF pl x ps ld pl.length) : canS pl (x :: ps) ld = false := by
  rw [canS]
  exact Bool.eq_false_iff.2 (fun h2 => by
    obtain ⟨p, hp, h3⟩ := List.any_eq_true.1 h2
    rw [h p (List.mem_range.1 hp)] at h3
    exact absurd h3 (by simp))
theorem canAt_eq {pl : List RPl} {x : Int} {ld : List Int} {p : Nat} (hp : p < pl.length) (hl : p < ld.length) : canAt pl x ld p = (decide (ld[p] < pl[p].2) && knowsB pl[p] x) := by
  unfold canAt
  rw [List.getD_eq_getElem?_getD, List.getElem?_eq_getElem hl, List.getD_eq_getElem?_getD, List.getElem?_eq_getElem hp]; rfl
theorem bump_eq {ld : List Int} {p : Nat} (hl : p < ld.length) : bump ld p = ld.set p (ld[p] + 1) := by
  unfold bump
  rw [List.getD_eq_getElem?_getD, List.getElem?_eq_getElem hl]; rfl
theorem unbump {ld : List Int} {p : Nat} (hl : p < ld.length) : (bump ld p).set p ld[p] = ld := by
  rw [bump_eq hl, List.set_set, List.set_getElem_self]
/-- why a company does not play -/
def whyF (n : Int) (cs : List RCross) (pl : List RPl) : Int :=
  if companyB n cs pl = true then (if orderF n.toNat cs = upN n.toNat then (if woundL n.toNat cs = [] then (if canF pl (upN n.toNat) = true then 0 else 3) else 2) else 1) else -1
theorem whyF_m {n : Int} {cs : List RCross} {pl : List RPl} (h : companyB n cs pl = false) : whyF n cs pl = -1 := if_neg (by rw [h]; simp)
theorem whyF_1 {n : Int} {cs : List RCross} {pl : List RPl} (h : companyB n cs pl = true) (h1 : ¬ orderF n.toNat cs = upN n.toNat) : whyF n cs pl = 1 := by rw [whyF, if_pos h, if_neg h1]
theorem whyF_2 {n : Int} {cs : List RCross} {pl : List RPl} (h : companyB n cs pl = true) (h1 : orderF n.toNat cs = upN n.toNat) (h2 : ¬ woundL n.toNat cs = []) : whyF n cs pl = 2 := by rw [whyF, if_pos h, if_pos h1, if_neg h2]
theorem whyF_3 {n : Int} {cs : List RCross} {pl : List RPl} (h : companyB n cs pl = true) (h1 : orderF n.toNat cs = upN n.toNat) (h2 : woundL n.toNat cs = []) (h3 : canF pl (upN n.toNat) = false) : whyF n cs pl = 3 := by rw [whyF, if_pos h, if_pos h1, if_pos h2, if_neg (by rw [h3]; simp)]
theorem whyF_0 {n : Int} {cs : List RCross} {pl : List RPl} (h : companyB n cs pl = true) (h1 : orderF n.toNat cs = upN n.toNat) (h2 : woundL n.toNat cs = []) (h3 : canF pl (upN n.toNat) = true) : whyF n cs pl = 0 := by rw [whyF, if_pos h, if_pos h1, if_pos h2, if_pos h3]
end Go.Proofs.Ytjbhlbcjljdjmaa

namespace Go.Proofs.Ytjbhlbcjljdjmaa
open Go.RowKit
def slLen : Value → Nat
  | .slice _ n _ => n
  | _ => 0
def boolN : Value → Nat
  | .bool b => if b = true then 1 else 0
  | _ => 0
/-- the blocks of two rows lie apart -/
def Apart (v u : Value) : Prop := ∀ b ∈ v.ownBlock.toList, b ∉ u.ownBlock.toList
/-- how far the exchanges are: d done, o the order now -/
structure SortSt (m : Nat) (l d o : List Int) : Prop where
  ord : IsOrd m o
  eq : swapsF l = d ++ swapsF o
theorem SortSt.len {m : Nat} {l d o : List Int} (h : SortSt m l d o) : d.length + inv o = inv l := by
  have := congrArg List.length h.eq
  rw [swapsF_len, List.length_append, swapsF_len] at this
  exact this.symm
theorem SortSt.step {m : Nat} {l d o : List Int} (h : SortSt m l d o) {k : Nat} (hk : FirstDesc o k) : SortSt m l (d ++ [(k : Int)]) (swapL o k) := by
  refine ⟨h.ord.swap (by have := hk.lt; rwa [h.ord.len] at this), ?_⟩
  rw [h.eq, swapsF_step hk, List.append_assoc]; rfl
theorem inv_49 {m : Nat} {l : List Int} (h : IsOrd m l) (hm : m ≤ 7) : inv l ≤ 49 := by
  have h1 := inv_le l
  rw [h.len] at h1
  have : m * m ≤ 7 * 7 := Nat.mul_le_mul hm hm
  omega
theorem SortSt.end_ {m : Nat} {l d o : List Int} (h : SortSt m l d o) (h0 : inv o = 0) : swapsF l = d := by rw [h.eq, swapsF_zero h0, List.append_nil]
def UpTo (o : List Int) (k : Nat) : Prop := ∀ j (_ : j < k) (h : j + 1 < o.length), o[j] < o[j + 1]
theorem UpTo.zero (o : List Int) : UpTo o 0 := fun j h => absurd h (by omega)
theorem UpTo.succ {o : List Int} {k : Nat} (h : UpTo o k) (hk : k + 1 < o.length) (hx : o[k] < o[k + 1]) : UpTo o (k + 1) := fun j hj h1 => by
  rcases Nat.lt_succ_iff_lt_or_eq.1 hj with h2 | rfl
  · exact h j h2 h1
  · exact hx
theorem UpTo.all {o : List Int} {k : Nat} (h : UpTo o k) (hk : o.length ≤ k + 1) : inv o = 0 := no_desc o (fun j hj => h j (by omega) hj)
theorem UpTo.first {m : Nat} {o : List Int} {k : Nat} (h : UpTo o k) (ho : IsOrd m o) (hk : k + 1 < o.length) (hx : ¬ o[k] < o[k + 1]) : FirstDesc o k :=
  ⟨hk, fun j hj => h j hj (by omega), by have := ho.ne (i := k) (j := k + 1) (by omega) hk (by omega); omega⟩
theorem own_lt {w : World} {B : Nat} {e : TypeId} {size n : Nat} {v : Value} {xs : List Value} (h : w.ownsRow B e size v n xs) : ∀ b ∈ v.ownBlock.toList, B ≤ b ∧ b < w.heap.size := fun b hb => (fresh_of h).2 b hb
/-- a row that has come up later lies apart from one that stood before -/
theorem apart_new {w w' : World} {B B' n n' : Nat} {e e' : TypeId} {size size' : Nat} {v u : Value} {xs xs' : List Value} (h : w'.ownsRow B e size v n xs) (hu : w.ownsRow B' e' size' u n' xs') (hB : w.heap.size ≤ B) : Apart v u := fun b hb hb' => by
  have h1 := (own_lt h b hb).1
  have h2 := (own_lt hu b hb').2
  omega
/-- what a row is apart from, may grow -/
theorem apart_grow {w : World} {B n : Nat} {e : TypeId} {size : Nat} {v u u' : Value} {xs : List Value} (h : w.ownsRow B e size v n xs) (hap : Apart v u) {N : Nat} (hN : w.heap.size ≤ N) (hat : u'.ownBlock = u.ownBlock ∨ u'.ownBlock = some N) : Apart v u' := fun b hb hb' => by
  rcases hat with e | e
  · rw [e] at hb'; exact hap b hb hb'
  · rw [e] at hb'
    have h1 := (own_lt h b hb).2
    simp at hb'
    omega
set_option maxHeartbeats 4000000 in
set_option maxRecDepth 100000 in
theorem specSorting_any (m : Nat) (v : Value) (l : List Int) (w : World) (h : RdL cInt 1 w v l) (hord : IsOrd m l) (hm : 1 ≤ m ∧ m ≤ 7) :
    Calls Try.prog 151 #[v] w fun e w' => ∃ v', e = .returned v' ∧ w'.ownsRow w.heap.size 3 1 v' (swapsF l).length ((swapsF l).flatMap cInt) ∧ Below w.heap.size w w' := by
  have h0 := h
  obtain ⟨A, c, rfl, h1, h2⟩ := h.form
  obtain ⟨iI, hiI, hzI0, hzI1, hzI2⟩ := info_parts infoInt
  have hl7 : l.length ≤ 7 := by rw [hord.len]; omega
  have hi49 := inv_49 hord hm.2
  have HO := Lib.hid hord
  have HS0 : Hid (SortSt m l [] l) := ⟨hord, rfl⟩
  clear hord
  have hownA := World.ownsRow_made (size := 1) (e := 3) w #[] 0 (Nat.le_refl _) (by simp [maxLen]) rfl
  have hown1 : ((w.alloc (.cells #[] 3)).alloc (.cells #[] 3)).ownsRow (w.heap.size + 1) 3 1 (.slice (some ⟨w.heap.size + 1, 0, none⟩) 0 0) 0 [] := by
    have := World.ownsRow_made (size := 1) (e := 3) (w.alloc (.cells #[] 3)) #[] 0 (Nat.le_refl _) (by simp [maxLen]) rfl
    simpa using this
  have hownB := hownA.alloc (.cells #[] 3)
  have hal : Below w.heap.size w ((w.alloc (.cells #[] 3)).alloc (.cells #[] 3)) := ((Below.refl _ _).alloc (Nat.le_refl _) _).alloc (by simp) _
  have h3 := h0.below hal
  go_enter Try.func151, Try.ntmps151
  go_wp2_with (at_builtin; refine wpList_append_empty _ rfl (.tmp 7) (.tmp 8) _ rfl (w.heap.size + 1) 3 iI _ 1 8 Try.underlying28 hiI hzI0 hzI1 hzI2 rfl (by omega) (w.heap.size + 1) rfl hown1 _ l.length (l.flatMap cInt) rfl h3 (oneCell_flat cInt_one l) (by simp [maxLen] <;> omega) (by omega) (by simp) ?_; intro v1 w1 own1 b1 at1)
  have hb1 : Below w.heap.size w w1 := Below.trans hal (b1.mono (by simp <;> omega))
  have hz1 := hb1.size
  have hp1 := own_below hownB b1
  have hap1 : Apart v1 (.slice (some ⟨w.heap.size, 0, none⟩) 0 0) := fun b hb hb' => by
    have := (own_lt own1 b hb).1
    simp [Value.ownBlock] at hb'
    omega
  have HAP := Lib.hid hap1
  have own1' := own_mono own1 (Nat.zero_le _)
  clear hownA hown1 hownB hal h3 b1 at1 own1 hap1
  obtain ⟨A1, c1, rfl, _, _⟩ := (RdS.of_own own1').form
  go_wp2_with fail
  go_loopw [3, 4, 5] (fun p q _ wr => ∃ d o : List Int, wr.ownsRow w.heap.size 3 1 p d.length (d.flatMap cInt) ∧ wr.ownsRow 0 3 1 q o.length (o.flatMap cInt) ∧ Hid (Apart q p) ∧ Hid (SortSt m l d o) ∧ Below w.heap.size w wr) (fun p _ _ _ => 49 - slLen p)
  case atStart => exact ⟨[], l, hp1, own1', HAP, HS0, hb1⟩
  case round =>
    obtain ⟨d, o, hp, hq, hap, hst, hb⟩ := hrel
    clear hp1 own1' HAP HS0 hb1 hz1
    have hrq : RdL cInt 1 wr _ o := RdS.of_own hq
    obtain ⟨Ap, cp, rfl, _, _⟩ := (RdS.of_own hp).form
    obtain ⟨Aq, cq, rfl, _, _⟩ := hrq.form
    have hsl := hst.out.len
    have hol : o.length ≤ 7 := by rw [hst.out.ord.len]; omega
    have Hok := Lib.hid (hst.out.ord.okB hm)
    have hz := hb.size
    have hC := specCountInv_any _ o wr hrq Hok.out
    obtain ⟨I, hI⟩ : ∃ I, inv o = I := ⟨_, rfl⟩
    rw [hI] at hC hsl
    have HI := Lib.hid hI
    clear hI
    have hd49 : d.length + I ≤ 49 := by omega
    clear hsl
    go_wp2_with fail
    refine hC.mono ?_
    rintro e w2 ⟨rfl, hb2⟩
    have hz2 := hb2.size
    have hp2 := own_below hp hb2
    have hq2 := own_below hq hb2
    have hrq2 : RdL cInt 1 w2 _ o := RdS.of_own hq2
    have hbb : Below w.heap.size w w2 := bl_trans hb hb2
    clear hp hq hC hb hb2
    by_cases hI0 : I = 0
    · subst hI0
      clear hd49
      go_wp2_with fail
      go_ret
      rw [hst.out.end_ HI.out]
      exact ⟨_, rfl, hp2, hbb⟩
    · have hI1 : 0 < I := by omega
      have hol2 : 2 ≤ o.length := by
        apply Classical.byContradiction
        intro hn
        have := (UpTo.zero o).all (by omega)
        rw [HI.out] at this
        omega
      clear hI0
      have hIi : (0 : Int) < (I : Int) := by omega
      go_wp2_with fail
      go_loopw [5] (fun i wi => ∃ (k d2 : Nat), i = .int .i64 k ∧ k + 1 < o.length ∧ Hid (UpTo o k) ∧ wi = w2.drewN d2) (fun i _ => 7 - (intOf i).toNat)
      case atStart => exact ⟨0, 0, rfl, by omega, UpTo.zero o, rfl⟩
      case round =>
        obtain ⟨k, d2, rfl, hk, hup, rfl⟩ := hrel
        obtain ⟨g1, off1, rfl, hg1, hc1⟩ := hrq2.cell (k := k) cInt_len (by omega) (by omega)
        obtain ⟨g2, off2, hA2, hg2, hc2⟩ := hrq2.cell (k := k + 1) cInt_len (by omega) hk
        injection hA2 with hA2
        injection hA2 with e1 e2
        subst e1 e2
        have k1 := hc1 0 _ rfl
        have k2 := hc2 0 _ rfl
        simp only [Nat.add_zero, Nat.mul_one] at k1 k2
        clear hc1 hc2
        have e1 : ((k : Int) + 1).toNat = k + 1 := by omega
        have HX : Hid (o[k] < o[k + 1] → UpTo o (k + 1)) := fun hx => hup.out.succ hk hx
        have HY : Hid (¬ o[k] < o[k + 1] → FirstDesc o k) := fun hx => hup.out.first hst.out.ord hk hx
        by_cases hx : o[k] < o[k + 1]
        · have hk2 : k + 1 + 1 < o.length := by
            apply Classical.byContradiction
            intro hn
            have := (HX.out hx).all (by omega)
            rw [HI.out] at this
            omega
          have hxu := HX.out hx
          have HXU := Lib.hid hxu
          clear hxu HX HY
          have hx' : decide (o[k] < o[k + 1]) = true := decide_eq_true hx
          generalize o[k + 1] = y at *
          generalize o[k] = x at *
          go_wp2_with fail
          go_quiet (fail)
          rename_i nq
          go_wp2_with fail
          go_roundw
          case rel => exact ⟨k + 1, _, by go_num, hk2, HXU.out, rfl⟩
          case measure => simp [intOf]; omega
        · have hfd := HY.out hx
          have HFD := Lib.hid hfd
          clear hfd HX HY
          have hx' : decide (o[k] < o[k + 1]) = false := decide_eq_false hx
          generalize o[k + 1] = y at *
          generalize o[k] = x at *
          go_wp2_with fail
          go_quiet (fail)
          rename_i nq
          have hq3 := own_below hq2 (below_drewN (Below.refl w2.heap.size w2) nq)
          go_wp2_with fail
          refine (specSwap_any _ o k _ (hrq2.below (below_drewN (Below.refl _ _) _)) Hok.out hk).mono ?_
          rintro e w3 ⟨v3, rfl, own3, hb3⟩
          obtain ⟨A3, c3, rfl, _, _⟩ := (RdS.of_own own3).form
          have hb23 : Below w2.heap.size w2 w3 := bl_trans (below_drewN (Below.refl _ _) _) hb3
          have hz3 := hb23.size
          have hp3 := own_below hp2 hb23
          have own3' : w3.ownsRow w2.heap.size 3 1 (.slice A3 o.length c3) (swapL o k).length ((swapL o k).flatMap cInt) := by rw [swapL_len]; exact own_mono own3 (by simp)
          have hap3 := Lib.hid (apart_new own3' hp2 (Nat.le_refl _))
          have hbb3 : Below w.heap.size w w3 := bl_trans hbb hb23
          have HS3 : Hid (SortSt m l (d ++ [(k : Int)]) (swapL o k)) := hst.out.step HFD.out
          have H3 := Lib.hid own3'
          clear own3 own3' hb3 hb23 hq3 hq2 hrq2 hrq
          go_wp2_with (at_builtin; refine wpList_appendB _ rfl (.tmp 31) (.tmp 33) _ rfl w.heap.size 3 iI _ 1 8 Try.underlying28 hiI hzI0 hzI1 hzI2 rfl (by omega) _ d.length (d.flatMap cInt) rfl (hp3.alloc _) _ 1 [.int .i64 k] rfl (rdS_new w3 #[.int .i64 k] _ 1 1 rfl (by simp [maxLen])) (by simp [Value.oneCell']) (by simp [maxLen]; omega) (by omega) (by simp; omega) ?_; intro v4 w4 own4 gr4 at4)
          obtain ⟨A4, c4, rfl, _, _⟩ := (RdS.of_own own4).form
          have hch := Chg.of_grown gr4
          have hb4 := below_own (hp3.alloc _) gr4 (by simp; omega)
          have q4 := Lib.hid (own_chg (H3.out.alloc _) hch hap3.out)
          have ap4 := Lib.hid (apart_grow (H3.out.alloc _) hap3.out (Nat.le_refl _) at4)
          clear gr4 at4 hch
          go_wp2_with fail
          go_roundw
          case rel => exact ⟨d ++ [(k : Int)], swapL o k, by rw [List.length_append, List.flatMap_append]; exact own4, own_mono q4.out (Nat.zero_le _), ap4.out, HS3.out, (hbb3.alloc (by omega) _).trans hb4⟩
          case measure => simp [slLen]; omega
/-- what leads home, from the first k exchanges -/
def wayL (sw : List Int) : List RCross := sw.map (fun k => (k, true))
theorem wayL_snoc (sw : List Int) {k : Nat} (h : k < sw.length) : wayL (sw.take (k + 1)) = wayL (sw.take k) ++ [(sw[k], true)] := by unfold wayL; rw [take_snoc_l sw h, List.map_append]; rfl
theorem wayL_len (sw : List Int) : (wayL sw).length = sw.length := by simp [wayL]
set_option maxHeartbeats 4000000 in
set_option maxRecDepth 100000 in
theorem specBringHome_any (n : Int) (v : Value) (cs : List RCross) (w : World) (h : RdL cCross 2 w v cs) :
    Calls Try.prog 132 #[.int .i64 n, v] w fun e w' => ∃ v', e = .returned (.tuple #[v', .bool (crossesB n cs)]) ∧ w'.ownsRow w.heap.size 115 2 v' (homeL n cs).length ((homeL n cs).flatMap cCross) ∧ Below w.heap.size w w' := by
  have h0 := h
  obtain ⟨A, c, rfl, h1, h2⟩ := h.form
  obtain ⟨iX, hiX, hzX0, hzX1, hzX2⟩ := info_parts infoCross
  have hownA := World.ownsRow_made (size := 2) (e := 115) w #[] 0 (Nat.le_refl _) (by simp [maxLen]) rfl
  have hal : Below w.heap.size w (w.alloc (.cells #[] 115)) := (Below.refl _ _).alloc (Nat.le_refl _) _
  have h3 := h0.below hal
  go_enter Try.func132, Try.ntmps132
  go_wp2_with fail
  refine twoB (specCrossesOk_any n _ cs _ h3) (fun w1 hq hb1 => ?_) (fun w1 hq hb1 => ?_)
  · obtain ⟨hn, hlen, hcs⟩ := crosses_len hq.out
    obtain ⟨m, rfl⟩ := Int.eq_ofNat_of_zero_le (show 0 ≤ n by omega)
    have hm : 1 ≤ m ∧ m ≤ 7 := by omega
    have hz1 := hb1.size
    simp at hz1
    have hb01 : Below w.heap.size w w1 := bl_trans hal hb1
    have hown1 := own_below hownA hb1
    have hO := specOrderAfter_any (m : Int) _ cs w1 (h0.below hb01)
    rw [ordR_t hq.out] at hO
    have HOrd := Lib.hid (IsOrd.order hcs)
    have HQ := Lib.hid hq.out
    have HH := Lib.hid (homeL_t hq.out)
    have Hm := Lib.hid hm
    clear hal h3 hownA hb1 hq hcs hn
    go_wp2_with fail
    refine hO.mono ?_
    rintro e w2 ⟨v2, rfl, own2, hb2⟩
    have hr2 : RdL cInt 1 w2 v2 (orderF m cs) := RdS.of_own own2
    have hb02 : Below w.heap.size w w2 := bl_trans hb01 hb2
    have hz2 := hb2.size
    have hown2 := own_below hown1 hb2
    clear own2 hb2 hO hown1 hb01
    obtain ⟨A2, c2, rfl, _, _⟩ := hr2.form
    have hi49 := inv_49 HOrd.out Hm.out.2
    rw [← swapsF_len] at hi49
    go_wp2_with fail
    refine (specSorting_any m _ (orderF m cs) _ hr2 HOrd.out Hm.out).mono ?_
    rintro e w3 ⟨v3, rfl, own3, hb3⟩
    have hb03 : Below w.heap.size w w3 := bl_trans hb02 hb3
    have hz3 := hb3.size
    have hown3 := own_below hown2 hb3
    have hap3 := Lib.hid (apart_new own3 hown2 (Nat.le_refl _))
    have own3' := own_mono own3 (Nat.zero_le _)
    obtain ⟨sw, hsw⟩ : ∃ sw, swapsF (orderF m cs) = sw := ⟨_, rfl⟩
    rw [hsw] at own3' hi49
    have HH2 : Hid (homeL (m : Int) cs = wayL sw) := by rw [← hsw]; exact HH.out
    clear own3 hb3 hr2 hown2 hb02 HH hsw
    obtain ⟨A3, c3, rfl, _, _⟩ := (RdS.of_own own3').form
    go_wp2_with fail
    go_loopw [6, 8] (fun p i wr => ∃ k : Nat, k ≤ sw.length ∧ i = .int .i64 k ∧ wr.ownsRow w.heap.size 115 2 p k ((wayL (sw.take k)).flatMap cCross) ∧ wr.ownsRow 0 3 1 (.slice A3 sw.length c3) sw.length (sw.flatMap cInt) ∧ Hid (Apart (.slice A3 sw.length c3) p) ∧ Below w.heap.size w wr) (fun _ i _ => sw.length - (intOf i).toNat)
    case atStart => exact ⟨0, Nat.zero_le _, rfl, hown3, own3', hap3, hb03⟩
    case round =>
      obtain ⟨k, hk, rfl, hp, hs, hap, hb⟩ := hrel
      clear hown3 own3' hap3 hb03
      have hz := hb.size
      obtain ⟨Ap, cp, rfl, _, _⟩ := (RdS.of_own hp).form
      by_cases hlt : k < sw.length
      · have hrs : RdL cInt 1 wr (.slice A3 sw.length c3) sw := RdS.of_own hs
        obtain ⟨g, off, rfl, hg, hc⟩ := hrs.cell cInt_len (by omega) hlt
        have k0 := hc 0 _ rfl
        simp only [Nat.add_zero, Nat.mul_one] at k0
        clear hc
        have Hw := Lib.hid (wayL_snoc sw hlt)
        generalize sw[k] = x at *
        go_wp2_with (at_builtin; refine wpList_appendB _ rfl (.tmp 25) (.tmp 31) _ rfl w.heap.size 115 iX _ 2 16 Try.underlying44 hiX hzX0 hzX1 hzX2 rfl (by omega) _ k ((wayL (sw.take k)).flatMap cCross) rfl (hp.alloc _) _ 1 [.int .i64 x, .bool true] rfl (rdS_new wr #[.int .i64 x, .bool true] _ 2 1 rfl (by simp [maxLen])) (by simp [Value.oneCell']) (by simp [maxLen]; omega) (by omega) (by simp; omega) ?_; intro v4 w4 own4 gr4 at4)
        obtain ⟨A4, c4, rfl, _, _⟩ := (RdS.of_own own4).form
        have hch := Chg.of_grown gr4
        have hb4 := below_own (hp.alloc _) gr4 (by simp; omega)
        have q4 := Lib.hid (own_chg (hs.alloc _) hch hap.out)
        have ap4 := Lib.hid (apart_grow (hs.alloc _) hap.out (Nat.le_refl _) at4)
        clear gr4 at4 hch
        go_wp2_with fail
        go_roundw
        case rel => exact ⟨k + 1, by omega, by go_num, by rw [Hw.out, List.flatMap_append]; exact own4, q4.out, ap4.out, (hb.alloc (by omega) _).trans hb4⟩
        case measure => simp [intOf]; omega
      · obtain rfl : k = sw.length := by omega
        rw [List.take_length] at hp
        go_wp2_with fail
        go_ret2
        rw [HQ.out, HH2.out, wayL_len]
        exact ⟨_, rfl, hp, hb⟩
  · have hb01 : Below w.heap.size w w1 := bl_trans hal hb1
    have hown1 := own_below hownA hb1
    clear hal h3 hownA hb1
    go_wp2_with fail
    go_ret2
    rw [hq.out, homeL_f hq.out]
    exact ⟨_, rfl, hown1, hb01⟩
end Go.Proofs.Ytjbhlbcjljdjmaa
