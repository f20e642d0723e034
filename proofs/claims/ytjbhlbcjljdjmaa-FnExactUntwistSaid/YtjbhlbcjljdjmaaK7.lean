/- Contracts: companies that grow: with, CrossOver, TakeBack. Written by a program (gen_k7.py). -/
import Derived.Test.YtjbhlbcjljdjmaaCPCompany
import Derived.Test.YtjbhlbcjljdjmaaKL
import Derived.Deep.DeepCutAuto
namespace Go.Proofs.Ytjbhlbcjljdjmaa
open Go.RowKit
def RetCompany (n : Int) (ok : Bool) (d1 : List RCross) (d2 : List RPl) (w : World) (e : Ending) (w' : World) : Prop :=
  ∃ x1 x2 S, e = .returned (.tuple #[.agg #[.int .i64 n, x1, x2], .bool ok]) ∧ OwCompany w' S x1 x2 d1 d2 ∧ Fresh w.heap.size w' S ∧ Below w.heap.size w w'
def withB (n : Int) (cs : List RCross) (pl : List RPl) (l : List RCross) : Bool := companyB n cs pl && companyB n (cs ++ l) pl
def withC (n : Int) (cs : List RCross) (pl : List RPl) (l : List RCross) : List RCross := if withB n cs pl l = true then cs ++ l else cs
theorem with_sz (n : Int) (cs : List RCross) (pl : List RPl) (l : List RCross) : szCompany (withC n cs pl l) pl ≤ szCompany cs pl ∨ szCompany (withC n cs pl l) pl ≤ 1000 := by
  unfold withC
  split
  · rename_i h
    rw [withB, Bool.and_eq_true] at h
    have := companyB_sz h.2
    omega
  · exact .inl (Nat.le_refl _)
theorem with_f {n : Int} {cs l : List RCross} {pl : List RPl} {w w' : World} {e : Ending} (h : withB n cs pl l = false) (hr : RetCompany n false cs pl w e w') : RetCompany n (withB n cs pl l) (withC n cs pl l) pl w e w' := by rw [withC, h]; exact hr
theorem with_t {n : Int} {cs l : List RCross} {pl : List RPl} {w w' : World} {e : Ending} (h : withB n cs pl l = true) (hr : RetCompany n true (cs ++ l) pl w e w') : RetCompany n (withB n cs pl l) (withC n cs pl l) pl w e w' := by rw [withC, h]; exact hr
set_option maxHeartbeats 8000000 in
set_option maxRecDepth 100000 in
theorem implWith_any (n : Int) (v1 v2 vl : Value) (cs : List RCross) (pl : List RPl) (l : List RCross) (w : World) (h : RdCompany w v1 v2 cs pl) (hv : RdL cCross 2 w vl l) (hll : l.length ≤ 100000) (hsz : szCompany cs pl ≤ 1048576) :
    Calls Try.prog 74 #[.agg #[.int .i64 n, v1, v2], vl] w (RetCompany n (withB n cs pl l) (withC n cs pl l) pl w) := by
  obtain ⟨⟨A1, n1, rfl⟩, ⟨A2, n2, rfl⟩⟩ := h.forms
  go_enter Try.func74, Try.ntmps74
  go_wp2_with fail
  refine (companyCopied_any n _ _ cs pl _ (h.below (by (repeat' (first | (with_reducible exact Below.refl _ _) | (with_reducible assumption) | (with_reducible refine Below.setCell ?_ (by first | omega | (simp; omega) | (simp; done)) _) | (with_reducible refine Below.alloc ?_ (by first | omega | (simp; omega) | (simp; done)) _) | (with_reducible refine Below.drew ?_) | (with_reducible refine below_drewN ?_ _))))) hsz).mono ?_
  rintro e w1 ⟨x1, x2, S, rfl, ow, f1, q1⟩
  obtain ⟨⟨B1, k1, rfl⟩, ⟨B2, k2, rfl⟩⟩ := ow.rd.forms
  have z1 := q1.size
  simp at z1
  have hb : Below w.heap.size w w1 := Below.trans (by (repeat' (first | (with_reducible exact Below.refl _ _) | (with_reducible assumption) | (with_reducible refine Below.setCell ?_ (by first | omega | (simp; omega) | (simp; done)) _) | (with_reducible refine Below.alloc ?_ (by first | omega | (simp; omega) | (simp; done)) _) | (with_reducible refine Below.drew ?_) | (with_reducible refine below_drewN ?_ _)))) (q1.mono (by simp <;> omega))
  replace f1 := fresh_mono (B' := w.heap.size + 1 + 1) f1 (by simp) (Nat.le_refl _)
  have Lc : Loc w1 (w.heap.size) [.int .i64 n, .slice A1 cs.length n1, .slice A2 pl.length n2] := ((Loc.new w #[.int .i64 n, .slice A1 cs.length n1, .slice A2 pl.length n2] 47).alloc _).below q1
  have Lr : Loc w1 (w.heap.size + 1) [.int .i64 0, .slice none 0 0, .slice none 0 0] := by
    have := (Loc.new (w.alloc (.cells #[.int .i64 n, .slice A1 cs.length n1, .slice A2 pl.length n2] 47)) #[.int .i64 0, .slice none 0 0, .slice none 0 0] 47).below q1
    simpa using this
  go_upto_region 2 with (fail)
  obtain ⟨g, hgz⟩ : ∃ g, w1.heap.size = g := ⟨_, rfl⟩
  replace Lc : Loc (w1.alloc (.cells #[.int .i64 n, .slice B1 cs.length k1, .slice B2 pl.length k2] 47)) (w.heap.size) [.int .i64 n, .slice A1 cs.length n1, .slice A2 pl.length n2] := Lc.alloc _
  replace Lr : Loc (w1.alloc (.cells #[.int .i64 n, .slice B1 cs.length k1, .slice B2 pl.length k2] 47)) (w.heap.size + 1) [.int .i64 0, .slice none 0 0, .slice none 0 0] := Lr.alloc _
  have Lo : Loc (w1.alloc (.cells #[.int .i64 n, .slice B1 cs.length k1, .slice B2 pl.length k2] 47)) (w1.heap.size) [.int .i64 n, .slice B1 cs.length k1, .slice B2 pl.length k2] := Loc.new w1 #[.int .i64 n, .slice B1 cs.length k1, .slice B2 pl.length k2] 47
  replace hb : Below w.heap.size w (w1.alloc (.cells #[.int .i64 n, .slice B1 cs.length k1, .slice B2 pl.length k2] 47)) := by (repeat' (first | (with_reducible exact Below.refl _ _) | (with_reducible assumption) | (with_reducible refine Below.setCell ?_ (by first | omega | (simp; omega) | (simp; done)) _) | (with_reducible refine Below.alloc ?_ (by first | omega | (simp; omega) | (simp; done)) _) | (with_reducible refine Below.drew ?_) | (with_reducible refine below_drewN ?_ _)))
  replace ow := ow.below (w' := (w1.alloc (.cells #[.int .i64 n, .slice B1 cs.length k1, .slice B2 pl.length k2] 47))) (by (repeat' (first | (with_reducible exact Below.refl _ _) | (with_reducible assumption) | (with_reducible refine Below.setCell ?_ (by first | omega | (simp; omega) | (simp; done)) _) | (with_reducible refine Below.alloc ?_ (by first | omega | (simp; omega) | (simp; done)) _) | (with_reducible refine Below.drew ?_) | (with_reducible refine below_drewN ?_ _))))
  have hS : ∀ b ∈ S, b < g := fun b hb => by have := (f1.2 b hb).2; omega
  replace f1 := fresh_mono (w' := (w1.alloc (.cells #[.int .i64 n, .slice B1 cs.length k1, .slice B2 pl.length k2] 47))) f1 (Nat.le_refl _) (by simp)
  have hgW : g < (w1.alloc (.cells #[.int .i64 n, .slice B1 cs.length k1, .slice B2 pl.length k2] 47)).heap.size := by simp; omega
  have hg2 : w.heap.size + 1 + 1 ≤ g := by omega
  clear q1
  generalize w1.alloc (.cells #[.int .i64 n, .slice B1 cs.length k1, .slice B2 pl.length k2] 47) = W at *
  rw [hgz] at Lo ⊢
  clear hgz z1 w1
  have hcl : cs.length ≤ 1048576 := by unfold szCompany at hsz; omega
  obtain ⟨S1, S2, rfl, o1, o2⟩ := ow
  have hv' := hv.below hb
  obtain ⟨Av, cv, rfl, _, _⟩ := hv.form
  obtain ⟨i0, hi0, hz0, hz1, hz2⟩ := info_parts infoCross
  have e1 := o1.2
  subst e1
  have hown : W.ownsRow (w.heap.size + 1 + 1) 115 2 (.slice B1 cs.length k1) cs.length (cs.flatMap cCross) := own_up o1.1 (fun b hb => f1.2 b (List.mem_append_left _ hb))
  have Hf := Lib.hid f1
  have HS := Lib.hid hS
  have O2 := Lib.hid o2
  have Hown := Lib.hid hown
  clear f1 hS o2 hown o1
  have o0 := (Lo 0 _ rfl).1
  have o1 := (Lo 1 _ rfl).1
  have o2 := (Lo 2 _ rfl).1
  have of1 := (Lo 1 _ rfl).2
  go_upto_region 3 with (at_builtin; refine wpList_appendB _ rfl (.tmp 10) (.tmp 11) _ rfl (w.heap.size + 1 + 1) 115 i0 _ 2 16 Try.underlying44 hi0 hz0 hz1 hz2 rfl (by omega) _ cs.length (cs.flatMap cCross) rfl Hown.out _ l.length (l.flatMap cCross) rfl hv' (oneCell_flat cCross_one l) (by simp [maxLen]; omega) (by omega) (by omega) ?_; intro v3 w3 own3 gr3 at3; obtain ⟨B3, k3, rfl, _, _⟩ := (RdS.of_own own3).form; have hch := Chg.of_grown gr3; have ho1 := carryChg hch o1 (fun hm => Nat.lt_irrefl _ (HS.out _ (List.mem_append_left _ hm))); have hof1 := carryChgF hch o1 of1 (fun hm => Nat.lt_irrefl _ (HS.out _ (List.mem_append_left _ hm))); clear o0 o1 o2 of1 hv')
  have hc0 : w.heap.size ∉ (Value.slice B1 cs.length k1).ownBlock.toList := fun hm => by have := (Hf.out.2 _ (List.mem_append_left _ hm)).1; omega
  have hc1 : w.heap.size + 1 ∉ (Value.slice B1 cs.length k1).ownBlock.toList := fun hm => by have := (Hf.out.2 _ (List.mem_append_left _ hm)).1; omega
  have hcg : g ∉ (Value.slice B1 cs.length k1).ownBlock.toList := fun hm => Nat.lt_irrefl _ (HS.out _ (List.mem_append_left _ hm))
  replace Lc := (Lc.chg hch hc0).far (g := g) (i := 1) (u := .slice B3 (cs.length + l.length) k3) (by omega)
  replace Lr := (Lr.chg hch hc1).far (g := g) (i := 1) (u := .slice B3 (cs.length + l.length) k3) (by omega)
  replace Lo : Loc (w3.setCell ⟨g, 1, none⟩ (.slice B3 (cs.length + l.length) k3)) (g) [.int .i64 n, .slice B3 (cs.length + l.length) k3, .slice B2 pl.length k2] := (Lo.chg hch hcg).set (i := 1) (v := .slice B1 cs.length k1) rfl
  obtain ⟨_, _, hdj, hdj'⟩ := nodup2 Hf.out.1
  obtain ⟨f3, hd3⟩ := fresh_app own3 at3 (T := S2) (fun b hb => ⟨(Hf.out.2 b (List.mem_append_right _ hb)).2, hdj' b hb⟩)
  have hs3 := gr3.size
  have f2 := fresh_mono (w' := w3) (fresh_right Hf.out) (Nat.le_refl _) hs3
  have fj := fresh_join f3 f2 hd3
  have hgn : ∀ b ∈ (Value.slice B3 (cs.length + l.length) k3).ownBlock.toList ++ S2, b ≠ g := by
    intro b hb e
    subst e
    rcases List.mem_append.1 hb with hb | hb
    · rcases at3 with h3 | h3
      · rw [h3] at hb; exact hcg hb
      · rw [h3] at hb; simp at hb; omega
    · exact Nat.lt_irrefl _ (HS.out _ (List.mem_append_right _ hb))
  have o3 : OwL 115 cCross 2 w3 (Value.slice B3 (cs.length + l.length) k3).ownBlock.toList (.slice B3 (cs.length + l.length) k3) (cs ++ l) := ⟨by rw [List.length_append, List.flatMap_append]; exact own_mono own3 (Nat.zero_le _), rfl⟩
  have ow3 : OwCompany w3 ((Value.slice B3 (cs.length + l.length) k3).ownBlock.toList ++ S2) (.slice B3 (cs.length + l.length) k3) (.slice B2 pl.length k2) (cs ++ l) pl := ⟨_, _, rfl, o3, O2.out.chg hch hdj'⟩
  have hset : Chg [g] w3 (w3.setCell ⟨g, 1, none⟩ (.slice B3 (cs.length + l.length) k3)) := by repeat' (first | (with_reducible exact Chg.refl _ _) | (with_reducible refine chg_set ?_ (by simp)))
  have ow4 := ow3.chg hset (fun b hb => by have := hgn b hb; simpa using this)
  have f4 := fresh_mono (w' := (w3.setCell ⟨g, 1, none⟩ (.slice B3 (cs.length + l.length) k3))) fj (Nat.le_refl _) hset.size
  have hb3 : Below w.heap.size w (w3.setCell ⟨g, 1, none⟩ (.slice B3 (cs.length + l.length) k3)) := Below.chg (Below.chg hb hch hb.size (fun b hm => by have := (Hf.out.2 b (List.mem_append_left _ hm)).1; omega)) hset (by have := hb.size; omega) (by simp; omega)
  have hgW3 : g < (w3.setCell ⟨g, 1, none⟩ (.slice B3 (cs.length + l.length) k3)).heap.size := by rw [World.size_setCell]; omega
  clear hc0 hc1 hcg hdj hdj' f3 hd3 hs3 f2 fj o3 ow3 hset Hf HS O2 Hown own3 gr3 at3 hch ho1 hof1 hb hgW
  generalize w3.setCell ⟨g, 1, none⟩ (.slice B3 (cs.length + l.length) k3) = W3 at *
  obtain ⟨S3, hS3⟩ : ∃ S3, (Value.slice B3 (cs.length + l.length) k3).ownBlock.toList ++ S2 = S3 := ⟨_, rfl⟩
  rw [hS3] at ow4 f4 hgn
  clear hS3
  have OW := Lib.hid ow4
  have FW := Lib.hid f4
  have HG := Lib.hid hgn
  clear ow4 f4 hgn
  have c0 := (Lc 0 _ rfl).1
  have c1 := (Lc 1 _ rfl).1
  have c2 := (Lc 2 _ rfl).1
  have o0 := (Lo 0 _ rfl).1
  have o1 := (Lo 1 _ rfl).1
  have o2 := (Lo 2 _ rfl).1
  go_wp2_with fail
  refine twoB (implCompanyOk_any n _ _ cs pl _ (h.below hb3)) (fun w4 hq q4 => ?_) (fun w4 hq q4 => ?_)
  · have z4 := q4.size
    replace Lc := Lc.below q4
    replace Lr := Lr.below q4
    replace Lo := Lo.below q4
    have hb4 : Below w.heap.size w w4 := hb3.trans (q4.mono (by have := hb3.size; omega))
    have OW4 := Lib.hid (OW.out.below q4)
    clear c0 c1 c2 o0 o1 o2
    have o0 := (Lo 0 _ rfl).1
    have o1 := (Lo 1 _ rfl).1
    have o2 := (Lo 2 _ rfl).1
    go_wp2_with fail
    refine twoB (implCompanyOk_any n _ _ (cs ++ l) pl _ (OW4.out.rd)) (fun w5 hq' q5 => ?_) (fun w5 hq' q5 => ?_)
    · have z5 := q5.size
      replace Lr := Lr.below q5
      replace Lo := Lo.below q5
      have hb5 : Below w.heap.size w w5 := hb4.trans (q5.mono (by have := hb4.size; omega))
      have OW5 := Lib.hid (OW4.out.below q5)
      clear o0 o1 o2
      have o0 := (Lo 0 _ rfl).1
      have o1 := (Lo 1 _ rfl).1
      have o2 := (Lo 2 _ rfl).1
      have r0 := (Lr 0 _ rfl).1
      have rf0 := (Lr 0 _ rfl).2
      have r1 := (Lr 1 _ rfl).1
      have rf1 := (Lr 1 _ rfl).2
      have r2 := (Lr 2 _ rfl).1
      have rf2 := (Lr 2 _ rfl).2
      go_wp2_with fail
      refine bodyPost_ret (v := .tuple #[.agg #[.int .i64 n, .slice B3 (cs.length + l.length) k3, .slice B2 pl.length k2], .bool true]) (by simp [results, Try.results74, go_sem, *]) rfl (with_t (by rw [withB, hq.out, hq'.out]; rfl) ⟨_, _, S3, rfl, ?_, ?_, ?_⟩)
      · exact OW5.out.chg (T := [w.heap.size + 1]) (by repeat' (first | (with_reducible exact Chg.refl _ _) | (with_reducible refine chg_set ?_ (by simp)))) (fun b hb => by have := FW.out.2 b hb; simp; omega)
      · exact fresh_mono FW.out (by omega) (by simp; omega)
      · exact Below.chg hb5 (S := [w.heap.size + 1]) (by repeat' (first | (with_reducible exact Chg.refl _ _) | (with_reducible refine chg_set ?_ (by simp)))) hb5.size (by simp)
    · have z5 := q5.size
      replace Lc := Lc.below q5
      replace Lr := Lr.below q5
      have hb5 : Below w.heap.size w w5 := hb4.trans (q5.mono (by have := hb4.size; omega))
      clear o0 o1 o2
      have c0 := (Lc 0 _ rfl).1
      have c1 := (Lc 1 _ rfl).1
      have c2 := (Lc 2 _ rfl).1
      go_wp2_with fail
      refine (companyCopied_any n _ _ cs pl _ (h.below hb5) hsz).mono ?_
      rintro e w6 ⟨y1, y2, T, rfl, ow6, f6, q6⟩
      obtain ⟨⟨D1, m1, rfl⟩, ⟨D2, m2, rfl⟩⟩ := ow6.rd.forms
      have Lr6 := Lr.below q6
      have z6 := q6.size
      have zb := hb5.size
      have hb6 : Below w.heap.size w w6 := hb5.trans (q6.mono (by omega))
      replace f6 := fresh_mono (B' := w.heap.size + 1 + 1) f6 (by omega) (Nat.le_refl _)
      clear c0 c1 c2
      have r0 := (Lr6 0 _ rfl).1
      have rf0 := (Lr6 0 _ rfl).2
      have r1 := (Lr6 1 _ rfl).1
      have rf1 := (Lr6 1 _ rfl).2
      have r2 := (Lr6 2 _ rfl).1
      have rf2 := (Lr6 2 _ rfl).2
      have OW6 := Lib.hid ow6
      have F6 := Lib.hid f6
      clear ow6 f6
      go_wp2_with fail
      refine bodyPost_ret (v := .tuple #[.agg #[.int .i64 n, .slice D1 cs.length m1, .slice D2 pl.length m2], .bool false]) (by simp [results, Try.results74, go_sem, *]) rfl (with_f (by rw [withB, hq'.out, Bool.and_false]) ⟨_, _, T, rfl, ?_, ?_, ?_⟩)
      · exact OW6.out.chg (T := [w.heap.size + 1]) (by repeat' (first | (with_reducible exact Chg.refl _ _) | (with_reducible refine chg_set ?_ (by simp)))) (fun b hb => by have := F6.out.2 b hb; simp; omega)
      · exact fresh_mono F6.out (by omega) (by simp)
      · exact Below.chg hb6 (S := [w.heap.size + 1]) (by repeat' (first | (with_reducible exact Chg.refl _ _) | (with_reducible refine chg_set ?_ (by simp)))) hb6.size (by simp)
  · have z4 := q4.size
    replace Lc := Lc.below q4
    replace Lr := Lr.below q4
    have hb4 : Below w.heap.size w w4 := hb3.trans (q4.mono (by have := hb3.size; omega))
    clear c0 c1 c2 o0 o1 o2
    have c0 := (Lc 0 _ rfl).1
    have c1 := (Lc 1 _ rfl).1
    have c2 := (Lc 2 _ rfl).1
    go_wp2_with fail
    refine (companyCopied_any n _ _ cs pl _ (h.below hb4) hsz).mono ?_
    rintro e w6 ⟨y1, y2, T, rfl, ow6, f6, q6⟩
    obtain ⟨⟨D1, m1, rfl⟩, ⟨D2, m2, rfl⟩⟩ := ow6.rd.forms
    have Lr6 := Lr.below q6
    have z6 := q6.size
    have zb := hb4.size
    have hb6 : Below w.heap.size w w6 := hb4.trans (q6.mono (by omega))
    replace f6 := fresh_mono (B' := w.heap.size + 1 + 1) f6 (by omega) (Nat.le_refl _)
    clear c0 c1 c2
    have r0 := (Lr6 0 _ rfl).1
    have rf0 := (Lr6 0 _ rfl).2
    have r1 := (Lr6 1 _ rfl).1
    have rf1 := (Lr6 1 _ rfl).2
    have r2 := (Lr6 2 _ rfl).1
    have rf2 := (Lr6 2 _ rfl).2
    have OW6 := Lib.hid ow6
    have F6 := Lib.hid f6
    clear ow6 f6
    go_wp2_with fail
    refine bodyPost_ret (v := .tuple #[.agg #[.int .i64 n, .slice D1 cs.length m1, .slice D2 pl.length m2], .bool false]) (by simp [results, Try.results74, go_sem, *]) rfl (with_f (by rw [withB, hq.out]; rfl) ⟨_, _, T, rfl, ?_, ?_, ?_⟩)
    · exact OW6.out.chg (T := [w.heap.size + 1]) (by repeat' (first | (with_reducible exact Chg.refl _ _) | (with_reducible refine chg_set ?_ (by simp)))) (fun b hb => by have := F6.out.2 b hb; simp; omega)
    · exact fresh_mono F6.out (by omega) (by simp)
    · exact Below.chg hb6 (S := [w.heap.size + 1]) (by repeat' (first | (with_reducible exact Chg.refl _ _) | (with_reducible refine chg_set ?_ (by simp)))) hb6.size (by simp)
set_option maxHeartbeats 8000000 in
set_option maxRecDepth 100000 in
theorem l37Add_any (n : Int) (v1 v2 vl : Value) (cs : List RCross) (pl : List RPl) (l : List RCross) (w : World) (h : RdCompany w v1 v2 cs pl) (hv : RdL cCross 2 w vl l) (hll : l.length ≤ 100000) (hsz : szCompany cs pl ≤ 1048576) :
    Calls Try.prog 71 #[.agg #[.int .i64 n, v1, v2], vl] w (RetCompany n (withB n cs pl l) (withC n cs pl l) pl w) := by
  obtain ⟨⟨A1, n1, rfl⟩, ⟨A2, n2, rfl⟩⟩ := h.forms
  go_enter Try.func71, Try.ntmps71
  go_wp2_with fail
  refine (l37Copy_any n _ _ cs pl _ (h.below (by (repeat' (first | (with_reducible exact Below.refl _ _) | (with_reducible assumption) | (with_reducible refine Below.setCell ?_ (by first | omega | (simp; omega) | (simp; done)) _) | (with_reducible refine Below.alloc ?_ (by first | omega | (simp; omega) | (simp; done)) _) | (with_reducible refine Below.drew ?_) | (with_reducible refine below_drewN ?_ _))))) hsz).mono ?_
  rintro e w1 ⟨x1, x2, S, rfl, ow, f1, q1⟩
  obtain ⟨⟨B1, k1, rfl⟩, ⟨B2, k2, rfl⟩⟩ := ow.rd.forms
  have z1 := q1.size
  simp at z1
  have hb : Below w.heap.size w w1 := Below.trans (by (repeat' (first | (with_reducible exact Below.refl _ _) | (with_reducible assumption) | (with_reducible refine Below.setCell ?_ (by first | omega | (simp; omega) | (simp; done)) _) | (with_reducible refine Below.alloc ?_ (by first | omega | (simp; omega) | (simp; done)) _) | (with_reducible refine Below.drew ?_) | (with_reducible refine below_drewN ?_ _)))) (q1.mono (by simp <;> omega))
  replace f1 := fresh_mono (B' := w.heap.size + 1 + 1) f1 (by simp) (Nat.le_refl _)
  have Lc : Loc w1 (w.heap.size) [.int .i64 n, .slice A1 cs.length n1, .slice A2 pl.length n2] := ((Loc.new w #[.int .i64 n, .slice A1 cs.length n1, .slice A2 pl.length n2] 47).alloc _).below q1
  have Lr : Loc w1 (w.heap.size + 1) [.int .i64 0, .slice none 0 0, .slice none 0 0] := by
    have := (Loc.new (w.alloc (.cells #[.int .i64 n, .slice A1 cs.length n1, .slice A2 pl.length n2] 47)) #[.int .i64 0, .slice none 0 0, .slice none 0 0] 47).below q1
    simpa using this
  go_upto_region 2 with (fail)
  obtain ⟨g, hgz⟩ : ∃ g, w1.heap.size = g := ⟨_, rfl⟩
  replace Lc : Loc (w1.alloc (.cells #[.int .i64 n, .slice B1 cs.length k1, .slice B2 pl.length k2] 47)) (w.heap.size) [.int .i64 n, .slice A1 cs.length n1, .slice A2 pl.length n2] := Lc.alloc _
  replace Lr : Loc (w1.alloc (.cells #[.int .i64 n, .slice B1 cs.length k1, .slice B2 pl.length k2] 47)) (w.heap.size + 1) [.int .i64 0, .slice none 0 0, .slice none 0 0] := Lr.alloc _
  have Lo : Loc (w1.alloc (.cells #[.int .i64 n, .slice B1 cs.length k1, .slice B2 pl.length k2] 47)) (w1.heap.size) [.int .i64 n, .slice B1 cs.length k1, .slice B2 pl.length k2] := Loc.new w1 #[.int .i64 n, .slice B1 cs.length k1, .slice B2 pl.length k2] 47
  replace hb : Below w.heap.size w (w1.alloc (.cells #[.int .i64 n, .slice B1 cs.length k1, .slice B2 pl.length k2] 47)) := by (repeat' (first | (with_reducible exact Below.refl _ _) | (with_reducible assumption) | (with_reducible refine Below.setCell ?_ (by first | omega | (simp; omega) | (simp; done)) _) | (with_reducible refine Below.alloc ?_ (by first | omega | (simp; omega) | (simp; done)) _) | (with_reducible refine Below.drew ?_) | (with_reducible refine below_drewN ?_ _)))
  replace ow := ow.below (w' := (w1.alloc (.cells #[.int .i64 n, .slice B1 cs.length k1, .slice B2 pl.length k2] 47))) (by (repeat' (first | (with_reducible exact Below.refl _ _) | (with_reducible assumption) | (with_reducible refine Below.setCell ?_ (by first | omega | (simp; omega) | (simp; done)) _) | (with_reducible refine Below.alloc ?_ (by first | omega | (simp; omega) | (simp; done)) _) | (with_reducible refine Below.drew ?_) | (with_reducible refine below_drewN ?_ _))))
  have hS : ∀ b ∈ S, b < g := fun b hb => by have := (f1.2 b hb).2; omega
  replace f1 := fresh_mono (w' := (w1.alloc (.cells #[.int .i64 n, .slice B1 cs.length k1, .slice B2 pl.length k2] 47))) f1 (Nat.le_refl _) (by simp)
  have hgW : g < (w1.alloc (.cells #[.int .i64 n, .slice B1 cs.length k1, .slice B2 pl.length k2] 47)).heap.size := by simp; omega
  have hg2 : w.heap.size + 1 + 1 ≤ g := by omega
  clear q1
  generalize w1.alloc (.cells #[.int .i64 n, .slice B1 cs.length k1, .slice B2 pl.length k2] 47) = W at *
  rw [hgz] at Lo ⊢
  clear hgz z1 w1
  have hcl : cs.length ≤ 1048576 := by unfold szCompany at hsz; omega
  obtain ⟨S1, S2, rfl, o1, o2⟩ := ow
  have hv' := hv.below hb
  obtain ⟨Av, cv, rfl, _, _⟩ := hv.form
  obtain ⟨i0, hi0, hz0, hz1, hz2⟩ := info_parts infoCross
  have e1 := o1.2
  subst e1
  have hown : W.ownsRow (w.heap.size + 1 + 1) 115 2 (.slice B1 cs.length k1) cs.length (cs.flatMap cCross) := own_up o1.1 (fun b hb => f1.2 b (List.mem_append_left _ hb))
  have Hf := Lib.hid f1
  have HS := Lib.hid hS
  have O2 := Lib.hid o2
  have Hown := Lib.hid hown
  clear f1 hS o2 hown o1
  have o0 := (Lo 0 _ rfl).1
  have o1 := (Lo 1 _ rfl).1
  have o2 := (Lo 2 _ rfl).1
  have of1 := (Lo 1 _ rfl).2
  go_upto_region 3 with (at_builtin; refine wpList_appendB _ rfl (.tmp 10) (.tmp 11) _ rfl (w.heap.size + 1 + 1) 115 i0 _ 2 16 Try.underlying44 hi0 hz0 hz1 hz2 rfl (by omega) _ cs.length (cs.flatMap cCross) rfl Hown.out _ l.length (l.flatMap cCross) rfl hv' (oneCell_flat cCross_one l) (by simp [maxLen]; omega) (by omega) (by omega) ?_; intro v3 w3 own3 gr3 at3; obtain ⟨B3, k3, rfl, _, _⟩ := (RdS.of_own own3).form; have hch := Chg.of_grown gr3; have ho1 := carryChg hch o1 (fun hm => Nat.lt_irrefl _ (HS.out _ (List.mem_append_left _ hm))); have hof1 := carryChgF hch o1 of1 (fun hm => Nat.lt_irrefl _ (HS.out _ (List.mem_append_left _ hm))); clear o0 o1 o2 of1 hv')
  have hc0 : w.heap.size ∉ (Value.slice B1 cs.length k1).ownBlock.toList := fun hm => by have := (Hf.out.2 _ (List.mem_append_left _ hm)).1; omega
  have hc1 : w.heap.size + 1 ∉ (Value.slice B1 cs.length k1).ownBlock.toList := fun hm => by have := (Hf.out.2 _ (List.mem_append_left _ hm)).1; omega
  have hcg : g ∉ (Value.slice B1 cs.length k1).ownBlock.toList := fun hm => Nat.lt_irrefl _ (HS.out _ (List.mem_append_left _ hm))
  replace Lc := (Lc.chg hch hc0).far (g := g) (i := 1) (u := .slice B3 (cs.length + l.length) k3) (by omega)
  replace Lr := (Lr.chg hch hc1).far (g := g) (i := 1) (u := .slice B3 (cs.length + l.length) k3) (by omega)
  replace Lo : Loc (w3.setCell ⟨g, 1, none⟩ (.slice B3 (cs.length + l.length) k3)) (g) [.int .i64 n, .slice B3 (cs.length + l.length) k3, .slice B2 pl.length k2] := (Lo.chg hch hcg).set (i := 1) (v := .slice B1 cs.length k1) rfl
  obtain ⟨_, _, hdj, hdj'⟩ := nodup2 Hf.out.1
  obtain ⟨f3, hd3⟩ := fresh_app own3 at3 (T := S2) (fun b hb => ⟨(Hf.out.2 b (List.mem_append_right _ hb)).2, hdj' b hb⟩)
  have hs3 := gr3.size
  have f2 := fresh_mono (w' := w3) (fresh_right Hf.out) (Nat.le_refl _) hs3
  have fj := fresh_join f3 f2 hd3
  have hgn : ∀ b ∈ (Value.slice B3 (cs.length + l.length) k3).ownBlock.toList ++ S2, b ≠ g := by
    intro b hb e
    subst e
    rcases List.mem_append.1 hb with hb | hb
    · rcases at3 with h3 | h3
      · rw [h3] at hb; exact hcg hb
      · rw [h3] at hb; simp at hb; omega
    · exact Nat.lt_irrefl _ (HS.out _ (List.mem_append_right _ hb))
  have o3 : OwL 115 cCross 2 w3 (Value.slice B3 (cs.length + l.length) k3).ownBlock.toList (.slice B3 (cs.length + l.length) k3) (cs ++ l) := ⟨by rw [List.length_append, List.flatMap_append]; exact own_mono own3 (Nat.zero_le _), rfl⟩
  have ow3 : OwCompany w3 ((Value.slice B3 (cs.length + l.length) k3).ownBlock.toList ++ S2) (.slice B3 (cs.length + l.length) k3) (.slice B2 pl.length k2) (cs ++ l) pl := ⟨_, _, rfl, o3, O2.out.chg hch hdj'⟩
  have hset : Chg [g] w3 (w3.setCell ⟨g, 1, none⟩ (.slice B3 (cs.length + l.length) k3)) := by repeat' (first | (with_reducible exact Chg.refl _ _) | (with_reducible refine chg_set ?_ (by simp)))
  have ow4 := ow3.chg hset (fun b hb => by have := hgn b hb; simpa using this)
  have f4 := fresh_mono (w' := (w3.setCell ⟨g, 1, none⟩ (.slice B3 (cs.length + l.length) k3))) fj (Nat.le_refl _) hset.size
  have hb3 : Below w.heap.size w (w3.setCell ⟨g, 1, none⟩ (.slice B3 (cs.length + l.length) k3)) := Below.chg (Below.chg hb hch hb.size (fun b hm => by have := (Hf.out.2 b (List.mem_append_left _ hm)).1; omega)) hset (by have := hb.size; omega) (by simp; omega)
  have hgW3 : g < (w3.setCell ⟨g, 1, none⟩ (.slice B3 (cs.length + l.length) k3)).heap.size := by rw [World.size_setCell]; omega
  clear hc0 hc1 hcg hdj hdj' f3 hd3 hs3 f2 fj o3 ow3 hset Hf HS O2 Hown own3 gr3 at3 hch ho1 hof1 hb hgW
  generalize w3.setCell ⟨g, 1, none⟩ (.slice B3 (cs.length + l.length) k3) = W3 at *
  obtain ⟨S3, hS3⟩ : ∃ S3, (Value.slice B3 (cs.length + l.length) k3).ownBlock.toList ++ S2 = S3 := ⟨_, rfl⟩
  rw [hS3] at ow4 f4 hgn
  clear hS3
  have OW := Lib.hid ow4
  have FW := Lib.hid f4
  have HG := Lib.hid hgn
  clear ow4 f4 hgn
  have c0 := (Lc 0 _ rfl).1
  have c1 := (Lc 1 _ rfl).1
  have c2 := (Lc 2 _ rfl).1
  have o0 := (Lo 0 _ rfl).1
  have o1 := (Lo 1 _ rfl).1
  have o2 := (Lo 2 _ rfl).1
  go_wp2_with fail
  refine twoB (specCompanyOk_any n _ _ cs pl _ (h.below hb3)) (fun w4 hq q4 => ?_) (fun w4 hq q4 => ?_)
  · have z4 := q4.size
    replace Lc := Lc.below q4
    replace Lr := Lr.below q4
    replace Lo := Lo.below q4
    have hb4 : Below w.heap.size w w4 := hb3.trans (q4.mono (by have := hb3.size; omega))
    have OW4 := Lib.hid (OW.out.below q4)
    clear c0 c1 c2 o0 o1 o2
    have o0 := (Lo 0 _ rfl).1
    have o1 := (Lo 1 _ rfl).1
    have o2 := (Lo 2 _ rfl).1
    go_wp2_with fail
    refine twoB (specCompanyOk_any n _ _ (cs ++ l) pl _ (OW4.out.rd)) (fun w5 hq' q5 => ?_) (fun w5 hq' q5 => ?_)
    · have z5 := q5.size
      replace Lr := Lr.below q5
      replace Lo := Lo.below q5
      have hb5 : Below w.heap.size w w5 := hb4.trans (q5.mono (by have := hb4.size; omega))
      have OW5 := Lib.hid (OW4.out.below q5)
      clear o0 o1 o2
      have o0 := (Lo 0 _ rfl).1
      have o1 := (Lo 1 _ rfl).1
      have o2 := (Lo 2 _ rfl).1
      have r0 := (Lr 0 _ rfl).1
      have rf0 := (Lr 0 _ rfl).2
      have r1 := (Lr 1 _ rfl).1
      have rf1 := (Lr 1 _ rfl).2
      have r2 := (Lr 2 _ rfl).1
      have rf2 := (Lr 2 _ rfl).2
      go_wp2_with fail
      refine bodyPost_ret (v := .tuple #[.agg #[.int .i64 n, .slice B3 (cs.length + l.length) k3, .slice B2 pl.length k2], .bool true]) (by simp [results, Try.results71, go_sem, *]) rfl (with_t (by rw [withB, hq.out, hq'.out]; rfl) ⟨_, _, S3, rfl, ?_, ?_, ?_⟩)
      · exact OW5.out.chg (T := [w.heap.size + 1]) (by repeat' (first | (with_reducible exact Chg.refl _ _) | (with_reducible refine chg_set ?_ (by simp)))) (fun b hb => by have := FW.out.2 b hb; simp; omega)
      · exact fresh_mono FW.out (by omega) (by simp; omega)
      · exact Below.chg hb5 (S := [w.heap.size + 1]) (by repeat' (first | (with_reducible exact Chg.refl _ _) | (with_reducible refine chg_set ?_ (by simp)))) hb5.size (by simp)
    · have z5 := q5.size
      replace Lc := Lc.below q5
      replace Lr := Lr.below q5
      have hb5 : Below w.heap.size w w5 := hb4.trans (q5.mono (by have := hb4.size; omega))
      clear o0 o1 o2
      have c0 := (Lc 0 _ rfl).1
      have c1 := (Lc 1 _ rfl).1
      have c2 := (Lc 2 _ rfl).1
      go_wp2_with fail
      refine (l37Copy_any n _ _ cs pl _ (h.below hb5) hsz).mono ?_
      rintro e w6 ⟨y1, y2, T, rfl, ow6, f6, q6⟩
      obtain ⟨⟨D1, m1, rfl⟩, ⟨D2, m2, rfl⟩⟩ := ow6.rd.forms
      have Lr6 := Lr.below q6
      have z6 := q6.size
      have zb := hb5.size
      have hb6 : Below w.heap.size w w6 := hb5.trans (q6.mono (by omega))
      replace f6 := fresh_mono (B' := w.heap.size + 1 + 1) f6 (by omega) (Nat.le_refl _)
      clear c0 c1 c2
      have r0 := (Lr6 0 _ rfl).1
      have rf0 := (Lr6 0 _ rfl).2
      have r1 := (Lr6 1 _ rfl).1
      have rf1 := (Lr6 1 _ rfl).2
      have r2 := (Lr6 2 _ rfl).1
      have rf2 := (Lr6 2 _ rfl).2
      have OW6 := Lib.hid ow6
      have F6 := Lib.hid f6
      clear ow6 f6
      go_wp2_with fail
      refine bodyPost_ret (v := .tuple #[.agg #[.int .i64 n, .slice D1 cs.length m1, .slice D2 pl.length m2], .bool false]) (by simp [results, Try.results71, go_sem, *]) rfl (with_f (by rw [withB, hq'.out, Bool.and_false]) ⟨_, _, T, rfl, ?_, ?_, ?_⟩)
      · exact OW6.out.chg (T := [w.heap.size + 1]) (by repeat' (first | (with_reducible exact Chg.refl _ _) | (with_reducible refine chg_set ?_ (by simp)))) (fun b hb => by have := F6.out.2 b hb; simp; omega)
      · exact fresh_mono F6.out (by omega) (by simp)
      · exact Below.chg hb6 (S := [w.heap.size + 1]) (by repeat' (first | (with_reducible exact Chg.refl _ _) | (with_reducible refine chg_set ?_ (by simp)))) hb6.size (by simp)
  · have z4 := q4.size
    replace Lc := Lc.below q4
    replace Lr := Lr.below q4
    have hb4 : Below w.heap.size w w4 := hb3.trans (q4.mono (by have := hb3.size; omega))
    clear c0 c1 c2 o0 o1 o2
    have c0 := (Lc 0 _ rfl).1
    have c1 := (Lc 1 _ rfl).1
    have c2 := (Lc 2 _ rfl).1
    go_wp2_with fail
    refine (l37Copy_any n _ _ cs pl _ (h.below hb4) hsz).mono ?_
    rintro e w6 ⟨y1, y2, T, rfl, ow6, f6, q6⟩
    obtain ⟨⟨D1, m1, rfl⟩, ⟨D2, m2, rfl⟩⟩ := ow6.rd.forms
    have Lr6 := Lr.below q6
    have z6 := q6.size
    have zb := hb4.size
    have hb6 : Below w.heap.size w w6 := hb4.trans (q6.mono (by omega))
    replace f6 := fresh_mono (B' := w.heap.size + 1 + 1) f6 (by omega) (Nat.le_refl _)
    clear c0 c1 c2
    have r0 := (Lr6 0 _ rfl).1
    have rf0 := (Lr6 0 _ rfl).2
    have r1 := (Lr6 1 _ rfl).1
    have rf1 := (Lr6 1 _ rfl).2
    have r2 := (Lr6 2 _ rfl).1
    have rf2 := (Lr6 2 _ rfl).2
    have OW6 := Lib.hid ow6
    have F6 := Lib.hid f6
    clear ow6 f6
    go_wp2_with fail
    refine bodyPost_ret (v := .tuple #[.agg #[.int .i64 n, .slice D1 cs.length m1, .slice D2 pl.length m2], .bool false]) (by simp [results, Try.results71, go_sem, *]) rfl (with_f (by rw [withB, hq.out]; rfl) ⟨_, _, T, rfl, ?_, ?_, ?_⟩)
    · exact OW6.out.chg (T := [w.heap.size + 1]) (by repeat' (first | (with_reducible exact Chg.refl _ _) | (with_reducible refine chg_set ?_ (by simp)))) (fun b hb => by have := F6.out.2 b hb; simp; omega)
    · exact fresh_mono F6.out (by omega) (by simp)
    · exact Below.chg hb6 (S := [w.heap.size + 1]) (by repeat' (first | (with_reducible exact Chg.refl _ _) | (with_reducible refine chg_set ?_ (by simp)))) hb6.size (by simp)
set_option maxHeartbeats 8000000 in
set_option maxRecDepth 100000 in
theorem implCrossOver_any (n a : Int) (f : Bool) (v1 v2 : Value) (cs : List RCross) (pl : List RPl) (w : World) (h : RdCompany w v1 v2 cs pl) (hsz : szCompany cs pl ≤ 1048576) :
    Calls Try.prog 46 #[.agg #[.int .i64 n, v1, v2], .int .i64 a, .bool f] w (RetCompany n (withB n cs pl [(a, f)]) (withC n cs pl [(a, f)]) pl w) := by
  obtain ⟨⟨A1, n1, rfl⟩, ⟨A2, n2, rfl⟩⟩ := h.forms
  go_enter Try.func46, Try.ntmps46
  go_wp2_with fail
  refine (implWith_any n _ _ (.slice (some ⟨w.heap.size + 1 + 1, 0, none⟩) 1 1) cs pl [(a, f)] _ (h.below (by (repeat' (first | (with_reducible exact Below.refl _ _) | (with_reducible assumption) | (with_reducible refine Below.setCell ?_ (by first | omega | (simp; omega) | (simp; done)) _) | (with_reducible refine Below.alloc ?_ (by first | omega | (simp; omega) | (simp; done)) _) | (with_reducible refine Below.drew ?_) | (with_reducible refine below_drewN ?_ _))))) (rdS_newAt _ (w.heap.size + 1 + 1) (by simp) #[.int .i64 a, .bool f] _ 2 1 rfl (by simp [maxLen])) (by simp) hsz).mono ?_
  rintro e W1 ⟨x1, x2, S, rfl, ow, f1, q⟩
  obtain ⟨⟨B1, k1, rfl⟩, ⟨B2, k2, rfl⟩⟩ := ow.rd.forms
  generalize withB n cs pl [(a, f)] = ok at *
  generalize withC n cs pl [(a, f)] = cs' at *
  have Lc : Loc W1 (w.heap.size) [.int .i64 n, .slice A1 cs.length n1, .slice A2 pl.length n2] := by have := (((Loc.new w #[.int .i64 n, .slice A1 cs.length n1, .slice A2 pl.length n2] 47).alloc _).alloc _).below q; simpa using this
  have Lr : Loc W1 (w.heap.size + 1) [.int .i64 0, .slice none 0 0, .slice none 0 0] := by have := ((Loc.new (w.alloc (.cells #[.int .i64 n, .slice A1 cs.length n1, .slice A2 pl.length n2] 47)) #[.int .i64 0, .slice none 0 0, .slice none 0 0] 47).alloc _).below q; simpa using this
  have Lm : Loc W1 (w.heap.size + 1 + 1) [.int .i64 a, .bool f] := by have := (Loc.new ((w.alloc (.cells #[.int .i64 n, .slice A1 cs.length n1, .slice A2 pl.length n2] 47)).alloc (.cells #[.int .i64 0, .slice none 0 0, .slice none 0 0] 47)) #[.int .i64 a, .bool f] 115).below q; simpa using this
  have hb : Below w.heap.size w W1 := Below.trans (by (repeat' (first | (with_reducible exact Below.refl _ _) | (with_reducible assumption) | (with_reducible refine Below.setCell ?_ (by first | omega | (simp; omega) | (simp; done)) _) | (with_reducible refine Below.alloc ?_ (by first | omega | (simp; omega) | (simp; done)) _) | (with_reducible refine Below.drew ?_) | (with_reducible refine below_drewN ?_ _)))) (q.mono (by simp <;> omega))
  have hz0 : w.heap.size + 1 + 1 + 1 ≤ W1.heap.size := by have := q.size; simp at this; omega
  have hlow : w.heap.size + 1 + 1 + 1 ≤ ((((w.alloc (.cells #[.int .i64 n, .slice A1 cs.length n1, .slice A2 pl.length n2] 47)).alloc (.cells #[.int .i64 0, .slice none 0 0, .slice none 0 0] 47)).alloc (.cells #[.int .i64 a, .bool f] 115))).heap.size := by first | exact Nat.le_refl _ | (simp; done) | (simp; omega) | omega
  have FK := Lib.hid (fresh_mono f1 hlow (Nat.le_refl _))
  have DK : Hid (∀ x ∈ S, x ∉ [w.heap.size, w.heap.size + 1, w.heap.size + 1 + 1]) := (fun x hx => by have := (FK.out.2 x hx).1; simp; omega)
  have OK := Lib.hid ow
  clear ow f1 hlow
  clear q
  have r0 := (Lr 0 _ rfl).1
  have rf0 := (Lr 0 _ rfl).2
  have r1 := (Lr 1 _ rfl).1
  have rf1 := (Lr 1 _ rfl).2
  have r2 := (Lr 2 _ rfl).1
  have rf2 := (Lr 2 _ rfl).2
  go_wp2_with fail
  refine bodyPost_ret (v := .tuple #[.agg #[.int .i64 n, .slice B1 cs'.length k1, .slice B2 pl.length k2], .bool ok]) (by simp [results, Try.results46, go_sem, *]) rfl (⟨_, _, S, rfl, ?_, ?_, ?_⟩)
  · exact OK.out.chg (T := [w.heap.size + 1]) (by repeat' (first | (with_reducible exact Chg.refl _ _) | (with_reducible refine chg_set ?_ (by simp)))) (fun x hx hx' => DK.out x hx (by simp at hx'; subst hx'; simp))
  · exact fresh_mono FK.out (by omega) (by simp)
  · exact Below.chg hb (S := [w.heap.size + 1]) (by repeat' (first | (with_reducible exact Chg.refl _ _) | (with_reducible refine chg_set ?_ (by simp)))) hb.size (by simp)
def takeB (n : Int) (cs : List RCross) (pl : List RPl) : Bool := companyB n cs pl && decide (0 < cs.length)
def takeC (n : Int) (cs : List RCross) (pl : List RPl) : List RCross := if takeB n cs pl = true then cs.take (cs.length - 1) else cs
theorem take_sz (n : Int) (cs : List RCross) (pl : List RPl) : szCompany (takeC n cs pl) pl ≤ szCompany cs pl := by
  unfold takeC szCompany
  split
  · rw [List.length_take]; omega
  · exact Nat.le_refl _
theorem take_f {n : Int} {cs : List RCross} {pl : List RPl} {w w' : World} {e : Ending} (h : takeB n cs pl = false) (hr : RetCompany n false cs pl w e w') : RetCompany n (takeB n cs pl) (takeC n cs pl) pl w e w' := by rw [takeC, h]; exact hr
theorem take_t {n : Int} {cs : List RCross} {pl : List RPl} {w w' : World} {e : Ending} (h : takeB n cs pl = true) (hr : RetCompany n true (cs.take (cs.length - 1)) pl w e w') : RetCompany n (takeB n cs pl) (takeC n cs pl) pl w e w' := by rw [takeC, h]; exact hr
theorem own_prefix {w : World} {B : Nat} {e : TypeId} {size n c m : Nat} {A : Option Addr} {xs : List Value} (h : w.ownsRow B e size (.slice A n c) n xs) (hm : m ≤ n) (hn : 0 < n) : w.ownsRow B e size (.slice A m c) m (xs.take (m * size)) := by
  refine ⟨by rw [List.length_take, h.1]; exact Nat.min_eq_left (Nat.mul_le_mul_right _ hm), ?_⟩
  rcases h.2 with ⟨_, h0⟩ | ⟨g, cap, cur, hv, h1, h2, h3, h4, h5, h6⟩
  · omega
  · injection hv with e1 e2 e3
    subst e1 e3
    exact .inr ⟨g, c, cur, rfl, h1, h2, by omega, h4, h5, by rw [← h6, List.take_take, Nat.min_eq_left (Nat.mul_le_mul_right _ hm)]⟩
theorem flat_take {α : Type} {f : α → List Value} {size : Nat} (hf : ∀ a, (f a).length = size) (l : List α) (m : Nat) : (l.take m).flatMap f = (l.flatMap f).take (m * size) := by
  induction l generalizing m with
  | nil => simp
  | cons a l ih =>
    cases m with
    | zero => simp
    | succ m =>
      rw [List.take_succ_cons, List.flatMap_cons, List.flatMap_cons, ih, List.take_append, hf, List.take_of_length_le (l := f a) (by rw [hf, Nat.add_mul]; omega), show (m + 1) * size - size = m * size by rw [Nat.add_mul]; omega]
theorem take_own {w : World} {S : List Nat} {A : Option Addr} {c : Nat} {v2 : Value} {cs : List RCross} {pl : List RPl} (h : OwCompany w S (.slice A cs.length c) v2 cs pl) (h0 : 0 < cs.length) : OwCompany w S (.slice A (cs.length - 1) c) v2 (cs.take (cs.length - 1)) pl := by
  obtain ⟨S1, S2, e, o1, o2⟩ := h
  refine ⟨S1, S2, e, ⟨?_, o1.2.trans (by cases A <;> rfl)⟩, o2⟩
  have hl : (cs.take (cs.length - 1)).length = cs.length - 1 := by rw [List.length_take]; omega
  rw [hl, flat_take cCross_len]
  exact own_prefix o1.1 (by omega) h0
set_option maxHeartbeats 8000000 in
set_option maxRecDepth 100000 in
theorem implTakeBack_any (n : Int) (v1 v2 : Value) (cs : List RCross) (pl : List RPl) (w : World) (h : RdCompany w v1 v2 cs pl) (hsz : szCompany cs pl ≤ 1048576) :
    Calls Try.prog 47 #[.agg #[.int .i64 n, v1, v2]] w (RetCompany n (takeB n cs pl) (takeC n cs pl) pl w) := by
  obtain ⟨⟨A1, n1, rfl⟩, ⟨A2, n2, rfl⟩⟩ := h.forms
  go_enter Try.func47, Try.ntmps47
  go_wp2_with fail
  refine (companyCopied_any n _ _ cs pl _ (h.below (by (repeat' (first | (with_reducible exact Below.refl _ _) | (with_reducible assumption) | (with_reducible refine Below.setCell ?_ (by first | omega | (simp; omega) | (simp; done)) _) | (with_reducible refine Below.alloc ?_ (by first | omega | (simp; omega) | (simp; done)) _) | (with_reducible refine Below.drew ?_) | (with_reducible refine below_drewN ?_ _))))) hsz).mono ?_
  rintro e W1 ⟨x1, x2, S, rfl, ow, f1, q⟩
  obtain ⟨⟨B1, k1, rfl⟩, ⟨B2, k2, rfl⟩⟩ := ow.rd.forms
  have Lc : Loc W1 (w.heap.size) [.int .i64 n, .slice A1 cs.length n1, .slice A2 pl.length n2] := by have := ((Loc.new w #[.int .i64 n, .slice A1 cs.length n1, .slice A2 pl.length n2] 47).alloc _).below q; simpa using this
  have Lr : Loc W1 (w.heap.size + 1) [.int .i64 0, .slice none 0 0, .slice none 0 0] := by have := (Loc.new (w.alloc (.cells #[.int .i64 n, .slice A1 cs.length n1, .slice A2 pl.length n2] 47)) #[.int .i64 0, .slice none 0 0, .slice none 0 0] 47).below q; simpa using this
  have hb : Below w.heap.size w W1 := Below.trans (by (repeat' (first | (with_reducible exact Below.refl _ _) | (with_reducible assumption) | (with_reducible refine Below.setCell ?_ (by first | omega | (simp; omega) | (simp; done)) _) | (with_reducible refine Below.alloc ?_ (by first | omega | (simp; omega) | (simp; done)) _) | (with_reducible refine Below.drew ?_) | (with_reducible refine below_drewN ?_ _)))) (q.mono (by simp <;> omega))
  have hz0 : w.heap.size + 1 + 1 ≤ W1.heap.size := by have := q.size; simp at this; omega
  have hlow : w.heap.size + 1 + 1 ≤ (((w.alloc (.cells #[.int .i64 n, .slice A1 cs.length n1, .slice A2 pl.length n2] 47)).alloc (.cells #[.int .i64 0, .slice none 0 0, .slice none 0 0] 47))).heap.size := by first | exact Nat.le_refl _ | (simp; done) | (simp; omega) | omega
  have FK := Lib.hid (fresh_mono f1 hlow (Nat.le_refl _))
  have DK : Hid (∀ x ∈ S, x ∉ [w.heap.size, w.heap.size + 1]) := (fun x hx => by have := (FK.out.2 x hx).1; simp; omega)
  have OK := Lib.hid ow
  clear ow f1 hlow
  clear q
  go_upto_region 2 with (fail)
  replace Lc : Loc (W1.alloc (.cells #[.int .i64 n, .slice B1 cs.length k1, .slice B2 pl.length k2] 47)) (w.heap.size) [.int .i64 n, .slice A1 cs.length n1, .slice A2 pl.length n2] := Lc.alloc _
  replace Lr : Loc (W1.alloc (.cells #[.int .i64 n, .slice B1 cs.length k1, .slice B2 pl.length k2] 47)) (w.heap.size + 1) [.int .i64 0, .slice none 0 0, .slice none 0 0] := Lr.alloc _
  obtain ⟨go, hgo⟩ : ∃ g, W1.heap.size = g := ⟨_, rfl⟩
  have Lo : Loc (W1.alloc (.cells #[.int .i64 n, .slice B1 cs.length k1, .slice B2 pl.length k2] 47)) W1.heap.size [.int .i64 n, .slice B1 cs.length k1, .slice B2 pl.length k2] := Loc.new W1 #[.int .i64 n, .slice B1 cs.length k1, .slice B2 pl.length k2] 47
  rw [hgo] at Lo
  have OK' := Lib.hid (OK.out.below (w' := (W1.alloc (.cells #[.int .i64 n, .slice B1 cs.length k1, .slice B2 pl.length k2] 47))) ((Below.refl _ _).alloc (Nat.le_refl _) _))
  clear OK; have OK := OK'; clear OK'
  have DK' : Hid (∀ x ∈ S, x ∉ [w.heap.size, w.heap.size + 1, go]) := (fun x hx => by have := DK.out x hx; have := (FK.out.2 x hx).2; simp at *; omega)
  clear DK; have DK := DK'; clear DK'
  have FK' := Lib.hid (fresh_mono (w' := (W1.alloc (.cells #[.int .i64 n, .slice B1 cs.length k1, .slice B2 pl.length k2] 47))) FK.out (Nat.le_refl _) (by simp))
  clear FK; have FK := FK'; clear FK'
  replace hb : Below w.heap.size w (W1.alloc (.cells #[.int .i64 n, .slice B1 cs.length k1, .slice B2 pl.length k2] 47)) := hb.alloc hb.size _
  have hlto : go < (W1.alloc (.cells #[.int .i64 n, .slice B1 cs.length k1, .slice B2 pl.length k2] 47)).heap.size := by simp; omega
  have hne_c_o : w.heap.size < go := by omega
  have hne_r_o : w.heap.size + 1 < go := by omega
  generalize W1.alloc (.cells #[.int .i64 n, .slice B1 cs.length k1, .slice B2 pl.length k2] 47) = W2 at *
  rw [hgo]
  clear hgo
  have c0 := (Lc 0 _ rfl).1
  have c1 := (Lc 1 _ rfl).1
  have c2 := (Lc 2 _ rfl).1
  go_wp2_with fail
  refine twoB (implCompanyOk_any n _ _ cs pl _ (h.below hb)) (fun W3 hq q => ?_) (fun W3 hq q => ?_)
  · skip
    clear c0 c1 c2
    have hzq : W2.heap.size ≤ W3.heap.size := by have := q.size; (try simp at this); omega
    replace Lc := Lc.below q
    replace Lr := Lr.below q
    replace Lo := Lo.below q
    have OK' := Lib.hid (OK.out.below q)
    clear OK; have OK := OK'; clear OK'
    have FK' := Lib.hid (fresh_mono (w' := W3) FK.out (Nat.le_refl _) hzq)
    clear FK; have FK := FK'; clear FK'
    replace hb : Below w.heap.size w W3 := hb.trans (q.mono hb.size)
    clear q
    rcases Nat.eq_zero_or_pos cs.length with h0 | h0
    · have hd : ((cs.length : Int) == 0) = true := by rw [beq_iff_eq]; omega
      have H0 := Lib.hid h0
      clear h0
      have c1 := (Lc 1 _ rfl).1
      have o0 := (Lo 0 _ rfl).1
      have o1 := (Lo 1 _ rfl).1
      have o2 := (Lo 2 _ rfl).1
      have r0 := (Lr 0 _ rfl).1
      have rf0 := (Lr 0 _ rfl).2
      have r1 := (Lr 1 _ rfl).1
      have rf1 := (Lr 1 _ rfl).2
      have r2 := (Lr 2 _ rfl).1
      have rf2 := (Lr 2 _ rfl).2
      go_wp2_with fail
      refine bodyPost_ret (v := .tuple #[.agg #[.int .i64 n, .slice B1 cs.length k1, .slice B2 pl.length k2], .bool false]) (by simp [results, Try.results47, go_sem, *]) rfl (take_f (by rw [takeB, H0.out]; simp) ⟨_, _, S, rfl, ?_, ?_, ?_⟩)
      · exact OK.out.chg (T := [w.heap.size + 1]) (by repeat' (first | (with_reducible exact Chg.refl _ _) | (with_reducible refine chg_set ?_ (by simp)))) (fun x hx hx' => DK.out x hx (by simp at hx'; subst hx'; simp))
      · exact fresh_mono FK.out (by omega) (by simp)
      · exact Below.chg hb (S := [w.heap.size + 1]) (by repeat' (first | (with_reducible exact Chg.refl _ _) | (with_reducible refine chg_set ?_ (by simp)))) hb.size (by simp)
    · have hd : ((cs.length : Int) == 0) = false := by rw [beq_eq_false_iff_ne]; omega
      have hk1 : cs.length ≤ k1 := by obtain ⟨S1, S2, _, o1, _⟩ := OK.out; obtain ⟨_, c', e, h1, _⟩ := o1.rd.form; injection e with _ _ e3; omega
      have hcl : cs.length ≤ 1048576 := by unfold szCompany at hsz; omega
      have c1 := (Lc 1 _ rfl).1
      have o0 := (Lo 0 _ rfl).1
      have o1 := (Lo 1 _ rfl).1
      have o2 := (Lo 2 _ rfl).1
      have of1 := (Lo 1 _ rfl).2
      go_upto_region 5 with (fail)
      clear c1 o0 o1 o2 of1
      replace Lc : Loc (W3.setCell ⟨go, 1, none⟩ (.slice B1 (cs.length - 1) k1)) (w.heap.size) [.int .i64 n, .slice A1 cs.length n1, .slice A2 pl.length n2] := Lc.far (g := go) (i := 1) (u := .slice B1 (cs.length - 1) k1) (by omega)
      replace Lr : Loc (W3.setCell ⟨go, 1, none⟩ (.slice B1 (cs.length - 1) k1)) (w.heap.size + 1) [.int .i64 0, .slice none 0 0, .slice none 0 0] := Lr.far (g := go) (i := 1) (u := .slice B1 (cs.length - 1) k1) (by omega)
      replace Lo : Loc (W3.setCell ⟨go, 1, none⟩ (.slice B1 (cs.length - 1) k1)) (go) [.int .i64 n, .slice B1 (cs.length - 1) k1, .slice B2 pl.length k2] := Lo.set (i := 1) (v := .slice B1 cs.length k1) rfl
      have hch : Chg [go] W3 (W3.setCell ⟨go, 1, none⟩ (.slice B1 (cs.length - 1) k1)) := chg_set (Chg.refl _ _) (by simp)
      have OK' := Lib.hid (OK.out.chg hch (fun x hx hx' => DK.out x hx (by simp at hx'; subst hx'; simp)))
      clear OK; have OK := OK'; clear OK'
      have FK' := Lib.hid (fresh_mono (w' := (W3.setCell ⟨go, 1, none⟩ (.slice B1 (cs.length - 1) k1))) FK.out (Nat.le_refl _) hch.size)
      clear FK; have FK := FK'; clear FK'
      replace hb : Below w.heap.size w (W3.setCell ⟨go, 1, none⟩ (.slice B1 (cs.length - 1) k1)) := Below.chg hb hch hb.size (by simp; omega)
      have hzc := hch.size
      clear hch
      generalize W3.setCell ⟨go, 1, none⟩ (.slice B1 (cs.length - 1) k1) = W4 at *
      have OK' := Lib.hid (take_own OK.out h0)
      clear OK; have OK := OK'; clear OK'
      have H0 := Lib.hid h0
      clear h0
      have o0 := (Lo 0 _ rfl).1
      have o1 := (Lo 1 _ rfl).1
      have o2 := (Lo 2 _ rfl).1
      have r0 := (Lr 0 _ rfl).1
      have rf0 := (Lr 0 _ rfl).2
      have r1 := (Lr 1 _ rfl).1
      have rf1 := (Lr 1 _ rfl).2
      have r2 := (Lr 2 _ rfl).1
      have rf2 := (Lr 2 _ rfl).2
      go_wp2_with fail
      refine bodyPost_ret (v := .tuple #[.agg #[.int .i64 n, .slice B1 (cs.length - 1) k1, .slice B2 pl.length k2], .bool true]) (by simp [results, Try.results47, go_sem, *]) rfl (take_t (by rw [takeB, hq.out]; exact decide_eq_true H0.out) ⟨_, _, S, rfl, ?_, ?_, ?_⟩)
      · exact OK.out.chg (T := [w.heap.size + 1]) (by repeat' (first | (with_reducible exact Chg.refl _ _) | (with_reducible refine chg_set ?_ (by simp)))) (fun x hx hx' => DK.out x hx (by simp at hx'; subst hx'; simp))
      · exact fresh_mono FK.out (by omega) (by simp)
      · exact Below.chg hb (S := [w.heap.size + 1]) (by repeat' (first | (with_reducible exact Chg.refl _ _) | (with_reducible refine chg_set ?_ (by simp)))) hb.size (by simp)
  · skip
    clear c0 c1 c2
    have hzq : W2.heap.size ≤ W3.heap.size := by have := q.size; (try simp at this); omega
    replace Lc := Lc.below q
    replace Lr := Lr.below q
    replace Lo := Lo.below q
    have OK' := Lib.hid (OK.out.below q)
    clear OK; have OK := OK'; clear OK'
    have FK' := Lib.hid (fresh_mono (w' := W3) FK.out (Nat.le_refl _) hzq)
    clear FK; have FK := FK'; clear FK'
    replace hb : Below w.heap.size w W3 := hb.trans (q.mono hb.size)
    clear q
    have o0 := (Lo 0 _ rfl).1
    have o1 := (Lo 1 _ rfl).1
    have o2 := (Lo 2 _ rfl).1
    have r0 := (Lr 0 _ rfl).1
    have rf0 := (Lr 0 _ rfl).2
    have r1 := (Lr 1 _ rfl).1
    have rf1 := (Lr 1 _ rfl).2
    have r2 := (Lr 2 _ rfl).1
    have rf2 := (Lr 2 _ rfl).2
    go_wp2_with fail
    refine bodyPost_ret (v := .tuple #[.agg #[.int .i64 n, .slice B1 cs.length k1, .slice B2 pl.length k2], .bool false]) (by simp [results, Try.results47, go_sem, *]) rfl (take_f (by rw [takeB, hq.out]; rfl) ⟨_, _, S, rfl, ?_, ?_, ?_⟩)
    · exact OK.out.chg (T := [w.heap.size + 1]) (by repeat' (first | (with_reducible exact Chg.refl _ _) | (with_reducible refine chg_set ?_ (by simp)))) (fun x hx hx' => DK.out x hx (by simp at hx'; subst hx'; simp))
    · exact fresh_mono FK.out (by omega) (by simp)
    · exact Below.chg hb (S := [w.heap.size + 1]) (by repeat' (first | (with_reducible exact Chg.refl _ _) | (with_reducible refine chg_set ?_ (by simp)))) hb.size (by simp)
end Go.Proofs.Ytjbhlbcjljdjmaa
