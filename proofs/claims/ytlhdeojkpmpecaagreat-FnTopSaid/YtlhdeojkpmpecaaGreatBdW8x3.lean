/- Several texts in one: The drawing of companies. Written by a program (gen_w8.py). The drawing of theatres and of acts. Written by a program (gen_w10.py). The drawing of a theatre with acts; what acts keep. Written by a program (gen_w11.py). -/
import Derived.Deep.DeepCutAuto
import Derived.Deep.RegionHeld3
import Derived.Test.YtlhdeojkpmpecaaGreatBdT4x10
import Derived.Test.YtlhdeojkpmpecaaGreatBdY7x8
import Derived.Test.YtlhdeojkpmpecaaGreatBdK17x9
import Derived.Test.YtlhdeojkpmpecaaGreatBdB3x10
import Derived.Test.YtlhdeojkpmpecaaGreatBdK1x7
import Derived.Test.YtlhdeojkpmpecaaGreatBdK3x9
import Derived.Test.YtlhdeojkpmpecaaGreatBdI7x14
import Derived.Test.YtlhdeojkpmpecaaGreatBdM5x6
namespace Go.Proofs.YtlhdeojkpmpecaaGreat
open Go.RowKit
theorem row_full {e : TypeId} {size : Nat} (w : World) (cs : Array Value) (n : Nat) (hs : cs.size = n * size) (hm : n ≤ maxLen) : (w.alloc (.cells cs e)).ownsRow w.heap.size e size (.slice (some ⟨w.heap.size, 0, none⟩) n n) n cs.toList :=
  ⟨by simpa using hs, .inr ⟨w.heap.size, n, cs, rfl, Nat.le_refl _, heap_alloc_new w _, Nat.le_refl _, hm, hs, by rw [← hs]; exact List.take_of_length_le (Nat.le_of_eq (by simp))⟩⟩
theorem with_co {n : Int} {cs l : List RCross} {pl : List RPl} (h : withB n cs pl l = true) : companyB n (withC n cs pl l) pl = true := by
  rw [withC, if_pos h]
  rw [withB, Bool.and_eq_true] at h
  exact h.2
theorem unt_co {n : Int} {cs : List RCross} {pl : List RPl} (h : untB n cs pl = true) : companyB n (untC n cs pl) pl = true := by
  rw [untC, if_pos h]
  rw [untB, Bool.and_eq_true] at h
  have := with_co h.2
  rwa [withC, if_pos h.2] at this
structure CoOk (n : Nat) (cs : List RCross) (pl : List RPl) : Prop where
  ok : companyB (n : Int) cs pl = true
  n2 : 2 ≤ n ∧ n ≤ 4
  len : 1 ≤ pl.length ∧ pl.length ≤ 5
  knows : ∀ r ∈ pl, strictB r.1 0 5 = true
theorem strict_up {l : List Int} {a b b' : Int} (h : strictB l a b = true) (hb : b ≤ b') : strictB l a b' = true := by
  rw [strictB, Bool.and_eq_true] at h ⊢
  exact ⟨h.1, List.all_eq_true.2 (fun x hx => inB_iff.2 (by have := inB_iff.1 (List.all_eq_true.1 h.2 x hx); omega))⟩
theorem pls_of_draw {pl : List RPl} (h : ∀ r ∈ pl, PlD r) (hl : 1 ≤ pl.length ∧ pl.length ≤ 5) : playersB pl = true := by
  rw [playersB, Bool.and_eq_true]
  refine ⟨List.all_eq_true.2 (fun r hr => ?_), inB_iff.2 (by omega)⟩
  obtain ⟨h1, h2⟩ := h r hr
  exact playerB_t (strict_up h1 (by omega)) (inB_iff.2 h2)
theorem CoOk.start {n : Nat} {cs : List RCross} {pl : List RPl} (hn : 2 ≤ n ∧ n ≤ 4) (hl : cs.length ≤ 9) (hc : ∀ t ∈ cs, 0 ≤ t.1 ∧ t.1 ≤ (n : Int) - 2) (hp : ∀ r ∈ pl, PlD r) (hpl : 1 ≤ pl.length ∧ pl.length ≤ 5) : CoOk n cs pl := by
  refine ⟨?_, hn, hpl, fun r hr => (hp r hr).1⟩
  rw [companyB, Bool.and_eq_true]
  exact ⟨crosses_t (inB_iff.2 (by omega)) (by omega) (List.all_eq_true.2 (fun t ht => inB_iff.2 (hc t ht))), pls_of_draw hp hpl⟩
theorem CoOk.go {n : Nat} {cs : List RCross} {pl : List RPl} (h : CoOk n cs pl) : CoOk n (goC n cs pl) pl := by
  refine ⟨?_, h.n2, h.len, h.knows⟩
  by_cases hb : withB n cs pl (homeL (n : Int) cs) = true
  · exact with_co hb
  · have : goC (n : Int) cs pl = cs := by unfold goC withC; rw [if_neg hb]
    rw [this]; exact h.ok
theorem CoOk.unt {n : Nat} {cs : List RCross} {pl : List RPl} (h : CoOk n cs pl) : CoOk n (untC n cs pl) pl := by
  refine ⟨?_, h.n2, h.len, h.knows⟩
  by_cases hb : untB (n : Int) cs pl = true
  · exact unt_co hb
  · have : untC (n : Int) cs pl = cs := by unfold untC; rw [if_neg hb]
    rw [this]; exact h.ok
theorem CoOk.four {n : Nat} {cs : List RCross} {r : RPl} {pl : List RPl} (h : CoOk n cs (r :: pl)) : CoOk n cs (([0, 1, 2, 3], 2) :: pl) := by
  have hok := h.ok
  rw [companyB, Bool.and_eq_true, playersB, Bool.and_eq_true, List.all_cons, Bool.and_eq_true] at hok
  refine ⟨?_, h.n2, by simpa using h.len, fun x hx => ?_⟩
  · rw [companyB, Bool.and_eq_true, playersB, Bool.and_eq_true, List.all_cons, Bool.and_eq_true]
    exact ⟨hok.1, ⟨by decide +kernel, hok.2.1.2⟩, by simpa using hok.2.2⟩
  · rcases List.mem_cons.1 hx with rfl | hx
    · decide +kernel
    · exact h.knows x (List.mem_cons_of_mem _ hx)
structure CoSt (w0 w : World) (g : Nat) (A : Option Addr) (c : Nat) (bs : List Int) (xb rb n : Nat) (x1 x2 : Value) (cs : List RCross) (pl : List RPl) (S : List Nat) (W : World) : Prop where
  box : BoxC w0 w g A c bs xb rb [.int .i64 n, x1, x2] [.int .i64 0, .slice none 0 0, .slice none 0 0] W
  own : OwCompany W S x1 x2 cs pl
  fr : Fresh w.heap.size W S
  ap : ∀ b ∈ S, b ∉ [g, xb, rb]
  base : (g < w.heap.size ∧ w.heap.size ≤ xb) ∧ (w.heap.size ≤ rb ∧ rb < xb) ∧ w0.heap.size ≤ w.heap.size
def CompanyPost (w0 w : World) (g : Nat) (A : Option Addr) (c : Nat) (bs : List Int) (e : Ending) (w' : World) : Prop :=
  ∃ (n : Nat) (cs : List RCross) (pl : List RPl) (x1 x2 : Value) (S : List Nat), e = .returned (.agg #[.int .i64 n, x1, x2]) ∧ OwCompany w' S x1 x2 cs pl ∧ Fresh w.heap.size w' S ∧ CoOk n cs pl ∧ Cur w0 w' g A c bs ∧ Chg [g] w w'
section
variable {w0 w W W' : World} {g : Nat} {A : Option Addr} {c : Nat} {bs : List Int} {xb rb n : Nat} {x1 x2 y1 y2 : Value} {cs cs' : List RCross} {pl pl' : List RPl} {S S' : List Nat}
theorem CoSt.draw (h : CoSt w0 w g A c bs xb rb n x1 x2 cs pl S W) (hc : Cur w0 W' g A c bs) (hch : Chg [g] W W') : CoSt w0 w g A c bs xb rb n x1 x2 cs pl S W' :=
  ⟨h.box.draw hc hch (by have := h.base; omega) (by have := h.base; omega), h.own.chg hch (fun b hb hb' => h.ap b hb (by simp at hb' ⊢; exact .inl hb')), fresh_mono h.fr (Nat.le_refl _) hch.size, h.ap, h.base⟩
theorem CoSt.lt (h : CoSt w0 w g A c bs xb rb n x1 x2 cs pl S W) : xb < W.heap.size := h.box.sz
theorem CoSt.next (h : CoSt w0 w g A c bs xb rb n x1 x2 cs pl S W) (hb : Below W.heap.size W W') (ho : OwCompany W' S' y1 y2 cs' pl') (hf : Fresh W.heap.size W' S') :
    CoSt w0 w g A c bs xb rb n y1 y2 cs' pl' S' (((W'.setCell ⟨xb, 0, none⟩ (.int .i64 n)).setCell ⟨xb, 1, none⟩ y1).setCell ⟨xb, 2, none⟩ y2) := by
  have hl := h.lt
  have hbs := h.base
  have hsz := h.box.chg.size
  have hgl := h.box.cur.lt
  have hrl : rb < W.heap.size := by omega
  have h1 := (((h.box.below hb).store (i := 0) (u := .int .i64 n) (v := .int .i64 n) rfl (by omega) (by omega) (by omega) (by omega)).store (i := 1) (u := y1) (v := x1) rfl (by omega) (by omega) (by omega) (by omega)).store (i := 2) (u := y2) (v := x2) rfl (by omega) (by omega) (by omega) (by omega)
  have hch : Chg [xb] W' (((W'.setCell ⟨xb, 0, none⟩ (.int .i64 n)).setCell ⟨xb, 1, none⟩ y1).setCell ⟨xb, 2, none⟩ y2) := by repeat' (with_reducible first | exact Chg.refl _ _ | refine qC ?_)
  refine ⟨h1, ho.chg hch (fun b hm hm' => by have := (hf.2 b hm).1; simp at hm'; omega), fresh_mono hf hsz hch.size, fun b hm hm' => ?_, hbs⟩
  have := (hf.2 b hm).1
  simp at hm'
  omega
end
theorem pls_head {W : World} {S1 S : List Nat} {x2 : Value} {r : RPl} {pl : List RPl} {B : Nat} (h : OwPls W S x2 (r :: pl)) (hf : Fresh B W (S1 ++ S)) (hB : B ≤ W.heap.size) :
    ∃ gp cp u, x2 = .slice (some ⟨gp, 0, none⟩) (pl.length + 1) cp ∧ gp ∈ S ∧ W.cell? ⟨gp, 0, none⟩ = some u ∧ W.cell? ⟨gp, 1, none⟩ = some (.int .i64 r.2) ∧ W.frozen? ⟨gp, 0, none⟩ = false ∧ W.frozen? ⟨gp, 1, none⟩ = false ∧
    ∃ S', OwPls (((W.setCell ⟨gp, 1, none⟩ (.int .i64 2)).setCell ⟨gp, 0, none⟩ (.slice (some ⟨W.heap.size, 0, none⟩) 4 4)).alloc (.cells #[.int .i64 0, .int .i64 1, .int .i64 2, .int .i64 3] 3)) S' x2 (([0, 1, 2, 3], 2) :: pl) ∧
      Fresh B (((W.setCell ⟨gp, 1, none⟩ (.int .i64 2)).setCell ⟨gp, 0, none⟩ (.slice (some ⟨W.heap.size, 0, none⟩) 4 4)).alloc (.cells #[.int .i64 0, .int .i64 1, .int .i64 2, .int .i64 3] 3)) (S1 ++ S') ∧ ∀ b ∈ S', b ∈ S ∨ b = W.heap.size := by
  obtain ⟨vs, hvl, hown, hrows, rfl⟩ := h
  cases vs with
  | nil => simp at hvl
  | cons p vs =>
    obtain ⟨gp, cp, rfl⟩ := own_form hown (by simp)
    have hl : vs.length = pl.length := by simpa using hvl
    have hfl : ((p :: vs).flatMap cPl).length = (vs.length + 1) * 2 := by rw [len_flat cPl_len]; simp
    have hp2 : p.2 = r.2 := (hrows 0 p r rfl rfl).1
    have h0 := (hown.cellAt 0 (by rw [List.length_cons]; omega))
    have h1 := (hown.cellAt 1 (by rw [List.length_cons]; omega))
    refine ⟨gp, cp, p.1, by rw [List.length_cons, hl], by simp [Value.ownBlock], h0.trans rfl, h1.trans (by rw [← hp2]; rfl), hown.frozenAt 0, hown.frozenAt 1, ?_⟩
    have hst1 := (hown.stored 1 (.int .i64 2)).1
    have hst2 := (hst1.stored 0 (.slice (some ⟨W.heap.size, 0, none⟩) 4 4)).1
    have hst3 := hst2.alloc (.cells #[.int .i64 0, .int .i64 1, .int .i64 2, .int .i64 3] 3)
    have hf1 := fresh_right hf
    obtain ⟨_, hnd, hd1, hd2⟩ := nodup2 hf1.1
    have hpn : plBlocks (p :: vs) = p.1.ownBlock.toList ++ plBlocks vs := rfl
    rw [hpn] at hnd hd1 hd2
    have hsub : ∀ b ∈ plBlocks vs, b ∈ plBlocks (p :: vs) := fun b hb => by rw [hpn]; exact List.mem_append_right _ hb
    have hgp : gp < W.heap.size := (hown.lt gp rfl).2
    have hold : ∀ b ∈ plBlocks vs, (B ≤ b ∧ b < W.heap.size) ∧ b ≠ gp := fun b hb => ⟨hf1.2 b (List.mem_append_right _ (hsub b hb)), fun e => hd2 b (List.mem_append_right _ hb) (by rw [e]; simp [Value.ownBlock])⟩
    refine ⟨_, ⟨(.slice (some ⟨W.heap.size, 0, none⟩) 4 4, 2) :: vs, by simp [hl], ?_, ?_, rfl⟩, ?_, ?_⟩
    · exact hst3
    · intro i q r' hq hr'
      cases i with
      | zero =>
        simp at hq hr'
        subst hq hr'
        refine ⟨rfl, ?_⟩
        have := row_full (size := 1) (e := 3) ((W.setCell ⟨gp, 1, none⟩ (.int .i64 2)).setCell ⟨gp, 0, none⟩ (.slice (some ⟨W.heap.size, 0, none⟩) 4 4)) #[.int .i64 0, .int .i64 1, .int .i64 2, .int .i64 3] 4 rfl (by simp [maxLen])
        rw [World.size_setCell, World.size_setCell] at this
        exact own_mono this (Nat.zero_le _)
      | succ i =>
        have hq' : (p :: vs)[i + 1]? = some q := hq
        obtain ⟨h1, h2⟩ := hrows (i + 1) q r' hq' hr'
        refine ⟨h1, ?_⟩
        have hqm : ∀ b ∈ q.1.ownBlock.toList, b ∈ plBlocks vs := mem_plBlocks (i := i) hq
        exact World.ownsRow.alloc (own_chg (S := [gp]) h2 (by repeat' (with_reducible first | exact Chg.refl _ _ | refine qC ?_)) (fun b hb hb' => by have := (hold b (hqm b hb)).2; simp at hb'; exact this hb')) _
    · have hpn2 : plBlocks ((Value.slice (some ⟨W.heap.size, 0, none⟩) 4 4, (2 : Int)) :: vs) = [W.heap.size] ++ plBlocks vs := rfl
      rw [hpn2]
      have hS1 := fresh_left hf
      have hd := (nodup2 hf.1).2.2.1
      refine ⟨?_, fun b hb => ?_⟩
      · refine List.nodup_append.2 ⟨hS1.1, List.nodup_append.2 ⟨by simp [Value.ownBlock], List.nodup_append.2 ⟨by simp, (nodup2 hnd).2.1, ?_⟩, ?_⟩, ?_⟩
        · intro a ha b hb e
          subst e
          simp at ha
          have := (hold a hb).1.2
          omega
        · intro a ha b hb e
          subst e
          have hag : a = gp := by simpa [Value.ownBlock, eq_comm] using ha
          rcases List.mem_append.1 hb with hb | hb
          · simp at hb; omega
          · exact (hold a hb).2 hag
        · intro a ha b hb e
          subst e
          have h3 := (hS1.2 a ha).2
          rcases List.mem_append.1 hb with hb | hb
          · exact hd a ha (List.mem_append_left _ hb)
          · rcases List.mem_append.1 hb with hb | hb
            · simp at hb; omega
            · exact hd a ha (List.mem_append_right _ (hsub a hb))
      · simp
        rcases List.mem_append.1 hb with hb | hb
        · have := hS1.2 b hb; omega
        · rcases List.mem_append.1 hb with hb | hb
          · have hag : b = gp := by simpa [Value.ownBlock, eq_comm] using hb
            have := hf1.2 gp (by simp [Value.ownBlock]); omega
          · rcases List.mem_append.1 hb with hb | hb
            · simp at hb; omega
            · have := (hold b hb).1; omega
    · intro b hb
      rcases List.mem_append.1 hb with hb | hb
      · exact .inl (List.mem_append_left _ hb)
      · have hpn2 : plBlocks ((Value.slice (some ⟨W.heap.size, 0, none⟩) 4 4, (2 : Int)) :: vs) = [W.heap.size] ++ plBlocks vs := rfl
        rw [hpn2] at hb
        rcases List.mem_append.1 hb with hb | hb
        · simp at hb; exact .inr hb
        · exact .inl (List.mem_append_right _ (hsub b hb))
set_option maxHeartbeats 16000000 in
set_option maxRecDepth 100000 in
theorem l37Company_any (w0 w : World) (g : Nat) (A : Option Addr) (c : Nat) (bs : List Int) (hcur : Cur w0 w g A c bs) :
    Calls Tryz.prog 126 #[.pointer (some ⟨g, 0, none⟩)] w (CompanyPost w0 w g A c bs) := by
  have hglt := hcur.lt
  have hw0 := hcur.below.size
  go_enter Tryz.func126, Tryz.ntmps126
  go_wp2_with fail
  have lr0 : Loc (w.alloc (.cells #[.int .i64 0, .slice none 0 0, .slice none 0 0] 35)) w.heap.size [.int .i64 0, .slice none 0 0, .slice none 0 0] := Loc.new w #[.int .i64 0, .slice none 0 0, .slice none 0 0] 35
  have hal0 : Below w.heap.size w (w.alloc (.cells #[.int .i64 0, .slice none 0 0, .slice none 0 0] 35)) := (Below.refl _ _).alloc (Nat.le_refl _) _
  have hc0 := hcur.keep hal0
  have hch0 := Chg.of_below hal0 [g]
  have hzV : w.heap.size + 1 ≤ (w.alloc (.cells #[.int .i64 0, .slice none 0 0, .slice none 0 0] 35)).heap.size := by simp
  obtain ⟨rb, hrb⟩ : ∃ rb, w.heap.size = rb := ⟨_, rfl⟩
  have hwrb : w.heap.size ≤ rb := by omega
  have hgrb : g < rb := by omega
  have hrbV : rb < (w.alloc (.cells #[.int .i64 0, .slice none 0 0, .slice none 0 0] 35)).heap.size := by omega
  generalize w.alloc (.cells #[.int .i64 0, .slice none 0 0, .slice none 0 0] 35) = V at *
  rw [hrb] at lr0 ⊢
  clear hrb hal0
  refine (l08List_any w0 V g A c bs hc0).mono ?_
  rintro e w1 ⟨n, v, l, rfl, own1, hn, hl9, hval, hc1, hch1⟩
  obtain ⟨Aq, cq, rfl, _, _⟩ := (RdS.of_own own1).form
  have lr1 := lr0.chg hch1 (by simp; omega)
  have hchw1 := hch0.trans hch1
  have own1' := own_mono own1 (show rb + 1 ≤ V.heap.size by omega)
  have Hval := Lib.hid hval
  have hz1 := hch1.size
  clear hc0 lr0 hch0 hch1 own1 hval
  go_upto_if 12 with (fail)
  go_cut [3, 4] (fun s3 s4 wx => ∃ (n : Nat) (Aq : Option Addr) (cq : Nat) (l : List RCross), s3 = .int .i64 n ∧ s4 = .slice Aq l.length cq ∧ wx.ownsRow (rb + 1) 85 2 (.slice Aq l.length cq) l.length (l.flatMap cCross) ∧ (2 ≤ n ∧ n ≤ 4) ∧ l.length ≤ 9 ∧ Hid (∀ t ∈ l, 0 ≤ t.1 ∧ t.1 ≤ (n : Int) - 2) ∧ Cur w0 wx g A c bs ∧ Chg [g] w wx ∧ Loc wx rb [.int .i64 0, .slice none 0 0, .slice none 0 0] ∧ rb < wx.heap.size)
  case first =>
    by_cases h4 : 4 < n
    · go_wp2_with fail
      go_meet
      exact ⟨4, _, _, [], rfl, rfl, World.ownsRow_made (size := 2) (e := 85) w1 #[] 0 (by omega) (by simp [maxLen]) rfl, by omega, by simp, by simp [Hid], hc1.keep ((Below.refl _ _).alloc (Nat.le_refl _) _), hchw1.alloc _, lr1.alloc _, by simp; omega⟩
    · go_wp2_with fail
      go_meet
      exact ⟨n, Aq, cq, l, rfl, rfl, own1', by omega, hl9, Hval.out, hc1, hchw1, lr1, by omega⟩
  case rest =>
    clear lr1 hc1 hchw1 own1' Hval hn hl9
    obtain ⟨n, Aq, cq, l, rfl, rfl, own1, hn, hl9, Hval, hc1, hch1, lr1, hz1⟩ := hcut
    go_wp2_with fail
    refine (l13List_any w0 wc g A c bs hc1).mono ?_
    rintro e w2 ⟨v2, pl, S2, rfl, hp2, hf2, hpl, hpd, hc2, hch2⟩
    obtain ⟨Ap, cp, rfl, _, _⟩ := hp2.rd.form
    have HOK : Hid (CoOk n l pl) := CoOk.start hn hl9 Hval.out hpd hpl
    have lr2 := lr1.chg hch2 (by simp; omega)
    have own2 := own_draw own1 hch2 (by omega)
    have hchw2 := hch1.trans hch2
    have hz2 := hch2.size
    have hf12 : Fresh (rb + 1) w2 ((Value.slice Aq l.length cq).ownBlock.toList ++ S2) := fresh_join (fresh_of own2) (fresh_mono hf2 (by omega) (Nat.le_refl _)) (fun b hb hb' => by have := (own1.lt b (by simpa using hb)).2; have := (hf2.2 b hb').1; omega)
    have hco : OwCompany w2 _ (.slice Aq l.length cq) (.slice Ap pl.length cp) l pl := ⟨_, _, rfl, OwL.mk_ own2, hp2⟩
    generalize (Value.slice Aq l.length cq).ownBlock.toList ++ S2 = S at *
    clear lr1 hc1 hch1 own1 own2 Hval hl9 hp2 hf2 hpl hpd hch2
    go_upto_region 6 with (fail)
    have hal : Below w2.heap.size w2 (w2.alloc (.cells #[.int .i64 n, .slice Aq l.length cq, .slice Ap pl.length cp] 35)) := (Below.refl _ _).alloc (Nat.le_refl _) _
    have hst : CoSt w0 w g A c bs w2.heap.size rb n (.slice Aq l.length cq) (.slice Ap pl.length cp) l pl S (w2.alloc (.cells #[.int .i64 n, .slice Aq l.length cq, .slice Ap pl.length cp] 35)) :=
      ⟨⟨hc2.keep hal, hchw2.trans (Chg.of_below hal _), Loc.new w2 #[.int .i64 n, .slice Aq l.length cq, .slice Ap pl.length cp] 35, lr2.below hal, by simp⟩, hco.below hal, fresh_mono hf12 (by omega) hal.size, fun b hb hb' => by have := hf12.2 b hb; simp at hb'; omega, ⟨by omega, by omega, by omega⟩⟩
    obtain ⟨xb, hxb⟩ : ∃ xb, w2.heap.size = xb := ⟨_, rfl⟩
    rw [hxb] at hst
    generalize w2.alloc (.cells #[.int .i64 n, .slice Aq l.length cq, .slice Ap pl.length cp] 35) = W at *
    (try rw [hxb])
    clear hal hc2 hchw2 lr2 hco hf12 hxb hz1 hz2 hzV hrbV
    go_wp2_with fail
    refine (l01Below_any 4 w0 W g A c bs hst.box.cur (by omega) (by omega)).mono ?_
    rintro e w3 ⟨r, rfl, ⟨hr0, hr1⟩, hc3, hch3⟩
    have hst3 := hst.draw hc3 hch3
    clear hst hc3 hch3
    go_upto_region 7 with (fail)
    have H0 : Hid (∀ (cs : List RCross), CoOk n cs pl → szCompany cs pl ≤ 1048576) := fun cs h => by have := companyB_sz h.ok; omega
    skip
    by_cases h0 : r = 0
    · subst h0
      have b0 := (hst3.box.lx 0 _ rfl).1
      have b1 := (hst3.box.lx 1 _ rfl).1
      have b2 := (hst3.box.lx 2 _ rfl).1
      have hCa : Hid (∀ W x1 x2, RdCompany W x1 x2 l pl → Calls Tryz.prog 113 #[.agg #[.int .i64 n, x1, x2]] W (RetCompany n (goB n l pl) (goC n l pl) pl W)) := fun W x1 x2 hr => specGoHome_any n x1 x2 l pl W hr (H0.out _ HOK.out)
      have HOKa : Hid (CoOk n (goC n l pl) pl) := HOK.out.go
      obtain ⟨l4, hcsa⟩ : ∃ l', goC (n : Int) l pl = l' := ⟨_, rfl⟩
      obtain ⟨bka, hbka⟩ : ∃ b, goB (n : Int) l pl = b := ⟨_, rfl⟩
      rw [hcsa, hbka] at hCa
      rw [hcsa] at HOKa
      clear hcsa hbka
      go_wp2_with fail
      refine (hCa.out _ _ _ hst3.own.rd).mono ?_
      rintro e w4 ⟨y1a, y2a, Sa, rfl, oy, fy, q⟩
      obtain ⟨⟨B1a, k1a, rfl⟩, ⟨B2a, k2a, rfl⟩⟩ := oy.rd.forms
      have lxa := hst3.box.lx.below q
      have b0 := (lxa 0 _ rfl).1
      have f0 := (lxa 0 _ rfl).2
      have b1 := (lxa 1 _ rfl).1
      have f1 := (lxa 1 _ rfl).2
      have b2 := (lxa 2 _ rfl).1
      have f2 := (lxa 2 _ rfl).2
      have hsta := hst3.next q oy fy
      go_upto_region 12 with (fail)
      clear b0 b1 b2 f0 f1 f2 lxa oy fy q hst3
      generalize ((w4.setCell ⟨xb, 0, none⟩ (.int .i64 n)).setCell ⟨xb, 1, none⟩ (.slice B1a l4.length k1a)).setCell ⟨xb, 2, none⟩ (.slice B2a pl.length k2a) = w5 at *
      go_wp2_with fail
      refine (l01Once_any 2 w0 _ g A c bs hsta.box.cur (by omega) (by omega)).mono ?_
      rintro e w8 ⟨b, rfl, hc8, hch8⟩
      have hst8 := hsta.draw hc8 hch8
      clear hsta hc8 hch8
      cases b
      · skip
        have b0 := (hst8.box.lx 0 _ rfl).1
        have b1 := (hst8.box.lx 1 _ rfl).1
        have b2 := (hst8.box.lx 2 _ rfl).1
        have r0 := (hst8.box.lr 0 _ rfl).1
        have r1 := (hst8.box.lr 1 _ rfl).1
        have r2 := (hst8.box.lr 2 _ rfl).1
        have s0 := (hst8.box.lr 0 _ rfl).2
        have s1 := (hst8.box.lr 1 _ rfl).2
        have s2 := (hst8.box.lr 2 _ rfl).2
        have hbs := hst8.base
        go_wp2_with fail
        have hch9 : Chg [rb] w8 (((w8.setCell ⟨rb, 0, none⟩ (.int .i64 n)).setCell ⟨rb, 1, none⟩ (.slice B1a l4.length k1a)).setCell ⟨rb, 2, none⟩ (.slice B2a pl.length k2a)) := by repeat' (with_reducible first | exact Chg.refl _ _ | refine qC ?_)
        refine bodyPost_ret (v := .agg #[.int .i64 n, .slice B1a l4.length k1a, .slice B2a pl.length k2a]) (by simp [results, Tryz.results126, go_sem, *]) rfl ⟨n, _, _, _, _, _, rfl, hst8.own.chg hch9 (fun b hb hb' => hst8.ap b hb (by simp at hb' ⊢; exact .inr (.inr hb'))), fresh_mono hst8.fr (Nat.le_refl _) hch9.size, HOKa.out, hst8.box.cur.chg hch9 (by simp; omega) (by simp; omega), chg_low hst8.box.chg hch9 (by simp; omega)⟩
      · skip
        cases pl with
        | nil => exact absurd HOKa.out.len (by simp)
        | cons p0 pl0 =>
          obtain ⟨Sa, Sb, hSe, hoa, hob⟩ := hst8.own
          have hfr8 := hst8.fr
          rw [hSe] at hfr8
          obtain ⟨gp, cpp, u0, hv2, hgp, g0, g1, gf0, gf1, S', how', hfr', hS'⟩ := pls_head hob hfr8 hst8.box.chg.size
          injection hv2 with e1 e2 e3
          subst e1 e3
          clear e2
          have hgS : gp ∉ [g, xb, rb] := hst8.ap gp (by rw [hSe]; exact List.mem_append_right _ hgp)
          simp at hgS
          have hlt8 := hst8.lt
          have hbs := hst8.base
          have hgg := (hst8.fr.2 gp (by rw [hSe]; exact List.mem_append_right _ hgp))
          have b0 := (hst8.box.lx 0 _ rfl).1
          have b1 := (hst8.box.lx 1 _ rfl).1
          have b2 := (hst8.box.lx 2 _ rfl).1
          have HS' := Lib.hid hS'
          have HSe := Lib.hid hSe
          clear hS' hSe
          go_upto_region 15 with (fail)
          have hchE : Chg [gp] w8 (((w8.setCell ⟨gp, 1, none⟩ (.int .i64 2)).setCell ⟨gp, 0, none⟩ (.slice (some ⟨w8.heap.size, 0, none⟩) 4 4)).alloc (.cells #[.int .i64 0, .int .i64 1, .int .i64 2, .int .i64 3] 3)) := Chg.alloc (by repeat' (with_reducible first | exact Chg.refl _ _ | refine qC ?_)) _
          have hst9 : CoSt w0 w g A c bs xb rb n (.slice B1a l4.length k1a) (.slice (some ⟨gp, 0, none⟩) (pl0.length + 1) k2a) l4 (([0, 1, 2, 3], 2) :: pl0) (Sa ++ S') (((w8.setCell ⟨gp, 1, none⟩ (.int .i64 2)).setCell ⟨gp, 0, none⟩ (.slice (some ⟨w8.heap.size, 0, none⟩) 4 4)).alloc (.cells #[.int .i64 0, .int .i64 1, .int .i64 2, .int .i64 3] 3)) :=
            ⟨⟨hst8.box.cur.chg hchE (by simp; omega) (by simp; omega), chg_low hst8.box.chg hchE (by simp; omega), hst8.box.lx.chg hchE (by simp; omega), hst8.box.lr.chg hchE (by simp; omega), Nat.lt_of_lt_of_le hlt8 hchE.size⟩,
             ⟨Sa, S', rfl, hoa.chg hchE (fun b hb hb' => (nodup2 hfr8.1).2.2.1 b hb (by simp at hb'; rw [hb']; exact hgp)), how'⟩, hfr', fun b hb hb' => by
               rcases List.mem_append.1 hb with hb | hb
               · exact hst8.ap b (by rw [HSe.out]; exact List.mem_append_left _ hb) hb'
               · rcases HS'.out b hb with hb | hb
                 · exact hst8.ap b (by rw [HSe.out]; exact List.mem_append_right _ hb) hb'
                 · have := hst8.box.cur.lt; simp at hb'; omega, hst8.base⟩
          have HOK9 : Hid (CoOk n l4 (([0, 1, 2, 3], 2) :: pl0)) := HOKa.out.four
          clear b0 b1 b2 g0 g1 gf0 gf1 hst8 hoa hob hfr8 how' hfr' hchE hgp hgS hlt8 hgg hbs
          generalize ((w8.setCell ⟨gp, 1, none⟩ (.int .i64 2)).setCell ⟨gp, 0, none⟩ (.slice (some ⟨w8.heap.size, 0, none⟩) 4 4)).alloc (.cells #[.int .i64 0, .int .i64 1, .int .i64 2, .int .i64 3] 3) = w9 at *
          have b0 := (hst9.box.lx 0 _ rfl).1
          have b1 := (hst9.box.lx 1 _ rfl).1
          have b2 := (hst9.box.lx 2 _ rfl).1
          have r0 := (hst9.box.lr 0 _ rfl).1
          have r1 := (hst9.box.lr 1 _ rfl).1
          have r2 := (hst9.box.lr 2 _ rfl).1
          have s0 := (hst9.box.lr 0 _ rfl).2
          have s1 := (hst9.box.lr 1 _ rfl).2
          have s2 := (hst9.box.lr 2 _ rfl).2
          have hbs := hst9.base
          go_wp2_with fail
          have hch9 : Chg [rb] w9 (((w9.setCell ⟨rb, 0, none⟩ (.int .i64 n)).setCell ⟨rb, 1, none⟩ (.slice B1a l4.length k1a)).setCell ⟨rb, 2, none⟩ (.slice (some ⟨gp, 0, none⟩) (pl0.length + 1) k2a)) := by repeat' (with_reducible first | exact Chg.refl _ _ | refine qC ?_)
          refine bodyPost_ret (v := .agg #[.int .i64 n, .slice B1a l4.length k1a, .slice (some ⟨gp, 0, none⟩) (pl0.length + 1) k2a]) (by simp [results, Tryz.results126, go_sem, *]) rfl ⟨n, _, _, _, _, _, rfl, hst9.own.chg hch9 (fun b hb hb' => hst9.ap b hb (by simp at hb' ⊢; exact .inr (.inr hb'))), fresh_mono hst9.fr (Nat.le_refl _) hch9.size, HOK9.out, hst9.box.cur.chg hch9 (by simp; omega) (by simp; omega), chg_low hst9.box.chg hch9 (by simp; omega)⟩
    · by_cases h1 : r = 1
      · subst h1
        have b0 := (hst3.box.lx 0 _ rfl).1
        have b1 := (hst3.box.lx 1 _ rfl).1
        have b2 := (hst3.box.lx 2 _ rfl).1
        have hCa : Hid (∀ W x1 x2, RdCompany W x1 x2 l pl → Calls Tryz.prog 113 #[.agg #[.int .i64 n, x1, x2]] W (RetCompany n (goB n l pl) (goC n l pl) pl W)) := fun W x1 x2 hr => specGoHome_any n x1 x2 l pl W hr (H0.out _ HOK.out)
        have HOKa : Hid (CoOk n (goC n l pl) pl) := HOK.out.go
        obtain ⟨l4, hcsa⟩ : ∃ l', goC (n : Int) l pl = l' := ⟨_, rfl⟩
        obtain ⟨bka, hbka⟩ : ∃ b, goB (n : Int) l pl = b := ⟨_, rfl⟩
        rw [hcsa, hbka] at hCa
        rw [hcsa] at HOKa
        clear hcsa hbka
        go_wp2_with fail
        refine (hCa.out _ _ _ hst3.own.rd).mono ?_
        rintro e w4 ⟨y1a, y2a, Sa, rfl, oy, fy, q⟩
        obtain ⟨⟨B1a, k1a, rfl⟩, ⟨B2a, k2a, rfl⟩⟩ := oy.rd.forms
        have lxa := hst3.box.lx.below q
        have b0 := (lxa 0 _ rfl).1
        have f0 := (lxa 0 _ rfl).2
        have b1 := (lxa 1 _ rfl).1
        have f1 := (lxa 1 _ rfl).2
        have b2 := (lxa 2 _ rfl).1
        have f2 := (lxa 2 _ rfl).2
        have hsta := hst3.next q oy fy
        go_upto_region 11 with (fail)
        clear b0 b1 b2 f0 f1 f2 lxa oy fy q hst3
        generalize ((w4.setCell ⟨xb, 0, none⟩ (.int .i64 n)).setCell ⟨xb, 1, none⟩ (.slice B1a l4.length k1a)).setCell ⟨xb, 2, none⟩ (.slice B2a pl.length k2a) = w5 at *
        have b0 := (hsta.box.lx 0 _ rfl).1
        have b1 := (hsta.box.lx 1 _ rfl).1
        have b2 := (hsta.box.lx 2 _ rfl).1
        have hCb : Hid (∀ W x1 x2, RdCompany W x1 x2 l4 pl → Calls Tryz.prog 114 #[.agg #[.int .i64 n, x1, x2]] W (RetCompany n (untB n l4 pl) (untC n l4 pl) pl W)) := fun W x1 x2 hr => specUntwist_any n x1 x2 l4 pl W hr (H0.out _ HOKa.out)
        have HOKb : Hid (CoOk n (untC n l4 pl) pl) := HOKa.out.unt
        obtain ⟨l6, hcsb⟩ : ∃ l', untC (n : Int) l4 pl = l' := ⟨_, rfl⟩
        obtain ⟨bkb, hbkb⟩ : ∃ b, untB (n : Int) l4 pl = b := ⟨_, rfl⟩
        rw [hcsb, hbkb] at hCb
        rw [hcsb] at HOKb
        clear hcsb hbkb
        go_wp2_with fail
        refine (hCb.out _ _ _ hsta.own.rd).mono ?_
        rintro e w6 ⟨y1b, y2b, Sb, rfl, oy, fy, q⟩
        obtain ⟨⟨B1b, k1b, rfl⟩, ⟨B2b, k2b, rfl⟩⟩ := oy.rd.forms
        have lxb := hsta.box.lx.below q
        have b0 := (lxb 0 _ rfl).1
        have f0 := (lxb 0 _ rfl).2
        have b1 := (lxb 1 _ rfl).1
        have f1 := (lxb 1 _ rfl).2
        have b2 := (lxb 2 _ rfl).1
        have f2 := (lxb 2 _ rfl).2
        have hstb := hsta.next q oy fy
        go_upto_region 12 with (fail)
        clear b0 b1 b2 f0 f1 f2 lxb oy fy q hsta
        generalize ((w6.setCell ⟨xb, 0, none⟩ (.int .i64 n)).setCell ⟨xb, 1, none⟩ (.slice B1b l6.length k1b)).setCell ⟨xb, 2, none⟩ (.slice B2b pl.length k2b) = w7 at *
        go_wp2_with fail
        refine (l01Once_any 2 w0 _ g A c bs hstb.box.cur (by omega) (by omega)).mono ?_
        rintro e w8 ⟨b, rfl, hc8, hch8⟩
        have hst8 := hstb.draw hc8 hch8
        clear hstb hc8 hch8
        cases b
        · skip
          have b0 := (hst8.box.lx 0 _ rfl).1
          have b1 := (hst8.box.lx 1 _ rfl).1
          have b2 := (hst8.box.lx 2 _ rfl).1
          have r0 := (hst8.box.lr 0 _ rfl).1
          have r1 := (hst8.box.lr 1 _ rfl).1
          have r2 := (hst8.box.lr 2 _ rfl).1
          have s0 := (hst8.box.lr 0 _ rfl).2
          have s1 := (hst8.box.lr 1 _ rfl).2
          have s2 := (hst8.box.lr 2 _ rfl).2
          have hbs := hst8.base
          go_wp2_with fail
          have hch9 : Chg [rb] w8 (((w8.setCell ⟨rb, 0, none⟩ (.int .i64 n)).setCell ⟨rb, 1, none⟩ (.slice B1b l6.length k1b)).setCell ⟨rb, 2, none⟩ (.slice B2b pl.length k2b)) := by repeat' (with_reducible first | exact Chg.refl _ _ | refine qC ?_)
          refine bodyPost_ret (v := .agg #[.int .i64 n, .slice B1b l6.length k1b, .slice B2b pl.length k2b]) (by simp [results, Tryz.results126, go_sem, *]) rfl ⟨n, _, _, _, _, _, rfl, hst8.own.chg hch9 (fun b hb hb' => hst8.ap b hb (by simp at hb' ⊢; exact .inr (.inr hb'))), fresh_mono hst8.fr (Nat.le_refl _) hch9.size, HOKb.out, hst8.box.cur.chg hch9 (by simp; omega) (by simp; omega), chg_low hst8.box.chg hch9 (by simp; omega)⟩
        · skip
          cases pl with
          | nil => exact absurd HOKb.out.len (by simp)
          | cons p0 pl0 =>
            obtain ⟨Sa, Sb, hSe, hoa, hob⟩ := hst8.own
            have hfr8 := hst8.fr
            rw [hSe] at hfr8
            obtain ⟨gp, cpp, u0, hv2, hgp, g0, g1, gf0, gf1, S', how', hfr', hS'⟩ := pls_head hob hfr8 hst8.box.chg.size
            injection hv2 with e1 e2 e3
            subst e1 e3
            clear e2
            have hgS : gp ∉ [g, xb, rb] := hst8.ap gp (by rw [hSe]; exact List.mem_append_right _ hgp)
            simp at hgS
            have hlt8 := hst8.lt
            have hbs := hst8.base
            have hgg := (hst8.fr.2 gp (by rw [hSe]; exact List.mem_append_right _ hgp))
            have b0 := (hst8.box.lx 0 _ rfl).1
            have b1 := (hst8.box.lx 1 _ rfl).1
            have b2 := (hst8.box.lx 2 _ rfl).1
            have HS' := Lib.hid hS'
            have HSe := Lib.hid hSe
            clear hS' hSe
            go_upto_region 15 with (fail)
            have hchE : Chg [gp] w8 (((w8.setCell ⟨gp, 1, none⟩ (.int .i64 2)).setCell ⟨gp, 0, none⟩ (.slice (some ⟨w8.heap.size, 0, none⟩) 4 4)).alloc (.cells #[.int .i64 0, .int .i64 1, .int .i64 2, .int .i64 3] 3)) := Chg.alloc (by repeat' (with_reducible first | exact Chg.refl _ _ | refine qC ?_)) _
            have hst9 : CoSt w0 w g A c bs xb rb n (.slice B1b l6.length k1b) (.slice (some ⟨gp, 0, none⟩) (pl0.length + 1) k2b) l6 (([0, 1, 2, 3], 2) :: pl0) (Sa ++ S') (((w8.setCell ⟨gp, 1, none⟩ (.int .i64 2)).setCell ⟨gp, 0, none⟩ (.slice (some ⟨w8.heap.size, 0, none⟩) 4 4)).alloc (.cells #[.int .i64 0, .int .i64 1, .int .i64 2, .int .i64 3] 3)) :=
              ⟨⟨hst8.box.cur.chg hchE (by simp; omega) (by simp; omega), chg_low hst8.box.chg hchE (by simp; omega), hst8.box.lx.chg hchE (by simp; omega), hst8.box.lr.chg hchE (by simp; omega), Nat.lt_of_lt_of_le hlt8 hchE.size⟩,
               ⟨Sa, S', rfl, hoa.chg hchE (fun b hb hb' => (nodup2 hfr8.1).2.2.1 b hb (by simp at hb'; rw [hb']; exact hgp)), how'⟩, hfr', fun b hb hb' => by
                 rcases List.mem_append.1 hb with hb | hb
                 · exact hst8.ap b (by rw [HSe.out]; exact List.mem_append_left _ hb) hb'
                 · rcases HS'.out b hb with hb | hb
                   · exact hst8.ap b (by rw [HSe.out]; exact List.mem_append_right _ hb) hb'
                   · have := hst8.box.cur.lt; simp at hb'; omega, hst8.base⟩
            have HOK9 : Hid (CoOk n l6 (([0, 1, 2, 3], 2) :: pl0)) := HOKb.out.four
            clear b0 b1 b2 g0 g1 gf0 gf1 hst8 hoa hob hfr8 how' hfr' hchE hgp hgS hlt8 hgg hbs
            generalize ((w8.setCell ⟨gp, 1, none⟩ (.int .i64 2)).setCell ⟨gp, 0, none⟩ (.slice (some ⟨w8.heap.size, 0, none⟩) 4 4)).alloc (.cells #[.int .i64 0, .int .i64 1, .int .i64 2, .int .i64 3] 3) = w9 at *
            have b0 := (hst9.box.lx 0 _ rfl).1
            have b1 := (hst9.box.lx 1 _ rfl).1
            have b2 := (hst9.box.lx 2 _ rfl).1
            have r0 := (hst9.box.lr 0 _ rfl).1
            have r1 := (hst9.box.lr 1 _ rfl).1
            have r2 := (hst9.box.lr 2 _ rfl).1
            have s0 := (hst9.box.lr 0 _ rfl).2
            have s1 := (hst9.box.lr 1 _ rfl).2
            have s2 := (hst9.box.lr 2 _ rfl).2
            have hbs := hst9.base
            go_wp2_with fail
            have hch9 : Chg [rb] w9 (((w9.setCell ⟨rb, 0, none⟩ (.int .i64 n)).setCell ⟨rb, 1, none⟩ (.slice B1b l6.length k1b)).setCell ⟨rb, 2, none⟩ (.slice (some ⟨gp, 0, none⟩) (pl0.length + 1) k2b)) := by repeat' (with_reducible first | exact Chg.refl _ _ | refine qC ?_)
            refine bodyPost_ret (v := .agg #[.int .i64 n, .slice B1b l6.length k1b, .slice (some ⟨gp, 0, none⟩) (pl0.length + 1) k2b]) (by simp [results, Tryz.results126, go_sem, *]) rfl ⟨n, _, _, _, _, _, rfl, hst9.own.chg hch9 (fun b hb hb' => hst9.ap b hb (by simp at hb' ⊢; exact .inr (.inr hb'))), fresh_mono hst9.fr (Nat.le_refl _) hch9.size, HOK9.out, hst9.box.cur.chg hch9 (by simp; omega) (by simp; omega), chg_low hst9.box.chg hch9 (by simp; omega)⟩
      · have hb0 : (r == 0) = false := by simp; omega
        have hb1 : (r == 1) = false := by simp; omega
        go_wp2_with fail
        refine (l01Once_any 2 w0 _ g A c bs hst3.box.cur (by omega) (by omega)).mono ?_
        rintro e w8 ⟨b, rfl, hc8, hch8⟩
        have hst8 := hst3.draw hc8 hch8
        clear hst3 hc8 hch8
        cases b
        · skip
          have b0 := (hst8.box.lx 0 _ rfl).1
          have b1 := (hst8.box.lx 1 _ rfl).1
          have b2 := (hst8.box.lx 2 _ rfl).1
          have r0 := (hst8.box.lr 0 _ rfl).1
          have r1 := (hst8.box.lr 1 _ rfl).1
          have r2 := (hst8.box.lr 2 _ rfl).1
          have s0 := (hst8.box.lr 0 _ rfl).2
          have s1 := (hst8.box.lr 1 _ rfl).2
          have s2 := (hst8.box.lr 2 _ rfl).2
          have hbs := hst8.base
          go_wp2_with fail
          have hch9 : Chg [rb] w8 (((w8.setCell ⟨rb, 0, none⟩ (.int .i64 n)).setCell ⟨rb, 1, none⟩ (.slice Aq l.length cq)).setCell ⟨rb, 2, none⟩ (.slice Ap pl.length cp)) := by repeat' (with_reducible first | exact Chg.refl _ _ | refine qC ?_)
          refine bodyPost_ret (v := .agg #[.int .i64 n, .slice Aq l.length cq, .slice Ap pl.length cp]) (by simp [results, Tryz.results126, go_sem, *]) rfl ⟨n, _, _, _, _, _, rfl, hst8.own.chg hch9 (fun b hb hb' => hst8.ap b hb (by simp at hb' ⊢; exact .inr (.inr hb'))), fresh_mono hst8.fr (Nat.le_refl _) hch9.size, HOK.out, hst8.box.cur.chg hch9 (by simp; omega) (by simp; omega), chg_low hst8.box.chg hch9 (by simp; omega)⟩
        · skip
          cases pl with
          | nil => exact absurd HOK.out.len (by simp)
          | cons p0 pl0 =>
            obtain ⟨Sa, Sb, hSe, hoa, hob⟩ := hst8.own
            have hfr8 := hst8.fr
            rw [hSe] at hfr8
            obtain ⟨gp, cpp, u0, hv2, hgp, g0, g1, gf0, gf1, S', how', hfr', hS'⟩ := pls_head hob hfr8 hst8.box.chg.size
            injection hv2 with e1 e2 e3
            subst e1 e3
            clear e2
            have hgS : gp ∉ [g, xb, rb] := hst8.ap gp (by rw [hSe]; exact List.mem_append_right _ hgp)
            simp at hgS
            have hlt8 := hst8.lt
            have hbs := hst8.base
            have hgg := (hst8.fr.2 gp (by rw [hSe]; exact List.mem_append_right _ hgp))
            have b0 := (hst8.box.lx 0 _ rfl).1
            have b1 := (hst8.box.lx 1 _ rfl).1
            have b2 := (hst8.box.lx 2 _ rfl).1
            have HS' := Lib.hid hS'
            have HSe := Lib.hid hSe
            clear hS' hSe
            go_upto_region 15 with (fail)
            have hchE : Chg [gp] w8 (((w8.setCell ⟨gp, 1, none⟩ (.int .i64 2)).setCell ⟨gp, 0, none⟩ (.slice (some ⟨w8.heap.size, 0, none⟩) 4 4)).alloc (.cells #[.int .i64 0, .int .i64 1, .int .i64 2, .int .i64 3] 3)) := Chg.alloc (by repeat' (with_reducible first | exact Chg.refl _ _ | refine qC ?_)) _
            have hst9 : CoSt w0 w g A c bs xb rb n (.slice Aq l.length cq) (.slice (some ⟨gp, 0, none⟩) (pl0.length + 1) cp) l (([0, 1, 2, 3], 2) :: pl0) (Sa ++ S') (((w8.setCell ⟨gp, 1, none⟩ (.int .i64 2)).setCell ⟨gp, 0, none⟩ (.slice (some ⟨w8.heap.size, 0, none⟩) 4 4)).alloc (.cells #[.int .i64 0, .int .i64 1, .int .i64 2, .int .i64 3] 3)) :=
              ⟨⟨hst8.box.cur.chg hchE (by simp; omega) (by simp; omega), chg_low hst8.box.chg hchE (by simp; omega), hst8.box.lx.chg hchE (by simp; omega), hst8.box.lr.chg hchE (by simp; omega), Nat.lt_of_lt_of_le hlt8 hchE.size⟩,
               ⟨Sa, S', rfl, hoa.chg hchE (fun b hb hb' => (nodup2 hfr8.1).2.2.1 b hb (by simp at hb'; rw [hb']; exact hgp)), how'⟩, hfr', fun b hb hb' => by
                 rcases List.mem_append.1 hb with hb | hb
                 · exact hst8.ap b (by rw [HSe.out]; exact List.mem_append_left _ hb) hb'
                 · rcases HS'.out b hb with hb | hb
                   · exact hst8.ap b (by rw [HSe.out]; exact List.mem_append_right _ hb) hb'
                   · have := hst8.box.cur.lt; simp at hb'; omega, hst8.base⟩
            have HOK9 : Hid (CoOk n l (([0, 1, 2, 3], 2) :: pl0)) := HOK.out.four
            clear b0 b1 b2 g0 g1 gf0 gf1 hst8 hoa hob hfr8 how' hfr' hchE hgp hgS hlt8 hgg hbs
            generalize ((w8.setCell ⟨gp, 1, none⟩ (.int .i64 2)).setCell ⟨gp, 0, none⟩ (.slice (some ⟨w8.heap.size, 0, none⟩) 4 4)).alloc (.cells #[.int .i64 0, .int .i64 1, .int .i64 2, .int .i64 3] 3) = w9 at *
            have b0 := (hst9.box.lx 0 _ rfl).1
            have b1 := (hst9.box.lx 1 _ rfl).1
            have b2 := (hst9.box.lx 2 _ rfl).1
            have r0 := (hst9.box.lr 0 _ rfl).1
            have r1 := (hst9.box.lr 1 _ rfl).1
            have r2 := (hst9.box.lr 2 _ rfl).1
            have s0 := (hst9.box.lr 0 _ rfl).2
            have s1 := (hst9.box.lr 1 _ rfl).2
            have s2 := (hst9.box.lr 2 _ rfl).2
            have hbs := hst9.base
            go_wp2_with fail
            have hch9 : Chg [rb] w9 (((w9.setCell ⟨rb, 0, none⟩ (.int .i64 n)).setCell ⟨rb, 1, none⟩ (.slice Aq l.length cq)).setCell ⟨rb, 2, none⟩ (.slice (some ⟨gp, 0, none⟩) (pl0.length + 1) cp)) := by repeat' (with_reducible first | exact Chg.refl _ _ | refine qC ?_)
            refine bodyPost_ret (v := .agg #[.int .i64 n, .slice Aq l.length cq, .slice (some ⟨gp, 0, none⟩) (pl0.length + 1) cp]) (by simp [results, Tryz.results126, go_sem, *]) rfl ⟨n, _, _, _, _, _, rfl, hst9.own.chg hch9 (fun b hb hb' => hst9.ap b hb (by simp at hb' ⊢; exact .inr (.inr hb'))), fresh_mono hst9.fr (Nat.le_refl _) hch9.size, HOK9.out, hst9.box.cur.chg hch9 (by simp; omega) (by simp; omega), chg_low hst9.box.chg hch9 (by simp; omega)⟩
open Go.RowKit
structure ThOk (n : Nat) (m : Int) (cs : List RCross) (pl : List RPl) (ds : List Int) : Prop where
 co : CoOk n cs pl
 keeps : keepsB ds 5 = true
 days : ds.length ≤ 13
 money : 0 ≤ m ∧ m ≤ 999990
theorem ThOk.ok {n : Nat} {m : Int} {cs : List RCross} {pl : List RPl} {ds : List Int} (h : ThOk n m cs pl ds) : theatreB n m cs pl ds = true := by
 rw [theatreB, Bool.and_eq_true, Bool.and_eq_true]
 exact ⟨⟨h.co.ok, h.keeps⟩, inB_iff.2 (by have := h.money; omega)⟩
def ThPost (w0 w : World) (g : Nat) (A : Option Addr) (c : Nat) (bs : List Int) (e : Ending) (w' : World) : Prop :=
 ∃ (n : Nat) (m : Int) (cs : List RCross) (pl : List RPl) (ds : List Int) (x1 x2 x3 : Value) (S : List Nat), e = .returned (.agg #[.int .i64 n, x1, x2, x3, .int .i64 m]) ∧ OwTheatre w' S x1 x2 x3 cs pl ds ∧ Fresh w.heap.size w' S ∧ ThOk n m cs pl ds ∧ Cur w0 w' g A c bs ∧ Chg [g] w w'
def ThB (w0 w : World) (g : Nat) (A : Option Addr) (c : Nat) (bs : List Int) (e : Ending) (w' : World) : Prop :=
 ∃ (n m : Int) (cs : List RCross) (pl : List RPl) (ds : List Int) (x1 x2 x3 : Value) (S : List Nat), e = .returned (.agg #[.int .i64 n, x1, x2, x3, .int .i64 m]) ∧ OwTheatre w' S x1 x2 x3 cs pl ds ∧ Fresh w.heap.size w' S ∧ theatreB n m cs pl ds = true ∧ Cur w0 w' g A c bs ∧ Chg [g] w w'
theorem samp_ok : theatreB 3 60 [] onePl [] = true := by decide +kernel
set_option maxHeartbeats 8000000 in
set_option maxRecDepth 100000 in
theorem l38Theatre_any (w0 w : World) (g : Nat) (A : Option Addr) (c : Nat) (bs : List Int) (hcur : Cur w0 w g A c bs) :
  Calls Tryz.prog 75 #[.pointer (some ⟨g, 0, none⟩)] w (ThPost w0 w g A c bs) := by
 have hglt := hcur.lt
 have hw0 := hcur.below.size
 go_enter Tryz.func75, Tryz.ntmps75
 go_upto_region 1 with (fail)
 have lr0 : Loc (w.alloc (.cells #[.int .i64 0, .slice none 0 0, .slice none 0 0, .slice none 0 0, .int .i64 0] 37)) w.heap.size [.int .i64 0, .slice none 0 0, .slice none 0 0, .slice none 0 0, .int .i64 0] := Loc.new w #[.int .i64 0, .slice none 0 0, .slice none 0 0, .slice none 0 0, .int .i64 0] 37
 have hal0 : Below w.heap.size w (w.alloc (.cells #[.int .i64 0, .slice none 0 0, .slice none 0 0, .slice none 0 0, .int .i64 0] 37)) := (Below.refl _ _).alloc (Nat.le_refl _) _
 have hc0 := hcur.keep hal0
 have hch0 := Chg.of_below hal0 [g]
 have hzV : w.heap.size + 1 ≤ (w.alloc (.cells #[.int .i64 0, .slice none 0 0, .slice none 0 0, .slice none 0 0, .int .i64 0] 37)).heap.size := by simp
 obtain ⟨rb, hrb⟩ : ∃ rb, w.heap.size = rb := ⟨_, rfl⟩
 have hwrb : w.heap.size ≤ rb := by omega
 have hgrb : g < rb := by omega
 have hrbV : rb < (w.alloc (.cells #[.int .i64 0, .slice none 0 0, .slice none 0 0, .slice none 0 0, .int .i64 0] 37)).heap.size := by omega
 generalize w.alloc (.cells #[.int .i64 0, .slice none 0 0, .slice none 0 0, .slice none 0 0, .int .i64 0] 37) = V at *
 (try rw [hrb])
 rw [hrb] at lr0
 clear hrb hal0
 go_wp2_with fail
 refine (l37Company_any w0 V g A c bs hc0).mono ?_
 rintro e w1 ⟨n, cs, pl, x1, x2, S1, rfl, ow1, fr1, hco, hc1, hch1⟩
 obtain ⟨⟨A1, n1, rfl⟩, ⟨A2, n2, rfl⟩⟩ := ow1.rd.forms
 have HCO := Lib.hid hco
 have lr1 := lr0.chg hch1 (by simp; omega)
 have hchw1 := hch0.trans hch1
 have hz1 := hch1.size
 clear hco lr0 hch0 hch1 hc0
 go_wp2_with fail
 refine (l33Days_any w0 w1 g A c bs hc1).mono ?_
 rintro e w2 ⟨v3, days, rfl, own2, ⟨hsea, hd13⟩, hc2, hch2⟩
 obtain ⟨A3, n3, rfl, _, _⟩ := (RdS.of_own own2).form
 have ow2 := ow1.chg hch2 (fun b hb hb' => by have := (fr1.2 b hb).1; simp at hb'; omega)
 have fr2 := fresh_mono fr1 (Nat.le_refl _) hch2.size
 have lr2 := lr1.chg hch2 (by simp; omega)
 have hchw2 := hchw1.trans hch2
 have hz2 := hch2.size
 have hMS := mostShows_any (.slice A3 days.length n3) days w2 (RdS.of_own own2) hsea
 have HK : Hid (keepsB (mostL days) 5 = true ∧ (mostL days).length ≤ 13) := ⟨most_keeps hsea, Nat.le_trans (most_len hsea) hd13⟩
 generalize mostL days = ds at *
 clear own2 hsea hd13 lr1 hchw1 hch2 ow1 fr1 hc1
 go_wp2_with fail
 refine hMS.mono ?_
 rintro e w3 ⟨v4, rfl, own3, hb3⟩
 obtain ⟨A4, n4, rfl, _, _⟩ := (RdS.of_own own3).form
 have HS2 : Hid (∀ b ∈ S1, b < w2.heap.size) := fun b hb => (fr2.2 b hb).2
 have ow3 := ow2.below hb3
 have fr3 := fresh_mono fr2 (Nat.le_refl _) hb3.size
 have lr3 := lr2.below hb3
 have hchw3 := hchw2.trans (Chg.of_below hb3 _)
 have hc3 := hc2.keep hb3
 have hz3 := hb3.size
 clear hMS ow2 fr2 lr2 hchw2 hc2 hb3
 go_wp2_with fail
 refine (l01PickInt_any w3.heap.size [0, 3, 12, 100, 999990] w0 _ g A c bs (hc3.keep ((Below.refl _ _).alloc (Nat.le_refl _) _)) (by decide) (by have := hc3.lt; omega) (fun j hj => by
  rw [cell_of_row _ w3.heap.size j _ _ (0, 0) (heap_alloc_new w3 _)]
  match j, hj with
  | 0, _ => rfl
  | 1, _ => rfl
  | 2, _ => rfl
  | 3, _ => rfl
  | 4, _ => rfl
  | n + 5, h => exact absurd h (by simp))).mono ?_
 rintro e w4 ⟨m, hm, rfl, hc4, hch4⟩
 have hm2 : 0 ≤ m ∧ m ≤ 999990 := by simp at hm; omega
 have hal : Below w3.heap.size w3 (w3.alloc (.cells #[.int .i64 0, .int .i64 3, .int .i64 12, .int .i64 100, .int .i64 999990] 3)) := (Below.refl _ _).alloc (Nat.le_refl _) _
 have ow4 := (ow3.below hal).chg hch4 (fun b hb hb' => by have := (fr3.2 b hb).1; simp at hb'; omega)
 have fr4 := fresh_mono fr3 (Nat.le_refl _) (Nat.le_trans hal.size hch4.size)
 have own4 := own_chg (own_below own3 hal) hch4 (fun b hb hb' => by have := (own3.lt b (by simpa using hb)).1; simp at hb'; omega)
 have lr4 := (lr3.below hal).chg hch4 (by simp; omega)
 have hchw4 := (hchw3.trans (Chg.of_below hal _)).trans hch4
 have hz4 := Nat.le_trans hal.size hch4.size
 have hft : OwTheatre w4 _ (.slice A1 cs.length n1) (.slice A2 pl.length n2) (.slice A4 ds.length n4) cs pl ds := ⟨_, _, rfl, ow4, OwL.mk_ own4⟩
 have hff : Fresh (rb + 1) w4 (S1 ++ (Value.slice A4 ds.length n4).ownBlock.toList) := fresh_join (fresh_mono fr4 (by omega) (Nat.le_refl _)) (fresh_mono (fresh_of own4) (by omega) (Nat.le_refl _)) (fun b hb hb' => by have h1 := HS2.out b hb; have h2 := (own4.lt b (by simpa using hb')).1; omega)
 generalize S1 ++ (Value.slice A4 ds.length n4).ownBlock.toList = S at *
 clear ow3 fr3 own3 lr3 hchw3 hc3 hal ow4 fr4 own4 hch4 hm
 have r0 := (lr4 0 _ rfl).1
 have r1 := (lr4 1 _ rfl).1
 have r2 := (lr4 2 _ rfl).1
 have r3 := (lr4 3 _ rfl).1
 have r4 := (lr4 4 _ rfl).1
 have s0 := (lr4 0 _ rfl).2
 have s1 := (lr4 1 _ rfl).2
 have s2 := (lr4 2 _ rfl).2
 have s3 := (lr4 3 _ rfl).2
 have s4 := (lr4 4 _ rfl).2
 go_upto_region 2 with (fail)
 have halx : Below w4.heap.size w4 (w4.alloc (.cells #[.int .i64 n, .slice A1 cs.length n1, .slice A2 pl.length n2, .slice A4 ds.length n4, .int .i64 m] 37)) := (Below.refl _ _).alloc (Nat.le_refl _) _
 have Lx : Loc (w4.alloc (.cells #[.int .i64 n, .slice A1 cs.length n1, .slice A2 pl.length n2, .slice A4 ds.length n4, .int .i64 m] 37)) w4.heap.size [.int .i64 n, .slice A1 cs.length n1, .slice A2 pl.length n2, .slice A4 ds.length n4, .int .i64 m] := Loc.new w4 #[.int .i64 n, .slice A1 cs.length n1, .slice A2 pl.length n2, .slice A4 ds.length n4, .int .i64 m] 37
 clear r0 r1 r2 r3 r4 s0 s1 s2 s3 s4
 have lr5 := lr4.below halx
 have hft5 := hft.below halx
 have hff5 := fresh_mono hff (Nat.le_refl _) halx.size
 have hc5 := hc4.keep halx
 have hch5 := hchw4.trans (Chg.of_below halx _)
 obtain ⟨xb, hxb⟩ : ∃ xb, w4.heap.size = xb := ⟨_, rfl⟩
 rw [hxb] at Lx
 generalize w4.alloc (.cells #[.int .i64 n, .slice A1 cs.length n1, .slice A2 pl.length n2, .slice A4 ds.length n4, .int .i64 m] 37) = W at *
 (try rw [hxb])
 clear halx hxb lr4 hft hff hc4 hchw4
 have x0 := (Lx 0 _ rfl).1
 have x1 := (Lx 1 _ rfl).1
 have x2 := (Lx 2 _ rfl).1
 have x3 := (Lx 3 _ rfl).1
 have x4 := (Lx 4 _ rfl).1
 have r0 := (lr5 0 _ rfl).1
 have r1 := (lr5 1 _ rfl).1
 have r2 := (lr5 2 _ rfl).1
 have r3 := (lr5 3 _ rfl).1
 have r4 := (lr5 4 _ rfl).1
 have s0 := (lr5 0 _ rfl).2
 have s1 := (lr5 1 _ rfl).2
 have s2 := (lr5 2 _ rfl).2
 have s3 := (lr5 3 _ rfl).2
 have s4 := (lr5 4 _ rfl).2
 go_wp2_with fail
 have hch9 : Chg [rb] W (((((W.setCell ⟨rb, 0, none⟩ (.int .i64 n)).setCell ⟨rb, 1, none⟩ (.slice A1 cs.length n1)).setCell ⟨rb, 2, none⟩ (.slice A2 pl.length n2)).setCell ⟨rb, 3, none⟩ (.slice A4 ds.length n4)).setCell ⟨rb, 4, none⟩ (.int .i64 m)) := by repeat' (with_reducible first | exact Chg.refl _ _ | refine qC ?_)
 refine bodyPost_ret (v := .agg #[.int .i64 n, .slice A1 cs.length n1, .slice A2 pl.length n2, .slice A4 ds.length n4, .int .i64 m]) (by simp [results, Tryz.results75, go_sem, *]) rfl ⟨n, m, cs, pl, ds, _, _, _, S, rfl, hft5.chg hch9 (fun b hb hb' => by have := (hff5.2 b hb).1; simp at hb'; omega), fresh_mono hff5 (by omega) hch9.size, ⟨HCO.out, HK.out.1, HK.out.2, hm2⟩, hc5.chg hch9 (by simp; omega) (by simp; omega), chg_low hch5 hch9 (by simp; omega)⟩
def ActPost (w0 w : World) (g : Nat) (A : Option Addr) (c : Nat) (bs : List Int) (e : Ending) (w' : World) : Prop :=
 ∃ k a b : Int, e = .returned (.agg #[.int .i64 k, .int .i64 a, .int .i64 b]) ∧ actB k a b = true ∧ Cur w0 w' g A c bs ∧ Chg [g] w w'
theorem act_1 {a : Int} (h : 0 ≤ a ∧ a < 3) : actB 1 a 0 = true := by unfold actB; simp [inB]; omega
theorem act_2 {a b : Int} (h : 0 ≤ a ∧ a < 3) (h2 : 0 ≤ b ∧ b < 4) : actB 2 a b = true := by unfold actB; simp [inB]; omega
theorem act_3 {a : Int} (h : 0 ≤ a ∧ a < 3) : actB 3 a 0 = true := by unfold actB; simp [inB]; omega
theorem act_4 {a : Int} (h : 0 ≤ a ∧ a < 3) : actB 4 a 0 = true := by unfold actB; simp [inB]; omega
theorem act_6 {a : Int} (h : 0 ≤ a ∧ a < 12) : actB 6 a 0 = true := by unfold actB; simp [inB]; omega
set_option maxHeartbeats 8000000 in
set_option maxRecDepth 100000 in
theorem l39Act_any (w0 w : World) (g : Nat) (A : Option Addr) (c : Nat) (bs : List Int) (hcur : Cur w0 w g A c bs) :
  Calls Tryz.prog 142 #[.pointer (some ⟨g, 0, none⟩)] w (ActPost w0 w g A c bs) := by
 have hglt := hcur.lt
 have hw0 := hcur.below.size
 go_enter Tryz.func142, Tryz.ntmps142
 go_upto_region 1 with (fail)
 have lr0 : Loc (w.alloc (.cells #[.int .i64 0, .int .i64 0, .int .i64 0] 41)) w.heap.size [.int .i64 0, .int .i64 0, .int .i64 0] := Loc.new w #[.int .i64 0, .int .i64 0, .int .i64 0] 41
 have hal0 : Below w.heap.size w (w.alloc (.cells #[.int .i64 0, .int .i64 0, .int .i64 0] 41)) := (Below.refl _ _).alloc (Nat.le_refl _) _
 have hc0 := hcur.keep hal0
 have hch0 := Chg.of_below hal0 [g]
 have hlr : w.heap.size < (w.alloc (.cells #[.int .i64 0, .int .i64 0, .int .i64 0] 41)).heap.size := by simp
 obtain ⟨rb, hrb⟩ : ∃ rb, w.heap.size = rb := ⟨_, rfl⟩
 have hwrb : w.heap.size ≤ rb := by omega
 have hgrb : g < rb := by omega
 rw [hrb] at hlr
 generalize w.alloc (.cells #[.int .i64 0, .int .i64 0, .int .i64 0] 41) = V at *
 (try rw [hrb])
 rw [hrb] at lr0
 clear hrb hal0
 go_wp2_with fail
 refine (l01Below_any 9 w0 V g A c bs hc0 (by omega) (by omega)).mono ?_
 rintro e w1 ⟨r, rfl, ⟨hr0, hr1⟩, hc1, hch1⟩
 have lr1 := lr0.chg hch1 (by simp; omega)
 have hchw1 := hch0.trans hch1
 clear hc0 hch0 lr0 hch1
 have hr : r = 0 ∨ r = 1 ∨ r = 2 ∨ r = 3 ∨ r = 4 ∨ r = 5 ∨ r = 6 ∨ r = 7 ∨ r = 8 := by omega
 clear hr0 hr1
 rcases hr with rfl | rfl | rfl | rfl | rfl | rfl | rfl | rfl | rfl
 ·skip
  go_wp2_with fail
  refine (l01Below_any 3 w0 w1 g A c bs hc1 (by omega) (by omega)).mono ?_
  rintro e w2 ⟨a, rfl, ha, hc2, hch2⟩
  have lr2 := lr1.chg hch2 (by simp; omega)
  have hchw2 := hchw1.trans hch2
  have f0 := (lr2 0 _ rfl).2
  have f1 := (lr2 1 _ rfl).2
  have f2 := (lr2 2 _ rfl).2
  have r0 := (lr2 0 _ rfl).1
  have r1 := (lr2 1 _ rfl).1
  have r2 := (lr2 2 _ rfl).1
  go_wp2_with fail
  have hch9 : Chg [rb] w2 (((w2.setCell ⟨rb, 0, none⟩ (.int .i64 1)).setCell ⟨rb, 1, none⟩ (.int .i64 a)).setCell ⟨rb, 2, none⟩ (.int .i64 0)) := by repeat' (with_reducible first | exact Chg.refl _ _ | refine qC ?_)
  exact bodyPost_ret (v := .agg #[.int .i64 1, .int .i64 a, .int .i64 0]) (by simp [results, Tryz.results142, go_sem, *]) rfl ⟨1, a, 0, rfl, act_1 ha, hc2.chg hch9 (by simp; omega) (by simp; omega), chg_low hchw2 hch9 (by simp; omega)⟩
 ·skip
  go_wp2_with fail
  refine (l01Below_any 3 w0 w1 g A c bs hc1 (by omega) (by omega)).mono ?_
  rintro e w2 ⟨a, rfl, ha, hc2, hch2⟩
  have lr2 := lr1.chg hch2 (by simp; omega)
  have hchw2 := hchw1.trans hch2
  go_wp2_with fail
  refine (l01Below_any 4 w0 w2 g A c bs hc2 (by omega) (by omega)).mono ?_
  rintro e w3 ⟨b, rfl, hb, hc3, hch3⟩
  have lr3 := lr2.chg hch3 (by simp; omega)
  have hchw3 := hchw2.trans hch3
  have f0 := (lr3 0 _ rfl).2
  have f1 := (lr3 1 _ rfl).2
  have f2 := (lr3 2 _ rfl).2
  have r0 := (lr3 0 _ rfl).1
  have r1 := (lr3 1 _ rfl).1
  have r2 := (lr3 2 _ rfl).1
  go_wp2_with fail
  have hch9 : Chg [rb] w3 (((w3.setCell ⟨rb, 0, none⟩ (.int .i64 2)).setCell ⟨rb, 1, none⟩ (.int .i64 a)).setCell ⟨rb, 2, none⟩ (.int .i64 b)) := by repeat' (with_reducible first | exact Chg.refl _ _ | refine qC ?_)
  exact bodyPost_ret (v := .agg #[.int .i64 2, .int .i64 a, .int .i64 b]) (by simp [results, Tryz.results142, go_sem, *]) rfl ⟨2, a, b, rfl, act_2 ha hb, hc3.chg hch9 (by simp; omega) (by simp; omega), chg_low hchw3 hch9 (by simp; omega)⟩
 ·skip
  go_wp2_with fail
  refine (l01Below_any 3 w0 w1 g A c bs hc1 (by omega) (by omega)).mono ?_
  rintro e w2 ⟨a, rfl, ha, hc2, hch2⟩
  have lr2 := lr1.chg hch2 (by simp; omega)
  have hchw2 := hchw1.trans hch2
  go_wp2_with fail
  refine (l01Below_any 4 w0 w2 g A c bs hc2 (by omega) (by omega)).mono ?_
  rintro e w3 ⟨b, rfl, hb, hc3, hch3⟩
  have lr3 := lr2.chg hch3 (by simp; omega)
  have hchw3 := hchw2.trans hch3
  have f0 := (lr3 0 _ rfl).2
  have f1 := (lr3 1 _ rfl).2
  have f2 := (lr3 2 _ rfl).2
  have r0 := (lr3 0 _ rfl).1
  have r1 := (lr3 1 _ rfl).1
  have r2 := (lr3 2 _ rfl).1
  go_wp2_with fail
  have hch9 : Chg [rb] w3 (((w3.setCell ⟨rb, 0, none⟩ (.int .i64 2)).setCell ⟨rb, 1, none⟩ (.int .i64 a)).setCell ⟨rb, 2, none⟩ (.int .i64 b)) := by repeat' (with_reducible first | exact Chg.refl _ _ | refine qC ?_)
  exact bodyPost_ret (v := .agg #[.int .i64 2, .int .i64 a, .int .i64 b]) (by simp [results, Tryz.results142, go_sem, *]) rfl ⟨2, a, b, rfl, act_2 ha hb, hc3.chg hch9 (by simp; omega) (by simp; omega), chg_low hchw3 hch9 (by simp; omega)⟩
 ·skip
  go_wp2_with fail
  refine (l01Below_any 3 w0 w1 g A c bs hc1 (by omega) (by omega)).mono ?_
  rintro e w2 ⟨a, rfl, ha, hc2, hch2⟩
  have lr2 := lr1.chg hch2 (by simp; omega)
  have hchw2 := hchw1.trans hch2
  have f0 := (lr2 0 _ rfl).2
  have f1 := (lr2 1 _ rfl).2
  have f2 := (lr2 2 _ rfl).2
  have r0 := (lr2 0 _ rfl).1
  have r1 := (lr2 1 _ rfl).1
  have r2 := (lr2 2 _ rfl).1
  go_wp2_with fail
  have hch9 : Chg [rb] w2 (((w2.setCell ⟨rb, 0, none⟩ (.int .i64 3)).setCell ⟨rb, 1, none⟩ (.int .i64 a)).setCell ⟨rb, 2, none⟩ (.int .i64 0)) := by repeat' (with_reducible first | exact Chg.refl _ _ | refine qC ?_)
  exact bodyPost_ret (v := .agg #[.int .i64 3, .int .i64 a, .int .i64 0]) (by simp [results, Tryz.results142, go_sem, *]) rfl ⟨3, a, 0, rfl, act_3 ha, hc2.chg hch9 (by simp; omega) (by simp; omega), chg_low hchw2 hch9 (by simp; omega)⟩
 ·skip
  go_wp2_with fail
  refine (l01Below_any 3 w0 w1 g A c bs hc1 (by omega) (by omega)).mono ?_
  rintro e w2 ⟨a, rfl, ha, hc2, hch2⟩
  have lr2 := lr1.chg hch2 (by simp; omega)
  have hchw2 := hchw1.trans hch2
  have f0 := (lr2 0 _ rfl).2
  have f1 := (lr2 1 _ rfl).2
  have f2 := (lr2 2 _ rfl).2
  have r0 := (lr2 0 _ rfl).1
  have r1 := (lr2 1 _ rfl).1
  have r2 := (lr2 2 _ rfl).1
  go_wp2_with fail
  have hch9 : Chg [rb] w2 (((w2.setCell ⟨rb, 0, none⟩ (.int .i64 4)).setCell ⟨rb, 1, none⟩ (.int .i64 a)).setCell ⟨rb, 2, none⟩ (.int .i64 0)) := by repeat' (with_reducible first | exact Chg.refl _ _ | refine qC ?_)
  exact bodyPost_ret (v := .agg #[.int .i64 4, .int .i64 a, .int .i64 0]) (by simp [results, Tryz.results142, go_sem, *]) rfl ⟨4, a, 0, rfl, act_4 ha, hc2.chg hch9 (by simp; omega) (by simp; omega), chg_low hchw2 hch9 (by simp; omega)⟩
 ·skip
  have f0 := (lr1 0 _ rfl).2
  have f1 := (lr1 1 _ rfl).2
  have f2 := (lr1 2 _ rfl).2
  have r0 := (lr1 0 _ rfl).1
  have r1 := (lr1 1 _ rfl).1
  have r2 := (lr1 2 _ rfl).1
  go_wp2_with fail
  have hch9 : Chg [rb] w1 (((w1.setCell ⟨rb, 0, none⟩ (.int .i64 5)).setCell ⟨rb, 1, none⟩ (.int .i64 0)).setCell ⟨rb, 2, none⟩ (.int .i64 0)) := by repeat' (with_reducible first | exact Chg.refl _ _ | refine qC ?_)
  exact bodyPost_ret (v := .agg #[.int .i64 5, .int .i64 0, .int .i64 0]) (by simp [results, Tryz.results142, go_sem, *]) rfl ⟨5, 0, 0, rfl, by decide, hc1.chg hch9 (by simp; omega) (by simp; omega), chg_low hchw1 hch9 (by simp; omega)⟩
 ·skip
  go_wp2_with fail
  refine (l01Below_any 12 w0 w1 g A c bs hc1 (by omega) (by omega)).mono ?_
  rintro e w2 ⟨a, rfl, ha, hc2, hch2⟩
  have lr2 := lr1.chg hch2 (by simp; omega)
  have hchw2 := hchw1.trans hch2
  have f0 := (lr2 0 _ rfl).2
  have f1 := (lr2 1 _ rfl).2
  have f2 := (lr2 2 _ rfl).2
  have r0 := (lr2 0 _ rfl).1
  have r1 := (lr2 1 _ rfl).1
  have r2 := (lr2 2 _ rfl).1
  go_wp2_with fail
  have hch9 : Chg [rb] w2 (((w2.setCell ⟨rb, 0, none⟩ (.int .i64 6)).setCell ⟨rb, 1, none⟩ (.int .i64 a)).setCell ⟨rb, 2, none⟩ (.int .i64 0)) := by repeat' (with_reducible first | exact Chg.refl _ _ | refine qC ?_)
  exact bodyPost_ret (v := .agg #[.int .i64 6, .int .i64 a, .int .i64 0]) (by simp [results, Tryz.results142, go_sem, *]) rfl ⟨6, a, 0, rfl, act_6 ha, hc2.chg hch9 (by simp; omega) (by simp; omega), chg_low hchw2 hch9 (by simp; omega)⟩
 ·skip
  go_wp2_with fail
  refine (l01Below_any 12 w0 w1 g A c bs hc1 (by omega) (by omega)).mono ?_
  rintro e w2 ⟨a, rfl, ha, hc2, hch2⟩
  have lr2 := lr1.chg hch2 (by simp; omega)
  have hchw2 := hchw1.trans hch2
  have f0 := (lr2 0 _ rfl).2
  have f1 := (lr2 1 _ rfl).2
  have f2 := (lr2 2 _ rfl).2
  have r0 := (lr2 0 _ rfl).1
  have r1 := (lr2 1 _ rfl).1
  have r2 := (lr2 2 _ rfl).1
  go_wp2_with fail
  have hch9 : Chg [rb] w2 (((w2.setCell ⟨rb, 0, none⟩ (.int .i64 6)).setCell ⟨rb, 1, none⟩ (.int .i64 a)).setCell ⟨rb, 2, none⟩ (.int .i64 0)) := by repeat' (with_reducible first | exact Chg.refl _ _ | refine qC ?_)
  exact bodyPost_ret (v := .agg #[.int .i64 6, .int .i64 a, .int .i64 0]) (by simp [results, Tryz.results142, go_sem, *]) rfl ⟨6, a, 0, rfl, act_6 ha, hc2.chg hch9 (by simp; omega) (by simp; omega), chg_low hchw2 hch9 (by simp; omega)⟩
 ·skip
  have f0 := (lr1 0 _ rfl).2
  have f1 := (lr1 1 _ rfl).2
  have f2 := (lr1 2 _ rfl).2
  have r0 := (lr1 0 _ rfl).1
  have r1 := (lr1 1 _ rfl).1
  have r2 := (lr1 2 _ rfl).1
  go_wp2_with fail
  have hch9 : Chg [rb] w1 (((w1.setCell ⟨rb, 0, none⟩ (.int .i64 7)).setCell ⟨rb, 1, none⟩ (.int .i64 0)).setCell ⟨rb, 2, none⟩ (.int .i64 0)) := by repeat' (with_reducible first | exact Chg.refl _ _ | refine qC ?_)
  exact bodyPost_ret (v := .agg #[.int .i64 7, .int .i64 0, .int .i64 0]) (by simp [results, Tryz.results142, go_sem, *]) rfl ⟨7, 0, 0, rfl, by decide, hc1.chg hch9 (by simp; omega) (by simp; omega), chg_low hchw1 hch9 (by simp; omega)⟩
def ActsPost (w0 w : World) (g : Nat) (A : Option Addr) (c : Nat) (bs : List Int) (e : Ending) (w' : World) : Prop :=
 ∃ (v : Value) (l : List RAct), e = .returned v ∧ w'.ownsRow w.heap.size 41 3 v l.length (l.flatMap cAct) ∧ l.length ≤ 13 ∧ (∀ a ∈ l, actB a.1 a.2.1 a.2.2 = true) ∧ Cur w0 w' g A c bs ∧ Chg [g] w w'
set_option maxHeartbeats 4000000 in
set_option maxRecDepth 100000 in
theorem l39List_any (w0 w : World) (g : Nat) (A : Option Addr) (c : Nat) (bs : List Int) (hcur : Cur w0 w g A c bs) :
  Calls Tryz.prog 99 #[.pointer (some ⟨g, 0, none⟩)] w (ActsPost w0 w g A c bs) := by
 have hglt := hcur.lt
 have hw0 := hcur.below.size
 obtain ⟨i0, hi0, hz0, hz1, hz2⟩ := info_parts infoAct
 go_enter Tryz.func99, Tryz.ntmps99
 go_wp2_with fail
 refine (l01Below_any 14 w0 _ g A c bs (hcur.keep ((Below.refl _ _).alloc (Nat.le_refl _) _)) (by omega) (by omega)).mono ?_
 rintro e w1 ⟨r, rfl, ⟨hr0, hr1⟩, hc1, hch1⟩
 obtain ⟨n, rfl⟩ := Int.eq_ofNat_of_zero_le hr0
 have hn : n ≤ 13 := by omega
 have hown1 := own_draw (World.ownsRow_made (size := 3) (e := 41) w #[] 0 (Nat.le_refl _) (by simp [maxLen]) rfl) hch1 hglt
 have hchw1 := ((Chg.refl [g] w).alloc (.cells #[] 41)).trans hch1
 clear hr0 hr1 hch1
 go_wp2_with fail
 go_loopw [3, 5] (fun q i wr => ∃ (k : Nat) (l : List RAct), k ≤ n ∧ i = .int .i64 k ∧ Hid (l.length = k) ∧ Hid (∀ a ∈ l, actB a.1 a.2.1 a.2.2 = true) ∧ wr.ownsRow w.heap.size 41 3 q l.length (l.flatMap cAct) ∧ Cur w0 wr g A c bs ∧ Chg [g] w wr) (fun _ i _ => n - (intOf i).toNat)
 case atStart => exact ⟨0, [], Nat.zero_le _, rfl, rfl, by simp [Hid], hown1, hc1, hchw1⟩
 case round =>
  obtain ⟨k, l, hk, rfl, hll, hval, hown, hc, hch⟩ := hrel
  clear hown1 hc1 hchw1
  have hzw := hch.size
  obtain ⟨Aq, cq, rfl, _, _⟩ := (RdS.of_own hown).form
  by_cases hlt : k < n
  ·have hl13 : l.length ≤ 13 := by have := hll.out; omega
   go_wp2_with fail
   refine (l39Act_any w0 wr g A c bs hc).mono ?_
   rintro e w3 ⟨ka, aa, ba, rfl, hact, hc3, hch3⟩
   have HA := Lib.hid hact
   have hown3 := own_draw hown hch3 hglt
   have hchw3 := hch.trans hch3
   clear hown hc hch hch3 hact
   go_upto_region 7 with (fail)
   have hal : Below w3.heap.size w3 (w3.alloc (.cells #[.int .i64 ka, .int .i64 aa, .int .i64 ba] 41)) := (Below.refl _ _).alloc (Nat.le_refl _) _
   have Lb : Loc (w3.alloc (.cells #[.int .i64 ka, .int .i64 aa, .int .i64 ba] 41)) w3.heap.size [.int .i64 ka, .int .i64 aa, .int .i64 ba] := Loc.new w3 #[.int .i64 ka, .int .i64 aa, .int .i64 ba] 41
   have hown5 := own_below hown3 hal
   have hc5 := hc3.keep hal
   have hch5 := hchw3.trans (Chg.of_below hal _)
   obtain ⟨gb, hgb⟩ : ∃ b, w3.heap.size = b := ⟨_, rfl⟩
   rw [hgb] at Lb
   generalize w3.alloc (.cells #[.int .i64 ka, .int .i64 aa, .int .i64 ba] 41) = W at *
   (try rw [hgb])
   clear hal hgb hown3 hc3 hchw3
   have k0 := (Lb 0 _ rfl).1
   have k1 := (Lb 1 _ rfl).1
   have k2 := (Lb 2 _ rfl).1
   have hz5 := hch5.size
   go_wp2_with (at_builtin; go_must (refine wpList_appendR _ rfl (.tmp 17) (.tmp 19) _ rfl w.heap.size 41 i0 _ 3 24 Tryz.underlying50 hi0 hz0 hz1 hz2 rfl (by omega) _ l.length (l.flatMap cAct) rfl (hown5.alloc _) _ 1 [.int .i64 ka, .int .i64 aa, .int .i64 ba] rfl (rdS_new W #[.int .i64 ka, .int .i64 aa, .int .i64 ba] _ 3 1 rfl (by simp [maxLen])) (by simp [Value.oneCell']) (by simp [maxLen]; omega) (by omega) (by simp; omega) ?_); intro v9 w9 hown9 hgr9)
   have hch9 := chg_of_own (hch5.alloc (.cells #[.int .i64 ka, .int .i64 aa, .int .i64 ba] 41)) (hown5.alloc _) hgr9
   have hc9 := cur_own (hc5.keep ((Below.refl _ _).alloc (Nat.le_refl _) (.cells #[.int .i64 ka, .int .i64 aa, .int .i64 ba] 41))) (hown5.alloc _) hgr9 hglt hw0
   go_wp2_with fail
   go_roundw
   case rel =>
    refine ⟨k + 1, l ++ [(ka, aa, ba)], by omega, by go_num, by show _ = _; rw [List.length_append, hll.out]; rfl, ?_, by rw [List.length_append, List.flatMap_append]; exact hown9, hc9, hch9⟩
    intro a ha
    rcases List.mem_append.1 ha with h | h
    ·exact hval.out a h
    ·simp at h; subst h; exact HA.out
   case measure => simp [intOf]; omega
  ·obtain rfl : k = n := by omega
   go_wp2_with fail
   go_ret
   exact ⟨_, l, rfl, hown, by have := hll.out; omega, hval.out, hc, hch⟩
set_option maxHeartbeats 8000000 in
set_option maxRecDepth 100000 in
theorem l39Theatre_any (w0 w : World) (g : Nat) (A : Option Addr) (c : Nat) (bs : List Int) (hcur : Cur w0 w g A c bs) :
  Calls Tryz.prog 98 #[.pointer (some ⟨g, 0, none⟩)] w (ThB w0 w g A c bs) := by
 have hglt := hcur.lt
 have hw0 := hcur.below.size
 go_enter Tryz.func98, Tryz.ntmps98
 go_upto_region 1 with (fail)
 have lr0 : Loc (w.alloc (.cells #[.int .i64 0, .slice none 0 0, .slice none 0 0, .slice none 0 0, .int .i64 0] 37)) w.heap.size [.int .i64 0, .slice none 0 0, .slice none 0 0, .slice none 0 0, .int .i64 0] := Loc.new w #[.int .i64 0, .slice none 0 0, .slice none 0 0, .slice none 0 0, .int .i64 0] 37
 have hal0 : Below w.heap.size w (w.alloc (.cells #[.int .i64 0, .slice none 0 0, .slice none 0 0, .slice none 0 0, .int .i64 0] 37)) := (Below.refl _ _).alloc (Nat.le_refl _) _
 have hc0 := hcur.keep hal0
 have hch0 := Chg.of_below hal0 [g]
 have hlr : w.heap.size + 1 ≤ (w.alloc (.cells #[.int .i64 0, .slice none 0 0, .slice none 0 0, .slice none 0 0, .int .i64 0] 37)).heap.size := by simp
 obtain ⟨rb, hrb⟩ : ∃ rb, w.heap.size = rb := ⟨_, rfl⟩
 have hwrb : w.heap.size ≤ rb := by omega
 have hgrb : g < rb := by omega
 rw [hrb] at hlr
 generalize w.alloc (.cells #[.int .i64 0, .slice none 0 0, .slice none 0 0, .slice none 0 0, .int .i64 0] 37) = V at *
 (try rw [hrb])
 rw [hrb] at lr0
 clear hrb hal0
 go_wp2_with fail
 refine (l01Once_any 2 w0 V g A c bs hc0 (by omega) (by omega)).mono ?_
 rintro e w1 ⟨b, rfl, hc1, hch1⟩
 have lr1 := lr0.chg hch1 (by simp; omega)
 have hchw1 := hch0.trans hch1
 have hz1 := hch1.size
 clear hc0 hch0 lr0 hch1
 cases b
 ·go_wp2_with fail
  refine (l38Theatre_any w0 w1 g A c bs hc1).mono ?_
  rintro e w2 ⟨n, m, cs, pl, ds, x1, x2, x3, S, rfl, ow, fr, hth, hc2, hch2⟩
  obtain ⟨⟨A1, n1, rfl⟩, ⟨A2, n2, rfl⟩, ⟨A3, n3, rfl⟩⟩ := ow.rd.forms
  have HT := Lib.hid hth.ok
  have lr2 := lr1.chg hch2 (by simp; omega)
  have hchw2 := hchw1.trans hch2
  clear hth lr1 hchw1 hch2 hc1
  have r0 := (lr2 0 _ rfl).1
  have r1 := (lr2 1 _ rfl).1
  have r2 := (lr2 2 _ rfl).1
  have r3 := (lr2 3 _ rfl).1
  have r4 := (lr2 4 _ rfl).1
  have s0 := (lr2 0 _ rfl).2
  have s1 := (lr2 1 _ rfl).2
  have s2 := (lr2 2 _ rfl).2
  have s3 := (lr2 3 _ rfl).2
  have s4 := (lr2 4 _ rfl).2
  go_wp2_with fail
  have hch9 : Chg [rb] w2 (((((w2.setCell ⟨rb, 0, none⟩ (.int .i64 n)).setCell ⟨rb, 1, none⟩ (.slice A1 cs.length n1)).setCell ⟨rb, 2, none⟩ (.slice A2 pl.length n2)).setCell ⟨rb, 3, none⟩ (.slice A3 ds.length n3)).setCell ⟨rb, 4, none⟩ (.int .i64 m)) := by repeat' (with_reducible first | exact Chg.refl _ _ | refine qC ?_)
  exact bodyPost_ret (v := .agg #[.int .i64 n, .slice A1 cs.length n1, .slice A2 pl.length n2, .slice A3 ds.length n3, .int .i64 m]) (by simp [results, Tryz.results98, go_sem, *]) rfl ⟨n, m, _, _, _, _, _, _, _, rfl, ow.chg hch9 (fun b hb hb' => by have := (fr.2 b hb).1; simp at hb'; omega), fresh_mono fr (by omega) hch9.size, HT.out, hc2.chg hch9 (by simp; omega) (by simp; omega), chg_low hchw2 hch9 (by simp; omega)⟩
 ·go_wp2_with fail
  refine (specSampleTheatre_any w1).mono ?_
  rintro e w2 ⟨x1, x2, x3, S, rfl, ow, fr, hb2⟩
  obtain ⟨⟨A1, n1, rfl⟩, ⟨A2, n2, rfl⟩, ⟨A3, n3, rfl⟩⟩ := ow.rd.forms
  have HT := Lib.hid samp_ok
  have lr2 := lr1.below hb2
  have hchw2 := hchw1.trans (Chg.of_below hb2 _)
  have hc2 := hc1.keep hb2
  have he0 : ([] : List RCross).length = 0 := rfl
  have he1 : ([] : List Int).length = 0 := rfl
  generalize onePl = opl at *
  generalize ([] : List RCross) = ecs at *
  generalize ([] : List Int) = eds at *
  clear lr1 hchw1 hb2 hc1 he0 he1
  have r0 := (lr2 0 _ rfl).1
  have r1 := (lr2 1 _ rfl).1
  have r2 := (lr2 2 _ rfl).1
  have r3 := (lr2 3 _ rfl).1
  have r4 := (lr2 4 _ rfl).1
  have s0 := (lr2 0 _ rfl).2
  have s1 := (lr2 1 _ rfl).2
  have s2 := (lr2 2 _ rfl).2
  have s3 := (lr2 3 _ rfl).2
  have s4 := (lr2 4 _ rfl).2
  go_wp2_with fail
  have hch9 : Chg [rb] w2 (((((w2.setCell ⟨rb, 0, none⟩ (.int .i64 3)).setCell ⟨rb, 1, none⟩ (.slice A1 ecs.length n1)).setCell ⟨rb, 2, none⟩ (.slice A2 opl.length n2)).setCell ⟨rb, 3, none⟩ (.slice A3 eds.length n3)).setCell ⟨rb, 4, none⟩ (.int .i64 60)) := by repeat' (with_reducible first | exact Chg.refl _ _ | refine qC ?_)
  exact bodyPost_ret (v := .agg #[.int .i64 3, .slice A1 ecs.length n1, .slice A2 opl.length n2, .slice A3 eds.length n3, .int .i64 60]) (by simp [results, Tryz.results98, go_sem, *]) rfl ⟨3, 60, _, _, _, _, _, _, _, rfl, ow.chg hch9 (fun b hb hb' => by have := (fr.2 b hb).1; simp at hb'; omega), fresh_mono fr (by omega) hch9.size, HT.out, hc2.chg hch9 (by simp; omega) (by simp; omega), chg_low hchw2 hch9 (by simp; omega)⟩
open Go.RowKit
def DrawnActs (w : World) (e : Ending) (w' : World) : Prop :=
 ∃ (n m : Int) (cs : List RCross) (pl : List RPl) (ds : List Int) (x1 x2 x3 v : Value) (acts : List RAct), e = .returned (.tuple #[.agg #[.int .i64 n, x1, x2, x3, .int .i64 m], v]) ∧ RdTheatre w' x1 x2 x3 cs pl ds ∧ RdL cAct 3 w' v acts ∧ theatreB n m cs pl ds = true ∧ acts.length ≤ 13 ∧ (∀ a ∈ acts, actB a.1 a.2.1 a.2.2 = true) ∧ Below w.heap.size w w'
theorem act13da {a : Act} (h : a.tmps.size = 13) (hd : a.defers = []) : ∃ x0 x1 x2 x3 x4 x5 x6 x7 x8 x9 x10 x11 x12 : Value, a = ⟨#[x0, x1, x2, x3, x4, x5, x6, x7, x8, x9, x10, x11, x12], []⟩ := by
 obtain ⟨⟨l⟩, d⟩ := a
 subst hd
 match l, h with
 | [x0, x1, x2, x3, x4, x5, x6, x7, x8, x9, x10, x11, x12], _ => exact ⟨x0, x1, x2, x3, x4, x5, x6, x7, x8, x9, x10, x11, x12, rfl⟩
def rdaP (n m : Int) (A1 A2 A3 : Option Addr) (cl pln dl n1 n2 n3 g gt : Nat) (i : Nat) (v : Value) (_ : Nat → Nat) (w : World) : Prop :=
 match i with
 | 0 => v = .agg #[.int .i64 n, .slice A1 cl n1, .slice A2 pln n2, .slice A3 dl n3, .int .i64 m]
 | 1 => v = .pointer (some ⟨g, 0, none⟩)
 | 2 => ∃ (A5 : Option Addr) (n5 : Nat) (acts : List RAct), v = .slice A5 acts.length n5 ∧ w.ownsRow gt 41 3 (.slice A5 acts.length n5) acts.length (acts.flatMap cAct) ∧ acts.length ≤ 13 ∧ ∀ a ∈ acts, actB a.1 a.2.1 a.2.2 = true
 | _ => True
def rdaNeed (k : Nat) : List Nat := if k = 2 then [1] else []
def rdaBef (k : Nat) : List Nat := if k = 2 then [1] else []
def rdaR (k : Nat) (_ : Nat → Nat) (w w' : World) : Prop := k = 2 ∨  Below w.heap.size w w'
set_option maxHeartbeats 8000000 in
set_option maxRecDepth 100000 in
theorem drawActs_any (A : Option Addr) (c : Nat) (bs : List Int) (w : World) (h : RdL cU8 1 w (.slice A bs.length c) bs) (hby : ∀ x ∈ bs, 0 ≤ x ∧ x ≤ 255) (hlen : bs.length ≤ 1048576) :
  Calls Tryz.prog 48 #[.slice A bs.length c] w (DrawnActs w) := by
 go_enter Tryz.func48, Tryz.ntmps48
 go_upto_region 1 with (fail)
 have lr0 : Loc (w.alloc (.cells #[.int .i64 0, .slice none 0 0, .slice none 0 0, .slice none 0 0, .int .i64 0] 37)) w.heap.size [.int .i64 0, .slice none 0 0, .slice none 0 0, .slice none 0 0, .int .i64 0] := Loc.new w #[.int .i64 0, .slice none 0 0, .slice none 0 0, .slice none 0 0, .int .i64 0] 37
 have hal0 : Below w.heap.size w (w.alloc (.cells #[.int .i64 0, .slice none 0 0, .slice none 0 0, .slice none 0 0, .int .i64 0] 37)) := (Below.refl _ _).alloc (Nat.le_refl _) _
 have hlr : w.heap.size + 1 ≤ (w.alloc (.cells #[.int .i64 0, .slice none 0 0, .slice none 0 0, .slice none 0 0, .int .i64 0] 37)).heap.size := by simp
 obtain ⟨rb, hrb⟩ : ∃ rb, w.heap.size = rb := ⟨_, rfl⟩
 have hwrb : w.heap.size ≤ rb := by omega
 rw [hrb] at hlr
 have hV := h.below hal0
 generalize w.alloc (.cells #[.int .i64 0, .slice none 0 0, .slice none 0 0, .slice none 0 0, .int .i64 0] 37) = V at *
 (try rw [hrb])
 rw [hrb] at lr0
 clear hrb
 go_wp2_with fail
 refine (l01New_any A c bs V hV hby hlen).mono ?_
 rintro e w1 ⟨g, rfl, hc1⟩
 have hgV := hc1.base
 have lr1 := lr0.below hc1.below
 go_wp2_with fail
 refine (l39Theatre_any V w1 g A c bs hc1).mono ?_
 rintro e w2 ⟨n, m, cs, pl, ds, x1, x2, x3, S, rfl, ow, fr, hth, hc2, hch2⟩
 obtain ⟨⟨A1, n1, rfl⟩, ⟨A2, n2, rfl⟩, ⟨A3, n3, rfl⟩⟩ := ow.rd.forms
 have lr2 := lr1.chg hch2 (by simp; omega)
 have HT := Lib.hid hth
 have hz1 := hc1.below.size
 have hg1 := hc1.lt
 have hb2 : Below w.heap.size w w2 := bl_trans hal0 hc2.below
 have hz2 := hch2.size
 clear hth lr0 lr1 hc1
 go_upto_region 3 with (fail)
 have halx : Below w2.heap.size w2 (w2.alloc (.cells #[.int .i64 n, .slice A1 cs.length n1, .slice A2 pl.length n2, .slice A3 ds.length n3, .int .i64 m] 37)) := (Below.refl _ _).alloc (Nat.le_refl _) _
 have Lt : Loc (w2.alloc (.cells #[.int .i64 n, .slice A1 cs.length n1, .slice A2 pl.length n2, .slice A3 ds.length n3, .int .i64 m] 37)) w2.heap.size [.int .i64 n, .slice A1 cs.length n1, .slice A2 pl.length n2, .slice A3 ds.length n3, .int .i64 m] := Loc.new w2 #[.int .i64 n, .slice A1 cs.length n1, .slice A2 pl.length n2, .slice A3 ds.length n3, .int .i64 m] 37
 have lr3 := lr2.below halx
 have ow3 := ow.below halx
 have hc3 := hc2.keep halx
 have hb3 : Below w.heap.size w (w2.alloc (.cells #[.int .i64 n, .slice A1 cs.length n1, .slice A2 pl.length n2, .slice A3 ds.length n3, .int .i64 m] 37)) := bl_trans hb2 halx
 obtain ⟨gt, hgt⟩ : ∃ b, w2.heap.size = b := ⟨_, rfl⟩
 have hgtlt : g < gt := by omega
 have hrbgt : rb < gt := by omega
 have hSgt : Hid (∀ b ∈ S, w1.heap.size ≤ b ∧ b < gt) := fun b hb => by have := fr.2 b hb; omega
 rw [hgt] at Lt
 have hlt3 : gt < (w2.alloc (.cells #[.int .i64 n, .slice A1 cs.length n1, .slice A2 pl.length n2, .slice A3 ds.length n3, .int .i64 m] 37)).heap.size := by simp; omega
 generalize w2.alloc (.cells #[.int .i64 n, .slice A1 cs.length n1, .slice A2 pl.length n2, .slice A3 ds.length n3, .int .i64 m] 37) = W at *
 (try rw [hgt])
 clear halx lr2 ow hc2 hb2 hgt
 have t0 := (Lt 0 _ rfl).1
 have t1 := (Lt 1 _ rfl).1
 have t2 := (Lt 2 _ rfl).1
 have t3 := (Lt 3 _ rfl).1
 have t4 := (Lt 4 _ rfl).1
 have HSg : Hid (∀ b ∈ S, b ≠ g ∧ b ≠ rb) := fun b hb => by have := hSgt.out b hb; omega
 clear t0 t1 t2 t3 t4
 go_upto_region 3 with (fail)
 have hdr : Below W.heap.size W W.drew := (Below.refl _ _).drew
 refine region_state (n := 13) 3 (by kernel_rfl) rfl (by kernel_rfl) rdaBef rdaNeed [0, 2] (by kernel_rfl) rdaR (fun (_ : Nat → Bool) (W : World) => Cur V W g A c bs ∧ Loc W gt [.int .i64 n, .slice A1 cs.length n1, .slice A2 pl.length n2, .slice A3 ds.length n3, .int .i64 m] ∧ Loc W rb [.int .i64 0, .slice none 0 0, .slice none 0 0, .slice none 0 0, .int .i64 0] ∧ OwTheatre W S (.slice A1 cs.length n1) (.slice A2 pl.length n2) (.slice A3 ds.length n3) cs pl ds ∧ Below w.heap.size w W ∧ gt < W.heap.size) (fun _ => 0) (rdaP n m A1 A2 A3 cs.length pl.length ds.length n1 n2 n3 g gt) (⟨hc3.keep hdr, Lt.below hdr, lr3.below hdr, ow3.below hdr, bl_trans hb3 hdr, by have := hdr.size; omega⟩) ?_ ?_ ?_
 ·intro i k v gh gh' w1 w2 hal hp hJ hR hg
  match i, hp, hal with
  | 0, hp, _ => exact hp
  | 1, hp, _ => exact hp
  | 2, ho, hal =>
   rcases hR with rfl | hb
   ·exact absurd hal (by decide)
   ·obtain ⟨A5, n5, acts, h1, h2, h3⟩ := ho; exact ⟨A5, n5, acts, h1, own_below h2 hb, h3⟩
  | _ + 3, _, _ => trivial
 ·refine ⟨?_, ?_, ?_, trivial⟩
  all_goals
   intro a gh wr d hag hdi hcl hJ hd
   obtain ⟨x0, x1, x2, x3, x4, x5, x6, x7, x8, x9, x10, x11, x12, rfl⟩ := act13da hag.size hag.defers
   have ag4 : x4 = .pointer (some ⟨g, 0, none⟩) := hag.kept 4 (by kernel_rfl)
   have ag5 : x5 = .pointer (some ⟨gt, 0, none⟩) := hag.kept 5 (by kernel_rfl)
   clear hag
   subst ag4 ag5
  ·have t0 := (hJ.2.1 0 _ rfl).1
   have t1 := (hJ.2.1 1 _ rfl).1
   have t2 := (hJ.2.1 2 _ rfl).1
   have t3 := (hJ.2.1 3 _ rfl).1
   have t4 := (hJ.2.1 4 _ rfl).1
   go_wp2_with fail
   exact ⟨rfl, _, rfl, rfl, hJ, .inr (Below.refl _ _)⟩
  ·go_wp2_with fail
   exact ⟨rfl, _, rfl, rfl, hJ, .inr (Below.refl _ _)⟩
  ·have e1 : x11 = .pointer (some ⟨g, 0, none⟩) := hd 1 (by kernel_rfl) _ rfl
   subst e1
   obtain ⟨hJ1, hJ2, hJ3, hJ4, hJ5, hJ6⟩ := hJ
   go_wp2_with fail
   refine (l39List_any V wr g A c bs hJ1).mono ?_
   rintro e w5 ⟨va, acts, rfl, owna, hal13, hacts, hc5, hch5⟩
   obtain ⟨A5, n5, rfl, _, _⟩ := (RdS.of_own owna).form
   have hz5 := hch5.size
   go_wp2_with fail
   exact ⟨rfl, _, rfl, ⟨A5, n5, acts, rfl, own_mono owna (by omega), hal13, hacts⟩, ⟨hc5, hJ2.chg hch5 (by simp; omega), hJ3.chg hch5 (by simp; omega), hJ4.chg hch5 (fun b hb hb' => by have := (HSg.out b hb); simp at hb'; omega), Below.chg hJ5 hch5 hJ5.size (by simp; omega), by omega⟩, .inl rfl⟩
 ·intro a gh wr d hag hall hJ hd
  obtain ⟨x0, x1, x2, x3, x4, x5, x6, x7, x8, x9, x10, x11, x12, rfl⟩ := act13da hag.size hag.defers
  have ag2 : x2 = .pointer (some ⟨rb, 0, none⟩) := hag.kept 2 (by kernel_rfl)
  have ag4 : x4 = .pointer (some ⟨g, 0, none⟩) := hag.kept 4 (by kernel_rfl)
  have ag5 : x5 = .pointer (some ⟨gt, 0, none⟩) := hag.kept 5 (by kernel_rfl)
  clear hag
  subst ag2 ag4 ag5
  have e0 : x10 = .agg #[.int .i64 n, .slice A1 cs.length n1, .slice A2 pl.length n2, .slice A3 ds.length n3, .int .i64 m] := hd 0 (by kernel_rfl) _ rfl
  obtain ⟨A5, n5, acts, e2, hra, h13, hacts⟩ : ∃ (A5 : Option Addr) (n5 : Nat) (acts : List RAct), x12 = .slice A5 acts.length n5 ∧ wr.ownsRow gt 41 3 (.slice A5 acts.length n5) acts.length (acts.flatMap cAct) ∧ acts.length ≤ 13 ∧ ∀ a ∈ acts, actB a.1 a.2.1 a.2.2 = true := hd 2 (by kernel_rfl) _ rfl
  subst e0 e2
  obtain ⟨hJ1, hJ2, hJ3, hJ4, hJ5, hJ6⟩ := hJ
  have HACT := Lib.hid hacts
  have HRA := Lib.hid hra
  clear hd hall hacts hra
  have r0 := (hJ3 0 _ rfl).1
  have r1 := (hJ3 1 _ rfl).1
  have r2 := (hJ3 2 _ rfl).1
  have r3 := (hJ3 3 _ rfl).1
  have r4 := (hJ3 4 _ rfl).1
  have s0 := (hJ3 0 _ rfl).2
  have s1 := (hJ3 1 _ rfl).2
  have s2 := (hJ3 2 _ rfl).2
  have s3 := (hJ3 3 _ rfl).2
  have s4 := (hJ3 4 _ rfl).2
  change wpList _ _ _ [_, _] _ _
  go_wp2_with fail
  have hch9 : Chg [rb] wr (((((wr.setCell ⟨rb, 0, none⟩ (.int .i64 n)).setCell ⟨rb, 1, none⟩ (.slice A1 cs.length n1)).setCell ⟨rb, 2, none⟩ (.slice A2 pl.length n2)).setCell ⟨rb, 3, none⟩ (.slice A3 ds.length n3)).setCell ⟨rb, 4, none⟩ (.int .i64 m)) := by repeat' (with_reducible first | exact Chg.refl _ _ | refine qC ?_)
  exact bodyPost_ret (v := .tuple #[.agg #[.int .i64 n, .slice A1 cs.length n1, .slice A2 pl.length n2, .slice A3 ds.length n3, .int .i64 m], .slice A5 acts.length n5]) (by simp [results, Tryz.results48, go_sem, *]) rfl ⟨n, m, cs, pl, ds, _, _, _, _, acts, rfl, (hJ4.chg hch9 (fun b hb hb' => by have := HSg.out b hb; simp at hb'; omega)).rd, RdS.of_own (own_chg HRA.out hch9 (fun b hb hb' => by have := (HRA.out.lt b (by simpa using hb)).1; simp at hb'; omega)), HT.out, h13, HACT.out, Below.chg hJ5 hch9 hJ5.size (by simp; omega)⟩
end Go.Proofs.YtlhdeojkpmpecaaGreat
