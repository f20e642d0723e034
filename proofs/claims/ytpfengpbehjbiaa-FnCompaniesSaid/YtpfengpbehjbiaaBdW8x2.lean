/- Several texts in one: The drawing of companies. Written by a program (gen_w8.py). Plain laws of drawn companies: home, untwisted, cast; crossings taken back; tidied. No program in sight. -/
import Derived.Deep.DeepCutAuto
import Derived.Test.YtpfengpbehjbiaaBdK7x15
import Derived.Test.YtpfengpbehjbiaaBdY7x9
import Derived.Test.YtpfengpbehjbiaaBdK1x7
namespace Go.Proofs.Ytpfengpbehjbiaa
open Go.RowKit
theorem row_full {e : TypeId} {size : Nat} (w : World) (cs : Array Value) (n : Nat) (hs : cs.size = n * size) (hm : n ≤ maxLen) : (w.alloc (.cells cs e)).ownsRow w.heap.size e size (.slice (some ⟨w.heap.size, 0, none⟩) n n) n cs.toList :=
  ⟨by simpa using hs, .inr ⟨w.heap.size, n, cs, rfl, Nat.le_refl _, heap_alloc_new w _, Nat.le_refl _, hm, hs, by rw [← hs]; exact List.take_of_length_le (Nat.le_of_eq (by simp))⟩⟩
theorem with_co {n : Int} {cs l : List RCross} {pl : List RPl} (h : withB n cs pl l = true) : companyB n (withC n cs pl l) pl = true := by
  rw [withC, if_pos h]
  rw [withB, Bool.and_eq_true] at h
  exact h.2
theorem unt_co {n : Int} {cs : List RCross} {pl : List RPl} (h : untB n cs pl = true) : companyB n (untC n cs pl) pl = true := by
  rw [untC, if_pos h]
  rw [untB, Bool.and_eq_true] at h
  have := with_co h.2
  rwa [withC, if_pos h.2] at this
structure CoOk (n : Nat) (cs : List RCross) (pl : List RPl) : Prop where
  ok : companyB (n : Int) cs pl = true
  n2 : 2 ≤ n ∧ n ≤ 4
  len : 1 ≤ pl.length ∧ pl.length ≤ 5
  knows : ∀ r ∈ pl, strictB r.1 0 5 = true
theorem strict_up {l : List Int} {a b b' : Int} (h : strictB l a b = true) (hb : b ≤ b') : strictB l a b' = true := by
  rw [strictB, Bool.and_eq_true] at h ⊢
  exact ⟨h.1, List.all_eq_true.2 (fun x hx => inB_iff.2 (by have := inB_iff.1 (List.all_eq_true.1 h.2 x hx); omega))⟩
theorem pls_of_draw {pl : List RPl} (h : ∀ r ∈ pl, PlD r) (hl : 1 ≤ pl.length ∧ pl.length ≤ 5) : playersB pl = true := by
  rw [playersB, Bool.and_eq_true]
  refine ⟨List.all_eq_true.2 (fun r hr => ?_), inB_iff.2 (by omega)⟩
  obtain ⟨h1, h2⟩ := h r hr
  exact playerB_t (strict_up h1 (by omega)) (inB_iff.2 h2)
theorem CoOk.start {n : Nat} {cs : List RCross} {pl : List RPl} (hn : 2 ≤ n ∧ n ≤ 4) (hl : cs.length ≤ 9) (hc : ∀ t ∈ cs, 0 ≤ t.1 ∧ t.1 ≤ (n : Int) - 2) (hp : ∀ r ∈ pl, PlD r) (hpl : 1 ≤ pl.length ∧ pl.length ≤ 5) : CoOk n cs pl := by
  refine ⟨?_, hn, hpl, fun r hr => (hp r hr).1⟩
  rw [companyB, Bool.and_eq_true]
  exact ⟨crosses_t (inB_iff.2 (by omega)) (by omega) (List.all_eq_true.2 (fun t ht => inB_iff.2 (hc t ht))), pls_of_draw hp hpl⟩
theorem CoOk.go {n : Nat} {cs : List RCross} {pl : List RPl} (h : CoOk n cs pl) : CoOk n (goC n cs pl) pl := by
  refine ⟨?_, h.n2, h.len, h.knows⟩
  by_cases hb : withB n cs pl (homeL (n : Int) cs) = true
  · exact with_co hb
  · have : goC (n : Int) cs pl = cs := by unfold goC withC; rw [if_neg hb]
    rw [this]; exact h.ok
theorem CoOk.unt {n : Nat} {cs : List RCross} {pl : List RPl} (h : CoOk n cs pl) : CoOk n (untC n cs pl) pl := by
  refine ⟨?_, h.n2, h.len, h.knows⟩
  by_cases hb : untB (n : Int) cs pl = true
  · exact unt_co hb
  · have : untC (n : Int) cs pl = cs := by unfold untC; rw [if_neg hb]
    rw [this]; exact h.ok
theorem CoOk.four {n : Nat} {cs : List RCross} {r : RPl} {pl : List RPl} (h : CoOk n cs (r :: pl)) : CoOk n cs (([0, 1, 2, 3], 2) :: pl) := by
  have hok := h.ok
  rw [companyB, Bool.and_eq_true, playersB, Bool.and_eq_true, List.all_cons, Bool.and_eq_true] at hok
  refine ⟨?_, h.n2, by simpa using h.len, fun x hx => ?_⟩
  · rw [companyB, Bool.and_eq_true, playersB, Bool.and_eq_true, List.all_cons, Bool.and_eq_true]
    exact ⟨hok.1, ⟨by decide +kernel, hok.2.1.2⟩, by simpa using hok.2.2⟩
  · rcases List.mem_cons.1 hx with rfl | hx
    · decide +kernel
    · exact h.knows x (List.mem_cons_of_mem _ hx)
structure CoSt (w0 w : World) (g : Nat) (A : Option Addr) (c : Nat) (bs : List Int) (xb rb n : Nat) (x1 x2 : Value) (cs : List RCross) (pl : List RPl) (S : List Nat) (W : World) : Prop where
  box : BoxC w0 w g A c bs xb rb [.int .i64 n, x1, x2] [.int .i64 0, .slice none 0 0, .slice none 0 0] W
  own : OwCompany W S x1 x2 cs pl
  fr : Fresh w.heap.size W S
  ap : ∀ b ∈ S, b ∉ [g, xb, rb]
  base : (g < w.heap.size ∧ w.heap.size ≤ xb) ∧ (w.heap.size ≤ rb ∧ rb < xb) ∧ w0.heap.size ≤ w.heap.size
def CompanyPost (w0 w : World) (g : Nat) (A : Option Addr) (c : Nat) (bs : List Int) (e : Ending) (w' : World) : Prop :=
  ∃ (n : Nat) (cs : List RCross) (pl : List RPl) (x1 x2 : Value) (S : List Nat), e = .returned (.agg #[.int .i64 n, x1, x2]) ∧ OwCompany w' S x1 x2 cs pl ∧ Fresh w.heap.size w' S ∧ CoOk n cs pl ∧ Cur w0 w' g A c bs ∧ Chg [g] w w'
section
variable {w0 w W W' : World} {g : Nat} {A : Option Addr} {c : Nat} {bs : List Int} {xb rb n : Nat} {x1 x2 y1 y2 : Value} {cs cs' : List RCross} {pl pl' : List RPl} {S S' : List Nat}
theorem CoSt.draw (h : CoSt w0 w g A c bs xb rb n x1 x2 cs pl S W) (hc : Cur w0 W' g A c bs) (hch : Chg [g] W W') : CoSt w0 w g A c bs xb rb n x1 x2 cs pl S W' :=
  ⟨h.box.draw hc hch (by have := h.base; omega) (by have := h.base; omega), h.own.chg hch (fun b hb hb' => h.ap b hb (by simp at hb' ⊢; exact .inl hb')), fresh_mono h.fr (Nat.le_refl _) hch.size, h.ap, h.base⟩
theorem CoSt.lt (h : CoSt w0 w g A c bs xb rb n x1 x2 cs pl S W) : xb < W.heap.size := h.box.sz
theorem CoSt.next (h : CoSt w0 w g A c bs xb rb n x1 x2 cs pl S W) (hb : Below W.heap.size W W') (ho : OwCompany W' S' y1 y2 cs' pl') (hf : Fresh W.heap.size W' S') :
    CoSt w0 w g A c bs xb rb n y1 y2 cs' pl' S' (((W'.setCell ⟨xb, 0, none⟩ (.int .i64 n)).setCell ⟨xb, 1, none⟩ y1).setCell ⟨xb, 2, none⟩ y2) := by
  have hl := h.lt
  have hbs := h.base
  have hsz := h.box.chg.size
  have hgl := h.box.cur.lt
  have hrl : rb < W.heap.size := by omega
  have h1 := (((h.box.below hb).store (i := 0) (u := .int .i64 n) (v := .int .i64 n) rfl (by omega) (by omega) (by omega) (by omega)).store (i := 1) (u := y1) (v := x1) rfl (by omega) (by omega) (by omega) (by omega)).store (i := 2) (u := y2) (v := x2) rfl (by omega) (by omega) (by omega) (by omega)
  have hch : Chg [xb] W' (((W'.setCell ⟨xb, 0, none⟩ (.int .i64 n)).setCell ⟨xb, 1, none⟩ y1).setCell ⟨xb, 2, none⟩ y2) := by repeat' (with_reducible first | exact Chg.refl _ _ | refine qC ?_)
  refine ⟨h1, ho.chg hch (fun b hm hm' => by have := (hf.2 b hm).1; simp at hm'; omega), fresh_mono hf hsz hch.size, fun b hm hm' => ?_, hbs⟩
  have := (hf.2 b hm).1
  simp at hm'
  omega
end
theorem pls_head {W : World} {S1 S : List Nat} {x2 : Value} {r : RPl} {pl : List RPl} {B : Nat} (h : OwPls W S x2 (r :: pl)) (hf : Fresh B W (S1 ++ S)) (hB : B ≤ W.heap.size) :
    ∃ gp cp u, x2 = .slice (some ⟨gp, 0, none⟩) (pl.length + 1) cp ∧ gp ∈ S ∧ W.cell? ⟨gp, 0, none⟩ = some u ∧ W.cell? ⟨gp, 1, none⟩ = some (.int .i64 r.2) ∧ W.frozen? ⟨gp, 0, none⟩ = false ∧ W.frozen? ⟨gp, 1, none⟩ = false ∧
    ∃ S', OwPls (((W.setCell ⟨gp, 1, none⟩ (.int .i64 2)).setCell ⟨gp, 0, none⟩ (.slice (some ⟨W.heap.size, 0, none⟩) 4 4)).alloc (.cells #[.int .i64 0, .int .i64 1, .int .i64 2, .int .i64 3] 3)) S' x2 (([0, 1, 2, 3], 2) :: pl) ∧
      Fresh B (((W.setCell ⟨gp, 1, none⟩ (.int .i64 2)).setCell ⟨gp, 0, none⟩ (.slice (some ⟨W.heap.size, 0, none⟩) 4 4)).alloc (.cells #[.int .i64 0, .int .i64 1, .int .i64 2, .int .i64 3] 3)) (S1 ++ S') ∧ ∀ b ∈ S', b ∈ S ∨ b = W.heap.size := by
  obtain ⟨vs, hvl, hown, hrows, rfl⟩ := h
  cases vs with
  | nil => simp at hvl
  | cons p vs =>
    obtain ⟨gp, cp, rfl⟩ := own_form hown (by simp)
    have hl : vs.length = pl.length := by simpa using hvl
    have hfl : ((p :: vs).flatMap cPl).length = (vs.length + 1) * 2 := by rw [len_flat cPl_len]; simp
    have hp2 : p.2 = r.2 := (hrows 0 p r rfl rfl).1
    have h0 := (hown.cellAt 0 (by rw [List.length_cons]; omega))
    have h1 := (hown.cellAt 1 (by rw [List.length_cons]; omega))
    refine ⟨gp, cp, p.1, by rw [List.length_cons, hl], by simp [Value.ownBlock], h0.trans rfl, h1.trans (by rw [← hp2]; rfl), hown.frozenAt 0, hown.frozenAt 1, ?_⟩
    have hst1 := (hown.stored 1 (.int .i64 2)).1
    have hst2 := (hst1.stored 0 (.slice (some ⟨W.heap.size, 0, none⟩) 4 4)).1
    have hst3 := hst2.alloc (.cells #[.int .i64 0, .int .i64 1, .int .i64 2, .int .i64 3] 3)
    have hf1 := fresh_right hf
    obtain ⟨_, hnd, hd1, hd2⟩ := nodup2 hf1.1
    have hpn : plBlocks (p :: vs) = p.1.ownBlock.toList ++ plBlocks vs := rfl
    rw [hpn] at hnd hd1 hd2
    have hsub : ∀ b ∈ plBlocks vs, b ∈ plBlocks (p :: vs) := fun b hb => by rw [hpn]; exact List.mem_append_right _ hb
    have hgp : gp < W.heap.size := (hown.lt gp rfl).2
    have hold : ∀ b ∈ plBlocks vs, (B ≤ b ∧ b < W.heap.size) ∧ b ≠ gp := fun b hb => ⟨hf1.2 b (List.mem_append_right _ (hsub b hb)), fun e => hd2 b (List.mem_append_right _ hb) (by rw [e]; simp [Value.ownBlock])⟩
    refine ⟨_, ⟨(.slice (some ⟨W.heap.size, 0, none⟩) 4 4, 2) :: vs, by simp [hl], ?_, ?_, rfl⟩, ?_, ?_⟩
    · exact hst3
    · intro i q r' hq hr'
      cases i with
      | zero =>
        simp at hq hr'
        subst hq hr'
        refine ⟨rfl, ?_⟩
        have := row_full (size := 1) (e := 3) ((W.setCell ⟨gp, 1, none⟩ (.int .i64 2)).setCell ⟨gp, 0, none⟩ (.slice (some ⟨W.heap.size, 0, none⟩) 4 4)) #[.int .i64 0, .int .i64 1, .int .i64 2, .int .i64 3] 4 rfl (by simp [maxLen])
        rw [World.size_setCell, World.size_setCell] at this
        exact own_mono this (Nat.zero_le _)
      | succ i =>
        have hq' : (p :: vs)[i + 1]? = some q := hq
        obtain ⟨h1, h2⟩ := hrows (i + 1) q r' hq' hr'
        refine ⟨h1, ?_⟩
        have hqm : ∀ b ∈ q.1.ownBlock.toList, b ∈ plBlocks vs := mem_plBlocks (i := i) hq
        exact World.ownsRow.alloc (own_chg (S := [gp]) h2 (by repeat' (with_reducible first | exact Chg.refl _ _ | refine qC ?_)) (fun b hb hb' => by have := (hold b (hqm b hb)).2; simp at hb'; exact this hb')) _
    · have hpn2 : plBlocks ((Value.slice (some ⟨W.heap.size, 0, none⟩) 4 4, (2 : Int)) :: vs) = [W.heap.size] ++ plBlocks vs := rfl
      rw [hpn2]
      have hS1 := fresh_left hf
      have hd := (nodup2 hf.1).2.2.1
      refine ⟨?_, fun b hb => ?_⟩
      · refine List.nodup_append.2 ⟨hS1.1, List.nodup_append.2 ⟨by simp [Value.ownBlock], List.nodup_append.2 ⟨by simp, (nodup2 hnd).2.1, ?_⟩, ?_⟩, ?_⟩
        · intro a ha b hb e
          subst e
          simp at ha
          have := (hold a hb).1.2
          omega
        · intro a ha b hb e
          subst e
          have hag : a = gp := by simpa [Value.ownBlock, eq_comm] using ha
          rcases List.mem_append.1 hb with hb | hb
          · simp at hb; omega
          · exact (hold a hb).2 hag
        · intro a ha b hb e
          subst e
          have h3 := (hS1.2 a ha).2
          rcases List.mem_append.1 hb with hb | hb
          · exact hd a ha (List.mem_append_left _ hb)
          · rcases List.mem_append.1 hb with hb | hb
            · simp at hb; omega
            · exact hd a ha (List.mem_append_right _ (hsub a hb))
      · simp
        rcases List.mem_append.1 hb with hb | hb
        · have := hS1.2 b hb; omega
        · rcases List.mem_append.1 hb with hb | hb
          · have hag : b = gp := by simpa [Value.ownBlock, eq_comm] using hb
            have := hf1.2 gp (by simp [Value.ownBlock]); omega
          · rcases List.mem_append.1 hb with hb | hb
            · simp at hb; omega
            · have := (hold b hb).1; omega
    · intro b hb
      rcases List.mem_append.1 hb with hb | hb
      · exact .inl (List.mem_append_left _ hb)
      · have hpn2 : plBlocks ((Value.slice (some ⟨W.heap.size, 0, none⟩) 4 4, (2 : Int)) :: vs) = [W.heap.size] ++ plBlocks vs := rfl
        rw [hpn2] at hb
        rcases List.mem_append.1 hb with hb | hb
        · simp at hb; exact .inr hb
        · exact .inl (List.mem_append_right _ (hsub b hb))
set_option maxHeartbeats 16000000 in
set_option maxRecDepth 100000 in
theorem l37Company_any (w0 w : World) (g : Nat) (A : Option Addr) (c : Nat) (bs : List Int) (hcur : Cur w0 w g A c bs) :
    Calls Try.prog 20 #[.pointer (some ⟨g, 0, none⟩)] w (CompanyPost w0 w g A c bs) := by
  have hglt := hcur.lt
  have hw0 := hcur.below.size
  go_enter Try.func20, Try.ntmps20
  go_wp2_with fail
  have lr0 : Loc (w.alloc (.cells #[.int .i64 0, .slice none 0 0, .slice none 0 0] 27)) w.heap.size [.int .i64 0, .slice none 0 0, .slice none 0 0] := Loc.new w #[.int .i64 0, .slice none 0 0, .slice none 0 0] 27
  have hal0 : Below w.heap.size w (w.alloc (.cells #[.int .i64 0, .slice none 0 0, .slice none 0 0] 27)) := (Below.refl _ _).alloc (Nat.le_refl _) _
  have hc0 := hcur.keep hal0
  have hch0 := Chg.of_below hal0 [g]
  have hzV : w.heap.size + 1 ≤ (w.alloc (.cells #[.int .i64 0, .slice none 0 0, .slice none 0 0] 27)).heap.size := by simp
  obtain ⟨rb, hrb⟩ : ∃ rb, w.heap.size = rb := ⟨_, rfl⟩
  have hwrb : w.heap.size ≤ rb := by omega
  have hgrb : g < rb := by omega
  have hrbV : rb < (w.alloc (.cells #[.int .i64 0, .slice none 0 0, .slice none 0 0] 27)).heap.size := by omega
  generalize w.alloc (.cells #[.int .i64 0, .slice none 0 0, .slice none 0 0] 27) = V at *
  rw [hrb] at lr0 ⊢
  clear hrb hal0
  refine (l08List_any w0 V g A c bs hc0).mono ?_
  rintro e w1 ⟨n, v, l, rfl, own1, hn, hl9, hval, hc1, hch1⟩
  obtain ⟨Aq, cq, rfl, _, _⟩ := (RdS.of_own own1).form
  have lr1 := lr0.chg hch1 (by simp; omega)
  have hchw1 := hch0.trans hch1
  have own1' := own_mono own1 (show rb + 1 ≤ V.heap.size by omega)
  have Hval := Lib.hid hval
  have hz1 := hch1.size
  clear hc0 lr0 hch0 hch1 own1 hval
  go_upto_if 12 with (fail)
  go_cut [3, 4] (fun s3 s4 wx => ∃ (n : Nat) (Aq : Option Addr) (cq : Nat) (l : List RCross), s3 = .int .i64 n ∧ s4 = .slice Aq l.length cq ∧ wx.ownsRow (rb + 1) 57 2 (.slice Aq l.length cq) l.length (l.flatMap cCross) ∧ (2 ≤ n ∧ n ≤ 4) ∧ l.length ≤ 9 ∧ Hid (∀ t ∈ l, 0 ≤ t.1 ∧ t.1 ≤ (n : Int) - 2) ∧ Cur w0 wx g A c bs ∧ Chg [g] w wx ∧ Loc wx rb [.int .i64 0, .slice none 0 0, .slice none 0 0] ∧ rb < wx.heap.size)
  case first =>
    by_cases h4 : 4 < n
    · go_wp2_with fail
      go_meet
      exact ⟨4, _, _, [], rfl, rfl, World.ownsRow_made (size := 2) (e := 57) w1 #[] 0 (by omega) (by simp [maxLen]) rfl, by omega, by simp, by simp [Hid], hc1.keep ((Below.refl _ _).alloc (Nat.le_refl _) _), hchw1.alloc _, lr1.alloc _, by simp; omega⟩
    · go_wp2_with fail
      go_meet
      exact ⟨n, Aq, cq, l, rfl, rfl, own1', by omega, hl9, Hval.out, hc1, hchw1, lr1, by omega⟩
  case rest =>
    clear lr1 hc1 hchw1 own1' Hval hn hl9
    obtain ⟨n, Aq, cq, l, rfl, rfl, own1, hn, hl9, Hval, hc1, hch1, lr1, hz1⟩ := hcut
    go_wp2_with fail
    refine (l13List_any w0 wc g A c bs hc1).mono ?_
    rintro e w2 ⟨v2, pl, S2, rfl, hp2, hf2, hpl, hpd, hc2, hch2⟩
    obtain ⟨Ap, cp, rfl, _, _⟩ := hp2.rd.form
    have HOK : Hid (CoOk n l pl) := CoOk.start hn hl9 Hval.out hpd hpl
    have lr2 := lr1.chg hch2 (by simp; omega)
    have own2 := own_draw own1 hch2 (by omega)
    have hchw2 := hch1.trans hch2
    have hz2 := hch2.size
    have hf12 : Fresh (rb + 1) w2 ((Value.slice Aq l.length cq).ownBlock.toList ++ S2) := fresh_join (fresh_of own2) (fresh_mono hf2 (by omega) (Nat.le_refl _)) (fun b hb hb' => by have := (own1.lt b (by simpa using hb)).2; have := (hf2.2 b hb').1; omega)
    have hco : OwCompany w2 _ (.slice Aq l.length cq) (.slice Ap pl.length cp) l pl := ⟨_, _, rfl, OwL.mk_ own2, hp2⟩
    generalize (Value.slice Aq l.length cq).ownBlock.toList ++ S2 = S at *
    clear lr1 hc1 hch1 own1 own2 Hval hl9 hp2 hf2 hpl hpd hch2
    go_upto_region 6 with (fail)
    have hal : Below w2.heap.size w2 (w2.alloc (.cells #[.int .i64 n, .slice Aq l.length cq, .slice Ap pl.length cp] 27)) := (Below.refl _ _).alloc (Nat.le_refl _) _
    have hst : CoSt w0 w g A c bs w2.heap.size rb n (.slice Aq l.length cq) (.slice Ap pl.length cp) l pl S (w2.alloc (.cells #[.int .i64 n, .slice Aq l.length cq, .slice Ap pl.length cp] 27)) :=
      ⟨⟨hc2.keep hal, hchw2.trans (Chg.of_below hal _), Loc.new w2 #[.int .i64 n, .slice Aq l.length cq, .slice Ap pl.length cp] 27, lr2.below hal, by simp⟩, hco.below hal, fresh_mono hf12 (by omega) hal.size, fun b hb hb' => by have := hf12.2 b hb; simp at hb'; omega, ⟨by omega, by omega, by omega⟩⟩
    obtain ⟨xb, hxb⟩ : ∃ xb, w2.heap.size = xb := ⟨_, rfl⟩
    rw [hxb] at hst
    generalize w2.alloc (.cells #[.int .i64 n, .slice Aq l.length cq, .slice Ap pl.length cp] 27) = W at *
    (try rw [hxb])
    clear hal hc2 hchw2 lr2 hco hf12 hxb hz1 hz2 hzV hrbV
    go_wp2_with fail
    refine (l01Below_any 4 w0 W g A c bs hst.box.cur (by omega) (by omega)).mono ?_
    rintro e w3 ⟨r, rfl, ⟨hr0, hr1⟩, hc3, hch3⟩
    have hst3 := hst.draw hc3 hch3
    clear hst hc3 hch3
    go_upto_region 7 with (fail)
    have H0 : Hid (∀ (cs : List RCross), CoOk n cs pl → szCompany cs pl ≤ 1048576) := fun cs h => by have := companyB_sz h.ok; omega
    skip
    by_cases h0 : r = 0
    · subst h0
      have b0 := (hst3.box.lx 0 _ rfl).1
      have b1 := (hst3.box.lx 1 _ rfl).1
      have b2 := (hst3.box.lx 2 _ rfl).1
      have hCa : Hid (∀ W x1 x2, RdCompany W x1 x2 l pl → Calls Try.prog 44 #[.agg #[.int .i64 n, x1, x2]] W (RetCompany n (goB n l pl) (goC n l pl) pl W)) := fun W x1 x2 hr => specGoHome_any n x1 x2 l pl W hr (H0.out _ HOK.out)
      have HOKa : Hid (CoOk n (goC n l pl) pl) := HOK.out.go
      obtain ⟨l4, hcsa⟩ : ∃ l', goC (n : Int) l pl = l' := ⟨_, rfl⟩
      obtain ⟨bka, hbka⟩ : ∃ b, goB (n : Int) l pl = b := ⟨_, rfl⟩
      rw [hcsa, hbka] at hCa
      rw [hcsa] at HOKa
      clear hcsa hbka
      go_wp2_with fail
      refine (hCa.out _ _ _ hst3.own.rd).mono ?_
      rintro e w4 ⟨y1a, y2a, Sa, rfl, oy, fy, q⟩
      obtain ⟨⟨B1a, k1a, rfl⟩, ⟨B2a, k2a, rfl⟩⟩ := oy.rd.forms
      have lxa := hst3.box.lx.below q
      have b0 := (lxa 0 _ rfl).1
      have f0 := (lxa 0 _ rfl).2
      have b1 := (lxa 1 _ rfl).1
      have f1 := (lxa 1 _ rfl).2
      have b2 := (lxa 2 _ rfl).1
      have f2 := (lxa 2 _ rfl).2
      have hsta := hst3.next q oy fy
      go_upto_region 12 with (fail)
      clear b0 b1 b2 f0 f1 f2 lxa oy fy q hst3
      generalize ((w4.setCell ⟨xb, 0, none⟩ (.int .i64 n)).setCell ⟨xb, 1, none⟩ (.slice B1a l4.length k1a)).setCell ⟨xb, 2, none⟩ (.slice B2a pl.length k2a) = w5 at *
      go_wp2_with fail
      refine (l01Once_any 2 w0 _ g A c bs hsta.box.cur (by omega) (by omega)).mono ?_
      rintro e w8 ⟨b, rfl, hc8, hch8⟩
      have hst8 := hsta.draw hc8 hch8
      clear hsta hc8 hch8
      cases b
      · skip
        have b0 := (hst8.box.lx 0 _ rfl).1
        have b1 := (hst8.box.lx 1 _ rfl).1
        have b2 := (hst8.box.lx 2 _ rfl).1
        have r0 := (hst8.box.lr 0 _ rfl).1
        have r1 := (hst8.box.lr 1 _ rfl).1
        have r2 := (hst8.box.lr 2 _ rfl).1
        have s0 := (hst8.box.lr 0 _ rfl).2
        have s1 := (hst8.box.lr 1 _ rfl).2
        have s2 := (hst8.box.lr 2 _ rfl).2
        have hbs := hst8.base
        go_wp2_with fail
        have hch9 : Chg [rb] w8 (((w8.setCell ⟨rb, 0, none⟩ (.int .i64 n)).setCell ⟨rb, 1, none⟩ (.slice B1a l4.length k1a)).setCell ⟨rb, 2, none⟩ (.slice B2a pl.length k2a)) := by repeat' (with_reducible first | exact Chg.refl _ _ | refine qC ?_)
        refine bodyPost_ret (v := .agg #[.int .i64 n, .slice B1a l4.length k1a, .slice B2a pl.length k2a]) (by simp [results, Try.results20, go_sem, *]) rfl ⟨n, _, _, _, _, _, rfl, hst8.own.chg hch9 (fun b hb hb' => hst8.ap b hb (by simp at hb' ⊢; exact .inr (.inr hb'))), fresh_mono hst8.fr (Nat.le_refl _) hch9.size, HOKa.out, hst8.box.cur.chg hch9 (by simp; omega) (by simp; omega), chg_low hst8.box.chg hch9 (by simp; omega)⟩
      · skip
        cases pl with
        | nil => exact absurd HOKa.out.len (by simp)
        | cons p0 pl0 =>
          obtain ⟨Sa, Sb, hSe, hoa, hob⟩ := hst8.own
          have hfr8 := hst8.fr
          rw [hSe] at hfr8
          obtain ⟨gp, cpp, u0, hv2, hgp, g0, g1, gf0, gf1, S', how', hfr', hS'⟩ := pls_head hob hfr8 hst8.box.chg.size
          injection hv2 with e1 e2 e3
          subst e1 e3
          clear e2
          have hgS : gp ∉ [g, xb, rb] := hst8.ap gp (by rw [hSe]; exact List.mem_append_right _ hgp)
          simp at hgS
          have hlt8 := hst8.lt
          have hbs := hst8.base
          have hgg := (hst8.fr.2 gp (by rw [hSe]; exact List.mem_append_right _ hgp))
          have b0 := (hst8.box.lx 0 _ rfl).1
          have b1 := (hst8.box.lx 1 _ rfl).1
          have b2 := (hst8.box.lx 2 _ rfl).1
          have HS' := Lib.hid hS'
          have HSe := Lib.hid hSe
          clear hS' hSe
          go_upto_region 15 with (fail)
          have hchE : Chg [gp] w8 (((w8.setCell ⟨gp, 1, none⟩ (.int .i64 2)).setCell ⟨gp, 0, none⟩ (.slice (some ⟨w8.heap.size, 0, none⟩) 4 4)).alloc (.cells #[.int .i64 0, .int .i64 1, .int .i64 2, .int .i64 3] 3)) := Chg.alloc (by repeat' (with_reducible first | exact Chg.refl _ _ | refine qC ?_)) _
          have hst9 : CoSt w0 w g A c bs xb rb n (.slice B1a l4.length k1a) (.slice (some ⟨gp, 0, none⟩) (pl0.length + 1) k2a) l4 (([0, 1, 2, 3], 2) :: pl0) (Sa ++ S') (((w8.setCell ⟨gp, 1, none⟩ (.int .i64 2)).setCell ⟨gp, 0, none⟩ (.slice (some ⟨w8.heap.size, 0, none⟩) 4 4)).alloc (.cells #[.int .i64 0, .int .i64 1, .int .i64 2, .int .i64 3] 3)) :=
            ⟨⟨hst8.box.cur.chg hchE (by simp; omega) (by simp; omega), chg_low hst8.box.chg hchE (by simp; omega), hst8.box.lx.chg hchE (by simp; omega), hst8.box.lr.chg hchE (by simp; omega), Nat.lt_of_lt_of_le hlt8 hchE.size⟩,
             ⟨Sa, S', rfl, hoa.chg hchE (fun b hb hb' => (nodup2 hfr8.1).2.2.1 b hb (by simp at hb'; rw [hb']; exact hgp)), how'⟩, hfr', fun b hb hb' => by
               rcases List.mem_append.1 hb with hb | hb
               · exact hst8.ap b (by rw [HSe.out]; exact List.mem_append_left _ hb) hb'
               · rcases HS'.out b hb with hb | hb
                 · exact hst8.ap b (by rw [HSe.out]; exact List.mem_append_right _ hb) hb'
                 · have := hst8.box.cur.lt; simp at hb'; omega, hst8.base⟩
          have HOK9 : Hid (CoOk n l4 (([0, 1, 2, 3], 2) :: pl0)) := HOKa.out.four
          clear b0 b1 b2 g0 g1 gf0 gf1 hst8 hoa hob hfr8 how' hfr' hchE hgp hgS hlt8 hgg hbs
          generalize ((w8.setCell ⟨gp, 1, none⟩ (.int .i64 2)).setCell ⟨gp, 0, none⟩ (.slice (some ⟨w8.heap.size, 0, none⟩) 4 4)).alloc (.cells #[.int .i64 0, .int .i64 1, .int .i64 2, .int .i64 3] 3) = w9 at *
          have b0 := (hst9.box.lx 0 _ rfl).1
          have b1 := (hst9.box.lx 1 _ rfl).1
          have b2 := (hst9.box.lx 2 _ rfl).1
          have r0 := (hst9.box.lr 0 _ rfl).1
          have r1 := (hst9.box.lr 1 _ rfl).1
          have r2 := (hst9.box.lr 2 _ rfl).1
          have s0 := (hst9.box.lr 0 _ rfl).2
          have s1 := (hst9.box.lr 1 _ rfl).2
          have s2 := (hst9.box.lr 2 _ rfl).2
          have hbs := hst9.base
          go_wp2_with fail
          have hch9 : Chg [rb] w9 (((w9.setCell ⟨rb, 0, none⟩ (.int .i64 n)).setCell ⟨rb, 1, none⟩ (.slice B1a l4.length k1a)).setCell ⟨rb, 2, none⟩ (.slice (some ⟨gp, 0, none⟩) (pl0.length + 1) k2a)) := by repeat' (with_reducible first | exact Chg.refl _ _ | refine qC ?_)
          refine bodyPost_ret (v := .agg #[.int .i64 n, .slice B1a l4.length k1a, .slice (some ⟨gp, 0, none⟩) (pl0.length + 1) k2a]) (by simp [results, Try.results20, go_sem, *]) rfl ⟨n, _, _, _, _, _, rfl, hst9.own.chg hch9 (fun b hb hb' => hst9.ap b hb (by simp at hb' ⊢; exact .inr (.inr hb'))), fresh_mono hst9.fr (Nat.le_refl _) hch9.size, HOK9.out, hst9.box.cur.chg hch9 (by simp; omega) (by simp; omega), chg_low hst9.box.chg hch9 (by simp; omega)⟩
    · by_cases h1 : r = 1
      · subst h1
        have b0 := (hst3.box.lx 0 _ rfl).1
        have b1 := (hst3.box.lx 1 _ rfl).1
        have b2 := (hst3.box.lx 2 _ rfl).1
        have hCa : Hid (∀ W x1 x2, RdCompany W x1 x2 l pl → Calls Try.prog 44 #[.agg #[.int .i64 n, x1, x2]] W (RetCompany n (goB n l pl) (goC n l pl) pl W)) := fun W x1 x2 hr => specGoHome_any n x1 x2 l pl W hr (H0.out _ HOK.out)
        have HOKa : Hid (CoOk n (goC n l pl) pl) := HOK.out.go
        obtain ⟨l4, hcsa⟩ : ∃ l', goC (n : Int) l pl = l' := ⟨_, rfl⟩
        obtain ⟨bka, hbka⟩ : ∃ b, goB (n : Int) l pl = b := ⟨_, rfl⟩
        rw [hcsa, hbka] at hCa
        rw [hcsa] at HOKa
        clear hcsa hbka
        go_wp2_with fail
        refine (hCa.out _ _ _ hst3.own.rd).mono ?_
        rintro e w4 ⟨y1a, y2a, Sa, rfl, oy, fy, q⟩
        obtain ⟨⟨B1a, k1a, rfl⟩, ⟨B2a, k2a, rfl⟩⟩ := oy.rd.forms
        have lxa := hst3.box.lx.below q
        have b0 := (lxa 0 _ rfl).1
        have f0 := (lxa 0 _ rfl).2
        have b1 := (lxa 1 _ rfl).1
        have f1 := (lxa 1 _ rfl).2
        have b2 := (lxa 2 _ rfl).1
        have f2 := (lxa 2 _ rfl).2
        have hsta := hst3.next q oy fy
        go_upto_region 11 with (fail)
        clear b0 b1 b2 f0 f1 f2 lxa oy fy q hst3
        generalize ((w4.setCell ⟨xb, 0, none⟩ (.int .i64 n)).setCell ⟨xb, 1, none⟩ (.slice B1a l4.length k1a)).setCell ⟨xb, 2, none⟩ (.slice B2a pl.length k2a) = w5 at *
        have b0 := (hsta.box.lx 0 _ rfl).1
        have b1 := (hsta.box.lx 1 _ rfl).1
        have b2 := (hsta.box.lx 2 _ rfl).1
        have hCb : Hid (∀ W x1 x2, RdCompany W x1 x2 l4 pl → Calls Try.prog 45 #[.agg #[.int .i64 n, x1, x2]] W (RetCompany n (untB n l4 pl) (untC n l4 pl) pl W)) := fun W x1 x2 hr => specUntwist_any n x1 x2 l4 pl W hr (H0.out _ HOKa.out)
        have HOKb : Hid (CoOk n (untC n l4 pl) pl) := HOKa.out.unt
        obtain ⟨l6, hcsb⟩ : ∃ l', untC (n : Int) l4 pl = l' := ⟨_, rfl⟩
        obtain ⟨bkb, hbkb⟩ : ∃ b, untB (n : Int) l4 pl = b := ⟨_, rfl⟩
        rw [hcsb, hbkb] at hCb
        rw [hcsb] at HOKb
        clear hcsb hbkb
        go_wp2_with fail
        refine (hCb.out _ _ _ hsta.own.rd).mono ?_
        rintro e w6 ⟨y1b, y2b, Sb, rfl, oy, fy, q⟩
        obtain ⟨⟨B1b, k1b, rfl⟩, ⟨B2b, k2b, rfl⟩⟩ := oy.rd.forms
        have lxb := hsta.box.lx.below q
        have b0 := (lxb 0 _ rfl).1
        have f0 := (lxb 0 _ rfl).2
        have b1 := (lxb 1 _ rfl).1
        have f1 := (lxb 1 _ rfl).2
        have b2 := (lxb 2 _ rfl).1
        have f2 := (lxb 2 _ rfl).2
        have hstb := hsta.next q oy fy
        go_upto_region 12 with (fail)
        clear b0 b1 b2 f0 f1 f2 lxb oy fy q hsta
        generalize ((w6.setCell ⟨xb, 0, none⟩ (.int .i64 n)).setCell ⟨xb, 1, none⟩ (.slice B1b l6.length k1b)).setCell ⟨xb, 2, none⟩ (.slice B2b pl.length k2b) = w7 at *
        go_wp2_with fail
        refine (l01Once_any 2 w0 _ g A c bs hstb.box.cur (by omega) (by omega)).mono ?_
        rintro e w8 ⟨b, rfl, hc8, hch8⟩
        have hst8 := hstb.draw hc8 hch8
        clear hstb hc8 hch8
        cases b
        · skip
          have b0 := (hst8.box.lx 0 _ rfl).1
          have b1 := (hst8.box.lx 1 _ rfl).1
          have b2 := (hst8.box.lx 2 _ rfl).1
          have r0 := (hst8.box.lr 0 _ rfl).1
          have r1 := (hst8.box.lr 1 _ rfl).1
          have r2 := (hst8.box.lr 2 _ rfl).1
          have s0 := (hst8.box.lr 0 _ rfl).2
          have s1 := (hst8.box.lr 1 _ rfl).2
          have s2 := (hst8.box.lr 2 _ rfl).2
          have hbs := hst8.base
          go_wp2_with fail
          have hch9 : Chg [rb] w8 (((w8.setCell ⟨rb, 0, none⟩ (.int .i64 n)).setCell ⟨rb, 1, none⟩ (.slice B1b l6.length k1b)).setCell ⟨rb, 2, none⟩ (.slice B2b pl.length k2b)) := by repeat' (with_reducible first | exact Chg.refl _ _ | refine qC ?_)
          refine bodyPost_ret (v := .agg #[.int .i64 n, .slice B1b l6.length k1b, .slice B2b pl.length k2b]) (by simp [results, Try.results20, go_sem, *]) rfl ⟨n, _, _, _, _, _, rfl, hst8.own.chg hch9 (fun b hb hb' => hst8.ap b hb (by simp at hb' ⊢; exact .inr (.inr hb'))), fresh_mono hst8.fr (Nat.le_refl _) hch9.size, HOKb.out, hst8.box.cur.chg hch9 (by simp; omega) (by simp; omega), chg_low hst8.box.chg hch9 (by simp; omega)⟩
        · skip
          cases pl with
          | nil => exact absurd HOKb.out.len (by simp)
          | cons p0 pl0 =>
            obtain ⟨Sa, Sb, hSe, hoa, hob⟩ := hst8.own
            have hfr8 := hst8.fr
            rw [hSe] at hfr8
            obtain ⟨gp, cpp, u0, hv2, hgp, g0, g1, gf0, gf1, S', how', hfr', hS'⟩ := pls_head hob hfr8 hst8.box.chg.size
            injection hv2 with e1 e2 e3
            subst e1 e3
            clear e2
            have hgS : gp ∉ [g, xb, rb] := hst8.ap gp (by rw [hSe]; exact List.mem_append_right _ hgp)
            simp at hgS
            have hlt8 := hst8.lt
            have hbs := hst8.base
            have hgg := (hst8.fr.2 gp (by rw [hSe]; exact List.mem_append_right _ hgp))
            have b0 := (hst8.box.lx 0 _ rfl).1
            have b1 := (hst8.box.lx 1 _ rfl).1
            have b2 := (hst8.box.lx 2 _ rfl).1
            have HS' := Lib.hid hS'
            have HSe := Lib.hid hSe
            clear hS' hSe
            go_upto_region 15 with (fail)
            have hchE : Chg [gp] w8 (((w8.setCell ⟨gp, 1, none⟩ (.int .i64 2)).setCell ⟨gp, 0, none⟩ (.slice (some ⟨w8.heap.size, 0, none⟩) 4 4)).alloc (.cells #[.int .i64 0, .int .i64 1, .int .i64 2, .int .i64 3] 3)) := Chg.alloc (by repeat' (with_reducible first | exact Chg.refl _ _ | refine qC ?_)) _
            have hst9 : CoSt w0 w g A c bs xb rb n (.slice B1b l6.length k1b) (.slice (some ⟨gp, 0, none⟩) (pl0.length + 1) k2b) l6 (([0, 1, 2, 3], 2) :: pl0) (Sa ++ S') (((w8.setCell ⟨gp, 1, none⟩ (.int .i64 2)).setCell ⟨gp, 0, none⟩ (.slice (some ⟨w8.heap.size, 0, none⟩) 4 4)).alloc (.cells #[.int .i64 0, .int .i64 1, .int .i64 2, .int .i64 3] 3)) :=
              ⟨⟨hst8.box.cur.chg hchE (by simp; omega) (by simp; omega), chg_low hst8.box.chg hchE (by simp; omega), hst8.box.lx.chg hchE (by simp; omega), hst8.box.lr.chg hchE (by simp; omega), Nat.lt_of_lt_of_le hlt8 hchE.size⟩,
               ⟨Sa, S', rfl, hoa.chg hchE (fun b hb hb' => (nodup2 hfr8.1).2.2.1 b hb (by simp at hb'; rw [hb']; exact hgp)), how'⟩, hfr', fun b hb hb' => by
                 rcases List.mem_append.1 hb with hb | hb
                 · exact hst8.ap b (by rw [HSe.out]; exact List.mem_append_left _ hb) hb'
                 · rcases HS'.out b hb with hb | hb
                   · exact hst8.ap b (by rw [HSe.out]; exact List.mem_append_right _ hb) hb'
                   · have := hst8.box.cur.lt; simp at hb'; omega, hst8.base⟩
            have HOK9 : Hid (CoOk n l6 (([0, 1, 2, 3], 2) :: pl0)) := HOKb.out.four
            clear b0 b1 b2 g0 g1 gf0 gf1 hst8 hoa hob hfr8 how' hfr' hchE hgp hgS hlt8 hgg hbs
            generalize ((w8.setCell ⟨gp, 1, none⟩ (.int .i64 2)).setCell ⟨gp, 0, none⟩ (.slice (some ⟨w8.heap.size, 0, none⟩) 4 4)).alloc (.cells #[.int .i64 0, .int .i64 1, .int .i64 2, .int .i64 3] 3) = w9 at *
            have b0 := (hst9.box.lx 0 _ rfl).1
            have b1 := (hst9.box.lx 1 _ rfl).1
            have b2 := (hst9.box.lx 2 _ rfl).1
            have r0 := (hst9.box.lr 0 _ rfl).1
            have r1 := (hst9.box.lr 1 _ rfl).1
            have r2 := (hst9.box.lr 2 _ rfl).1
            have s0 := (hst9.box.lr 0 _ rfl).2
            have s1 := (hst9.box.lr 1 _ rfl).2
            have s2 := (hst9.box.lr 2 _ rfl).2
            have hbs := hst9.base
            go_wp2_with fail
            have hch9 : Chg [rb] w9 (((w9.setCell ⟨rb, 0, none⟩ (.int .i64 n)).setCell ⟨rb, 1, none⟩ (.slice B1b l6.length k1b)).setCell ⟨rb, 2, none⟩ (.slice (some ⟨gp, 0, none⟩) (pl0.length + 1) k2b)) := by repeat' (with_reducible first | exact Chg.refl _ _ | refine qC ?_)
            refine bodyPost_ret (v := .agg #[.int .i64 n, .slice B1b l6.length k1b, .slice (some ⟨gp, 0, none⟩) (pl0.length + 1) k2b]) (by simp [results, Try.results20, go_sem, *]) rfl ⟨n, _, _, _, _, _, rfl, hst9.own.chg hch9 (fun b hb hb' => hst9.ap b hb (by simp at hb' ⊢; exact .inr (.inr hb'))), fresh_mono hst9.fr (Nat.le_refl _) hch9.size, HOK9.out, hst9.box.cur.chg hch9 (by simp; omega) (by simp; omega), chg_low hst9.box.chg hch9 (by simp; omega)⟩
      · have hb0 : (r == 0) = false := by simp; omega
        have hb1 : (r == 1) = false := by simp; omega
        go_wp2_with fail
        refine (l01Once_any 2 w0 _ g A c bs hst3.box.cur (by omega) (by omega)).mono ?_
        rintro e w8 ⟨b, rfl, hc8, hch8⟩
        have hst8 := hst3.draw hc8 hch8
        clear hst3 hc8 hch8
        cases b
        · skip
          have b0 := (hst8.box.lx 0 _ rfl).1
          have b1 := (hst8.box.lx 1 _ rfl).1
          have b2 := (hst8.box.lx 2 _ rfl).1
          have r0 := (hst8.box.lr 0 _ rfl).1
          have r1 := (hst8.box.lr 1 _ rfl).1
          have r2 := (hst8.box.lr 2 _ rfl).1
          have s0 := (hst8.box.lr 0 _ rfl).2
          have s1 := (hst8.box.lr 1 _ rfl).2
          have s2 := (hst8.box.lr 2 _ rfl).2
          have hbs := hst8.base
          go_wp2_with fail
          have hch9 : Chg [rb] w8 (((w8.setCell ⟨rb, 0, none⟩ (.int .i64 n)).setCell ⟨rb, 1, none⟩ (.slice Aq l.length cq)).setCell ⟨rb, 2, none⟩ (.slice Ap pl.length cp)) := by repeat' (with_reducible first | exact Chg.refl _ _ | refine qC ?_)
          refine bodyPost_ret (v := .agg #[.int .i64 n, .slice Aq l.length cq, .slice Ap pl.length cp]) (by simp [results, Try.results20, go_sem, *]) rfl ⟨n, _, _, _, _, _, rfl, hst8.own.chg hch9 (fun b hb hb' => hst8.ap b hb (by simp at hb' ⊢; exact .inr (.inr hb'))), fresh_mono hst8.fr (Nat.le_refl _) hch9.size, HOK.out, hst8.box.cur.chg hch9 (by simp; omega) (by simp; omega), chg_low hst8.box.chg hch9 (by simp; omega)⟩
        · skip
          cases pl with
          | nil => exact absurd HOK.out.len (by simp)
          | cons p0 pl0 =>
            obtain ⟨Sa, Sb, hSe, hoa, hob⟩ := hst8.own
            have hfr8 := hst8.fr
            rw [hSe] at hfr8
            obtain ⟨gp, cpp, u0, hv2, hgp, g0, g1, gf0, gf1, S', how', hfr', hS'⟩ := pls_head hob hfr8 hst8.box.chg.size
            injection hv2 with e1 e2 e3
            subst e1 e3
            clear e2
            have hgS : gp ∉ [g, xb, rb] := hst8.ap gp (by rw [hSe]; exact List.mem_append_right _ hgp)
            simp at hgS
            have hlt8 := hst8.lt
            have hbs := hst8.base
            have hgg := (hst8.fr.2 gp (by rw [hSe]; exact List.mem_append_right _ hgp))
            have b0 := (hst8.box.lx 0 _ rfl).1
            have b1 := (hst8.box.lx 1 _ rfl).1
            have b2 := (hst8.box.lx 2 _ rfl).1
            have HS' := Lib.hid hS'
            have HSe := Lib.hid hSe
            clear hS' hSe
            go_upto_region 15 with (fail)
            have hchE : Chg [gp] w8 (((w8.setCell ⟨gp, 1, none⟩ (.int .i64 2)).setCell ⟨gp, 0, none⟩ (.slice (some ⟨w8.heap.size, 0, none⟩) 4 4)).alloc (.cells #[.int .i64 0, .int .i64 1, .int .i64 2, .int .i64 3] 3)) := Chg.alloc (by repeat' (with_reducible first | exact Chg.refl _ _ | refine qC ?_)) _
            have hst9 : CoSt w0 w g A c bs xb rb n (.slice Aq l.length cq) (.slice (some ⟨gp, 0, none⟩) (pl0.length + 1) cp) l (([0, 1, 2, 3], 2) :: pl0) (Sa ++ S') (((w8.setCell ⟨gp, 1, none⟩ (.int .i64 2)).setCell ⟨gp, 0, none⟩ (.slice (some ⟨w8.heap.size, 0, none⟩) 4 4)).alloc (.cells #[.int .i64 0, .int .i64 1, .int .i64 2, .int .i64 3] 3)) :=
              ⟨⟨hst8.box.cur.chg hchE (by simp; omega) (by simp; omega), chg_low hst8.box.chg hchE (by simp; omega), hst8.box.lx.chg hchE (by simp; omega), hst8.box.lr.chg hchE (by simp; omega), Nat.lt_of_lt_of_le hlt8 hchE.size⟩,
               ⟨Sa, S', rfl, hoa.chg hchE (fun b hb hb' => (nodup2 hfr8.1).2.2.1 b hb (by simp at hb'; rw [hb']; exact hgp)), how'⟩, hfr', fun b hb hb' => by
                 rcases List.mem_append.1 hb with hb | hb
                 · exact hst8.ap b (by rw [HSe.out]; exact List.mem_append_left _ hb) hb'
                 · rcases HS'.out b hb with hb | hb
                   · exact hst8.ap b (by rw [HSe.out]; exact List.mem_append_right _ hb) hb'
                   · have := hst8.box.cur.lt; simp at hb'; omega, hst8.base⟩
            have HOK9 : Hid (CoOk n l (([0, 1, 2, 3], 2) :: pl0)) := HOK.out.four
            clear b0 b1 b2 g0 g1 gf0 gf1 hst8 hoa hob hfr8 how' hfr' hchE hgp hgS hlt8 hgg hbs
            generalize ((w8.setCell ⟨gp, 1, none⟩ (.int .i64 2)).setCell ⟨gp, 0, none⟩ (.slice (some ⟨w8.heap.size, 0, none⟩) 4 4)).alloc (.cells #[.int .i64 0, .int .i64 1, .int .i64 2, .int .i64 3] 3) = w9 at *
            have b0 := (hst9.box.lx 0 _ rfl).1
            have b1 := (hst9.box.lx 1 _ rfl).1
            have b2 := (hst9.box.lx 2 _ rfl).1
            have r0 := (hst9.box.lr 0 _ rfl).1
            have r1 := (hst9.box.lr 1 _ rfl).1
            have r2 := (hst9.box.lr 2 _ rfl).1
            have s0 := (hst9.box.lr 0 _ rfl).2
            have s1 := (hst9.box.lr 1 _ rfl).2
            have s2 := (hst9.box.lr 2 _ rfl).2
            have hbs := hst9.base
            go_wp2_with fail
            have hch9 : Chg [rb] w9 (((w9.setCell ⟨rb, 0, none⟩ (.int .i64 n)).setCell ⟨rb, 1, none⟩ (.slice Aq l.length cq)).setCell ⟨rb, 2, none⟩ (.slice (some ⟨gp, 0, none⟩) (pl0.length + 1) cp)) := by repeat' (with_reducible first | exact Chg.refl _ _ | refine qC ?_)
            refine bodyPost_ret (v := .agg #[.int .i64 n, .slice Aq l.length cq, .slice (some ⟨gp, 0, none⟩) (pl0.length + 1) cp]) (by simp [results, Try.results20, go_sem, *]) rfl ⟨n, _, _, _, _, _, rfl, hst9.own.chg hch9 (fun b hb hb' => hst9.ap b hb (by simp at hb' ⊢; exact .inr (.inr hb'))), fresh_mono hst9.fr (Nat.le_refl _) hch9.size, HOK9.out, hst9.box.cur.chg hch9 (by simp; omega) (by simp; omega), chg_low hst9.box.chg hch9 (by simp; omega)⟩
open Go.RowKit
theorem co_go {n : Nat} {cs : List RCross} {pl : List RPl} (h : companyB n cs pl = true) (g : goB n cs pl = true) : companyB n (goC n cs pl) pl = true ∧ orderF n (goC n cs pl) = upN n := by
 have hx := (company_n h).1
 have e1 : goC n cs pl = cs ++ homeL n cs := by unfold goC withC; exact if_pos g
 refine ⟨?_, by rw [e1]; exact home_order hx⟩
 unfold goC
 exact with_co g
theorem co_unt {n : Nat} {cs : List RCross} {pl : List RPl} (h : companyB n cs pl = true) (ho : orderF n cs = upN n) (g : untB n cs pl = true) : companyB n (untC n cs pl) pl = true ∧ orderF n (untC n cs pl) = upN n ∧ woundL n (untC n cs pl) = [] := by
 have hx := (company_n h).1
 have e2 : untC n cs pl = cs ++ unwindL n cs := by
  unfold untC
  rw [if_pos g]
  rw [untB, Bool.and_eq_true] at g
  unfold unwV
  rw [if_pos g.1]; rfl
 obtain ⟨u1, u2⟩ := unwind_zero (crosses_len hx).2.2 ho
 rw [← e2] at u1 u2
 exact ⟨unt_co g, u1, u2⟩
theorem why_home {n : Nat} {cs : List RCross} {pl : List RPl} (h : companyB n cs pl = true) (ho : orderF n cs = upN n) : whyF n cs pl ≠ 1 := by
 unfold whyF
 rw [if_pos h, if_pos (show orderF (n : Int).toNat cs = upN (n : Int).toNat from ho)]
 repeat' split
 all_goals decide
theorem why_free {n : Nat} {cs : List RCross} {pl : List RPl} (h : companyB n cs pl = true) (ho : orderF n cs = upN n) (hw : woundL n cs = []) : whyF n cs pl = if canF pl (upN n) = true then 0 else 3 := by
 unfold whyF
 rw [if_pos h, if_pos (show orderF (n : Int).toNat cs = upN (n : Int).toNat from ho), if_pos (show woundL (n : Int).toNat cs = [] from hw)]; rfl
theorem co_tidy {n : Nat} {cs : List RCross} {pl : List RPl} (h : companyB n cs pl = true) : companyB n (tidyC n cs pl) pl = true ∧ whyF n (tidyC n cs pl) pl = whyF n cs pl ∧ (tidyC n cs pl).length ≤ cs.length := by
 obtain ⟨hx, hp⟩ := company_n h
 have e : tidyC n cs pl = redF cs := by
  unfold tidyC redL
  rw [if_pos h, if_pos hx]
 have hc : companyB n (redF cs) pl = true := by rw [companyB, Bool.and_eq_true]; exact ⟨redF_valid hx, hp⟩
 rw [e]
 refine ⟨hc, ?_, redF_all cs⟩
 unfold whyF
 rw [if_pos hc, if_pos h, show orderF (n : Int).toNat (redF cs) = orderF (n : Int).toNat cs from redF_order hx, show woundL (n : Int).toNat (redF cs) = woundL (n : Int).toNat cs from redF_wound hx]
theorem why_seen {n : Nat} {cs : List RCross} {pl : List RPl} (h : companyB n cs pl = true) :
  (¬ orderF n cs = upN n ∧ whyF n cs pl = 1) ∨ (orderF n cs = upN n ∧ ¬ woundL n cs = [] ∧ whyF n cs pl = 2) ∨ (orderF n cs = upN n ∧ woundL n cs = [] ∧ canF pl (upN n) = false ∧ whyF n cs pl = 3) ∨ (orderF n cs = upN n ∧ woundL n cs = [] ∧ canF pl (upN n) = true ∧ whyF n cs pl = 0) := by
 by_cases h1 : orderF n cs = upN n
 ·by_cases h2 : woundL n cs = []
  ·rw [why_free h h1 h2]
   cases hc : canF pl (upN n) with
   | false => exact .inr (.inr (.inl ⟨h1, h2, rfl, rfl⟩))
   | true => exact .inr (.inr (.inr ⟨h1, h2, rfl, rfl⟩))
  ·exact .inr (.inl ⟨h1, h2, whyF_2 h h1 h2⟩)
 ·exact .inl ⟨h1, whyF_1 h h1⟩
theorem co_cross {n : Nat} {cs : List RCross} {pl : List RPl} (h : CoOk n cs pl) (f : Bool) : withB n cs pl [(0, f)] = (decide (1 < n) && decide (cs.length < 40)) := by
 have hc := company_n h.ok
 have h2 := h.n2
 obtain ⟨c1, c2, c3⟩ := crosses_len hc.1
 rw [withB, h.ok, Bool.true_and, companyB, hc.2, Bool.and_true]
 by_cases h40 : cs.length < 40
 ·rw [decide_eq_true h40, decide_eq_true (show 1 < n by omega)]
  refine crosses_t (inB_iff.2 c1) (by rw [List.length_append, List.length_singleton]; omega) ?_
  rw [List.all_append, (List.all_eq_true.2 (fun c hcm => inB_iff.2 (c3 c hcm)) : cs.all (crossB n) = true)]
  simp [crossB, inB]; omega
 ·rw [decide_eq_false h40, Bool.and_false, crossesB, show decide ((cs ++ [((0 : Int), f)]).length ≤ 40) = false by rw [List.length_append, List.length_singleton]; simp; omega]
  simp
end Go.Proofs.Ytpfengpbehjbiaa
