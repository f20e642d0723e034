/- Several texts in one: Plain laws of acts: what an act does to the money, the days and the order. No program in sight. Plain laws of drawn theatres: when a show is given, a player hired or taught, a puppet moved. No program in sight. -/
import Derived.Test.YtlhdeojkpmpecaaGreatBdZ5x9
import Derived.Test.YtlhdeojkpmpecaaGreatBdB3x2
namespace Go.Proofs.YtlhdeojkpmpecaaGreat
open Go.RowKit
theorem ok_parts {t : Th} (h : t.ok = true) : companyB t.n t.cs t.pl = true ∧ keepsB t.ds 5 = true ∧ 0 ≤ t.m ∧ t.m ≤ 1000000 := by
 unfold Th.ok theatreB at h
 rw [Bool.and_eq_true, Bool.and_eq_true] at h
 exact ⟨h.1.1, h.1.2, inB_iff.1 h.2⟩
theorem keeps_season {l : List Int} {r : Int} (h : keepsB l r = true) : seasonB l = true := by
 rw [keepsB, Bool.and_eq_true, Bool.and_eq_true] at h
 exact h.1.1
theorem season_lt {l : List Int} (h : seasonB l = true) : l.Pairwise (· < ·) := by
 rw [seasonB, Bool.and_eq_true] at h
 exact (strict_lt h.2).1
theorem bec_1 {t u : Th} {ok : Bool} (h : (becF t u ok).2 = true) : (becF t u ok).1 = u ∧ ok = true ∧ u.ok = true := by
 unfold becF at h ⊢
 split
 ·rename_i h2; exact ⟨rfl, h2.2.1, h2.2.2⟩
 ·rename_i h2; rw [if_neg h2] at h; cases h
theorem wr_sub {m d : Int} (h : 0 ≤ m ∧ m ≤ 1000000) (hd : 0 ≤ d ∧ d ≤ 1000) : wrap64 (m - d) = m - d := by unfold wrap64; omega
theorem wr_add {m d : Int} (h : 0 ≤ m ∧ m ≤ 1000000) (hd : 0 ≤ d ∧ d ≤ 1000) : wrap64 (m + d) = m + d := by unfold wrap64; omega
theorem addF_has {l : List Int} {d : Int} (h : (addF l d).2 = true) : hasB l d = false ∧ hasB (addF l d).1 d = true ∧ (addF l d).1.length = l.length + 1 ∧ (addF l d).1 = putF d l := by
 unfold addF at h ⊢
 split
 ·rename_i h2
  have hp := season_lt h2.2
  refine ⟨?_, ?_, ?_, rfl⟩
  ·cases hb : hasB l d with
   | false => rfl
   | true =>
    have hm := hasB_iff.1 hb
    have hnd : (putF d l).Nodup := hp.imp (fun h => by omega)
    have := (putF_perm d l).nodup_iff.1 hnd
    rw [List.nodup_cons] at this
    exact absurd hm this.1
  ·exact hasB_iff.2 ((putF_perm d l).mem_iff.2 List.mem_cons_self)
  ·exact putF_len d l
 ·rename_i h2; rw [if_neg h2] at h; cases h
theorem show_t {t : Th} {d : Int} (h : (showF t d).2 = true) : whyF t.n t.cs t.pl = 0 ∧ hasB t.ds d = false ∧ hasB (showF t d).1.ds d = true ∧ (showF t d).1.ds.length = t.ds.length + 1 ∧ (showF t d).1.m = wrap64 (t.m + 30) ∧ (showF t d).1.ok = true := by
 obtain ⟨h1, h2, h3⟩ := bec_1 h
 have e : showF t d = (becF t ⟨t.n, wrap64 (t.m + 30), t.cs, t.pl, (addF t.ds d).1⟩ ((addF t.ds d).2 && (whyF t.n t.cs t.pl == 0))) := rfl
 rw [e, h1]
 rw [Bool.and_eq_true, beq_iff_eq] at h2
 obtain ⟨a1, a2, a3, _⟩ := addF_has h2.1
 exact ⟨h2.2, a1, a2, a3, rfl, h3⟩
theorem put_t {t : Th} (h : t.ok = true) (hp : (putT t).2 = true) : (putT t).1.n = t.n ∧ (putT t).1.m = t.m ∧ (putT t).1.ok = true ∧ (putT t).1.pl = t.pl ∧ (putT t).1.ds = t.ds ∧ crossesB t.n (putT t).1.cs = true ∧ orderF t.n.toNat (putT t).1.cs = upN t.n.toNat ∧ woundL t.n.toNat (putT t).1.cs = [] := by
 obtain ⟨h1, h2, h3⟩ := bec_1 hp
 have e : putT t = becF t ⟨t.n, t.m, putC t.n t.cs t.pl, t.pl, t.ds⟩ (goB t.n t.cs t.pl && untB t.n (goC t.n t.cs t.pl) t.pl) := rfl
 rw [e, h1]
 rw [Bool.and_eq_true] at h2
 obtain ⟨g1, g2⟩ := h2
 have hco := (ok_parts h).1
 refine ⟨rfl, rfl, h3, rfl, rfl, ?_⟩
 obtain ⟨t_n, t_m, cs, pl, ds⟩ := t
 dsimp only at *
 clear h1 h3 e hp
 obtain ⟨hx, hy⟩ := company_n hco
 obtain ⟨hn, _, _⟩ := crosses_len hx
 obtain ⟨n, rfl⟩ := Int.eq_ofNat_of_zero_le (show 0 ≤ t_n by omega)
 have hc1 := with_company g1
 have e1 : goC n cs pl = cs ++ homeL n cs := by unfold goC withC; exact if_pos g1
 have ho1 : orderF n (goC n cs pl) = upN n := by rw [e1]; exact home_order hx
 have hc2 := unt_company g2
 have hc3 := tidy_company hc2
 have hx1 := (company_n (show companyB n (goC n cs pl) pl = true from hc1)).1
 have e2 : untC n (goC n cs pl) pl = goC n cs pl ++ unwindL n (goC n cs pl) := by
  unfold untC
  rw [if_pos g2]
  rw [untB, Bool.and_eq_true] at g2
  unfold unwV
  rw [if_pos g2.1]; rfl
 obtain ⟨u1, u2⟩ := unwind_zero (crosses_len hx1).2.2 ho1
 rw [← e2] at u1 u2
 have hx2 := (company_n hc2).1
 have e3 : putC n cs pl = redF (untC n (goC n cs pl) pl) := by
  unfold putC tidyC
  rw [if_pos hc2]
  unfold redL
  rw [if_pos hx2]
 have hx3 : crossesB n (putC n cs pl) = true := by rw [e3]; exact redF_valid hx2
 refine ⟨hx3, ?_, ?_⟩
 ·show orderF n (putC n cs pl) = upN n
  rw [e3, redF_order hx2, u1]
 ·show woundL n (putC n cs pl) = []
  rw [e3, redF_wound hx2, u2]
open Go.RowKit
theorem putF_season {l : List Int} {d : Int} (h : seasonB l = true) (h13 : l.length ≤ 59) (hd : 0 ≤ d ∧ d ≤ 365) (hh : hasB l d = false) : seasonB (putF d l) = true := by
 have hp := season_lt h
 have hbd := season_bd h
 have hnm : d ∉ l := fun hm => by rw [hasB_iff.2 hm] at hh; cases hh
 have hlen : (putF d l).length ≤ 60 := by rw [putF_len]; omega
 rw [season_t hlen, strictB, Bool.and_eq_true]
 have hs := putF_sorted d l (hp.imp (fun h => by omega))
 have hn : (putF d l).Nodup := (putF_perm d l).nodup_iff.2 (List.nodup_cons.2 ⟨hnm, hp.imp (fun h => by omega)⟩)
 refine ⟨asc_of_pairwise _ ?_, List.all_eq_true.2 (fun x hx => inB_iff.2 ?_)⟩
 ·exact (hs.and hn).imp (fun h => by have := h.1; have := h.2; omega)
 ·rcases List.mem_cons.1 ((putF_perm d l).mem_iff.1 hx) with rfl | hx
  ·exact hd
  ·exact hbd.2 x hx
section
variable {n : Nat} {m : Int} {cs : List RCross} {pl : List RPl} {ds : List Int}
theorem show_no (h : ThOk n m cs pl ds) {d : Int} (hd : 0 ≤ d ∧ d ≤ 365) (hs : (showF ⟨n, m, cs, pl, ds⟩ d).2 = false) (hw : whyF n cs pl = 0) (hh : hasB ds d = false) (hm : m + 30 ≤ 1000000) : keepsB (addF ds d).1 5 = false := by
 have h13 := h.days
 have hse := keeps_season h.keeps
 have e := addF_t hse (putF_season hse (by omega) hd hh)
 have e1 : showF ⟨n, m, cs, pl, ds⟩ d = becF ⟨n, m, cs, pl, ds⟩ ⟨n, wrap64 (m + 30), cs, pl, (addF ds d).1⟩ ((addF ds d).2 && (whyF n cs pl == 0)) := rfl
 rw [e1] at hs
 have hmo := h.money
 cases hk : keepsB (addF ds d).1 5 with
 | false => rfl
 | true =>
  have hu : (⟨n, wrap64 (m + 30), cs, pl, (addF ds d).1⟩ : Th).ok = true := by
   show theatreB _ _ _ _ _ = true
   rw [theatreB, Bool.and_eq_true, Bool.and_eq_true]
   exact ⟨⟨h.co.ok, hk⟩, inB_iff.2 (by dsimp only; rw [wr_add (by omega) (by omega)]; omega)⟩
  have ho : ((addF ds d).2 && (whyF n cs pl == 0)) = true := by rw [e, hw]; rfl
  unfold becF at hs
  rw [if_pos ⟨h.ok, ho, hu⟩] at hs
  cases hs
theorem hire_iff (h : ThOk n m cs pl ds) : (hireF ⟨n, m, cs, pl, ds⟩ 1).2 = (decide (10 ≤ m) && decide (pl.length < 6)) := by
 have hmo := h.money
 have hl := h.co.len
 have hc := company_n h.co.ok
 have e1 : hireF ⟨n, m, cs, pl, ds⟩ 1 = becF ⟨n, m, cs, pl, ds⟩ ⟨n, wrap64 (m - 10), cs, pl ++ [([], 1)], ds⟩ true := rfl
 rw [e1]
 have hpa : (pl ++ [(([] : List Int), (1 : Int))]).all playerB = true := by
  rw [List.all_append, (by have := hc.2; rw [playersB, Bool.and_eq_true] at this; exact this.1 : pl.all playerB = true)]
  rfl
 have hok : (⟨n, wrap64 (m - 10), cs, pl ++ [([], 1)], ds⟩ : Th).ok = (decide (10 ≤ m) && decide (pl.length < 6)) := by
  show theatreB _ _ _ _ _ = _
  unfold theatreB companyB
  rw [hc.1, players_t hpa, h.keeps]
  dsimp only
  rw [wr_sub (by omega) (by omega)]
  simp only [Bool.true_and, Bool.and_true]
  have h1 : inB ((pl ++ [(([] : List Int), (1 : Int))]).length : Int) 1 6 = decide (pl.length < 6) := by
   rw [inB, List.length_append, List.length_singleton, show decide ((1 : Int) ≤ ((pl.length + 1 : Nat) : Int)) = true by simp; omega, Bool.true_and]
   exact decide_eq_decide.2 (by omega)
  have h2 : inB (m - 10) 0 1000000 = decide (10 ≤ m) := by
   rw [inB, show decide (m - 10 ≤ 1000000) = true by simp; omega, Bool.and_true]
   exact decide_eq_decide.2 (by omega)
  rw [h1, h2, Bool.and_comm]
 unfold becF
 rw [hok]
 cases hb : (decide (10 ≤ m) && decide (pl.length < 6)) with
 | false => rw [if_neg (by simp)]
 | true => rw [if_pos ⟨h.ok, rfl, rfl⟩]
theorem hire_t (h : ThOk n m cs pl ds) (hb : (hireF ⟨n, m, cs, pl, ds⟩ 1).2 = true) : (hireF ⟨n, m, cs, pl, ds⟩ 1).1.m = m - 10 ∧ (hireF ⟨n, m, cs, pl, ds⟩ 1).1.pl.length = pl.length + 1 := by
 have hmo := h.money
 have e1 : hireF ⟨n, m, cs, pl, ds⟩ 1 = becF ⟨n, m, cs, pl, ds⟩ ⟨n, wrap64 (m - 10), cs, pl ++ [([], 1)], ds⟩ true := rfl
 have h1 := (bec_1 (show (becF ⟨n, m, cs, pl, ds⟩ ⟨n, wrap64 (m - 10), cs, pl ++ [([], 1)], ds⟩ true).2 = true from hb)).1
 rw [e1, h1]
 exact ⟨wr_sub (by omega) (by omega), by simp⟩
theorem teach_ok (h : ThOk n m cs pl ds) : (teachF pl 0 6).2 = true ∧ playersB (teachF pl 0 6).1 = true := by
 have hl := h.co.len
 have hc := company_n h.co.ok
 have h0 : 0 < pl.length := by omega
 have hk : knowsB pl[0] 6 = false := by
  rw [knowsB, List.any_eq_false]
  intro y hy
  have := (strict_lt (h.co.knows _ (List.getElem_mem h0))).2 y hy
  simp; omega
 have hb : teachB pl ((0 : Nat) : Int) 6 = true := by
  rw [teach_v h0 hc.2 (inB_iff.2 (by omega)) (by decide), hk]; rfl
 have e := teachF_t h0 hb
 have e' : teachF pl 0 6 = (pl.set 0 (putF 6 pl[0].1, pl[0].2), true) := e
 rw [e']
 refine ⟨rfl, ?_⟩
 have hp := hc.2
 rw [playersB, Bool.and_eq_true] at hp ⊢
 refine ⟨List.all_eq_true.2 (fun x hx => ?_), by rw [List.length_set]; exact hp.2⟩
 rcases List.mem_or_eq_of_mem_set hx with hx | rfl
 ·exact List.all_eq_true.1 hp.1 x hx
 ·have hr := List.all_eq_true.1 hp.1 _ (List.getElem_mem h0)
  rw [playerB, Bool.and_eq_true] at hr
  refine playerB_t ?_ hr.2
  obtain ⟨s1, s2⟩ := strict_lt (h.co.knows _ (List.getElem_mem h0))
  have hnm : (6 : Int) ∉ pl[0].1 := fun hm => by have := s2 6 hm; omega
  rw [strictB, Bool.and_eq_true]
  have hs := putF_sorted 6 pl[0].1 (s1.imp (fun h => by omega))
  have hn : (putF 6 pl[0].1).Nodup := (putF_perm 6 pl[0].1).nodup_iff.2 (List.nodup_cons.2 ⟨hnm, s1.imp (fun h => by omega)⟩)
  refine ⟨asc_of_pairwise _ ?_, List.all_eq_true.2 (fun x hx => inB_iff.2 ?_)⟩
  ·exact (hs.and hn).imp (fun h => by have := h.1; have := h.2; omega)
  ·rcases List.mem_cons.1 ((putF_perm 6 pl[0].1).mem_iff.1 hx) with rfl | hx
   ·omega
   ·have := s2 x hx; omega
theorem teach_iff (h : ThOk n m cs pl ds) : (teachT ⟨n, m, cs, pl, ds⟩ 0 6).2 = decide (4 ≤ m) := by
 have hmo := h.money
 have hc := company_n h.co.ok
 obtain ⟨t1, t2⟩ := teach_ok h
 have e1 : teachT ⟨n, m, cs, pl, ds⟩ 0 6 = becF ⟨n, m, cs, pl, ds⟩ ⟨n, wrap64 (m - 4), cs, (teachF pl 0 6).1, ds⟩ (teachF pl 0 6).2 := rfl
 rw [e1, t1]
 have hok : (⟨n, wrap64 (m - 4), cs, (teachF pl 0 6).1, ds⟩ : Th).ok = decide (4 ≤ m) := by
  show theatreB _ _ _ _ _ = _
  unfold theatreB companyB
  rw [hc.1, t2, h.keeps]
  dsimp only
  rw [wr_sub (by omega) (by omega)]
  simp only [Bool.true_and]
  rw [inB, show decide (m - 4 ≤ 1000000) = true by simp; omega, Bool.and_true]
  exact decide_eq_decide.2 (by omega)
 unfold becF
 rw [hok]
 cases hb : decide (4 ≤ m) with
 | false => rw [if_neg (by simp)]
 | true => rw [if_pos ⟨h.ok, rfl, rfl⟩]
theorem teach_t (h : ThOk n m cs pl ds) (hb : (teachT ⟨n, m, cs, pl, ds⟩ 0 6).2 = true) : (teachT ⟨n, m, cs, pl, ds⟩ 0 6).1.m = m - 4 ∧ playersB (teachT ⟨n, m, cs, pl, ds⟩ 0 6).1.pl = true := by
 have hmo := h.money
 have e1 : teachT ⟨n, m, cs, pl, ds⟩ 0 6 = becF ⟨n, m, cs, pl, ds⟩ ⟨n, wrap64 (m - 4), cs, (teachF pl 0 6).1, ds⟩ (teachF pl 0 6).2 := rfl
 have h1 := (bec_1 (show (becF ⟨n, m, cs, pl, ds⟩ ⟨n, wrap64 (m - 4), cs, (teachF pl 0 6).1, ds⟩ (teachF pl 0 6).2).2 = true from hb)).1
 rw [e1, h1]
 exact ⟨wr_sub (by omega) (by omega), (teach_ok h).2⟩
theorem cross_iff (h : ThOk n m cs pl ds) (f : Bool) : withB n cs pl [(0, f)] = (decide (1 < n) && decide (cs.length < 40)) := by
 have hc := company_n h.co.ok
 have h2 := h.co.n2
 obtain ⟨c1, c2, c3⟩ := crosses_len hc.1
 rw [withB, h.co.ok, Bool.true_and, companyB, hc.2, Bool.and_true]
 by_cases h40 : cs.length < 40
 ·rw [decide_eq_true h40, decide_eq_true (show 1 < n by omega)]
  refine crosses_t (inB_iff.2 c1) (by rw [List.length_append, List.length_singleton]; omega) ?_
  rw [List.all_append, (List.all_eq_true.2 (fun c hcm => inB_iff.2 (c3 c hcm)) : cs.all (crossB n) = true)]
  simp [crossB, inB]; omega
 ·rw [decide_eq_false h40, Bool.and_false, crossesB, show decide ((cs ++ [((0 : Int), f)]).length ≤ 40) = false by rw [List.length_append, List.length_singleton]; simp; omega]
  simp
theorem move_iff (h : ThOk n m cs pl ds) : (moveF ⟨n, m, cs, pl, ds⟩ 0 true).2 = (decide (1 < n) && decide (cs.length < 40)) := by
 have e1 : moveF ⟨n, m, cs, pl, ds⟩ 0 true = becF ⟨n, m, cs, pl, ds⟩ ⟨n, m, withC n cs pl [(0, true)], pl, ds⟩ (withB n cs pl [(0, true)]) := rfl
 rw [e1]
 unfold becF
 rw [← cross_iff h true]
 cases hb : withB n cs pl [(0, true)] with
 | false => rw [if_neg (by simp)]
 | true => rw [if_pos ⟨h.ok, rfl, with_ok h.ok hb⟩]
end
theorem move_t {n : Nat} {m : Int} {cs : List RCross} {pl : List RPl} {ds : List Int} (hb : (moveF ⟨n, m, cs, pl, ds⟩ 0 true).2 = true) : (moveF ⟨n, m, cs, pl, ds⟩ 0 true).1.cs.length = cs.length + 1 := by
 have e1 : moveF ⟨n, m, cs, pl, ds⟩ 0 true = becF ⟨n, m, cs, pl, ds⟩ ⟨n, m, withC n cs pl [(0, true)], pl, ds⟩ (withB n cs pl [(0, true)]) := rfl
 obtain ⟨h1, h2, _⟩ := bec_1 (show (becF ⟨n, m, cs, pl, ds⟩ ⟨n, m, withC n cs pl [(0, true)], pl, ds⟩ (withB n cs pl [(0, true)])).2 = true from hb)
 rw [e1, h1]
 show (withC n cs pl [(0, true)]).length = _
 rw [withC, if_pos h2]; simp
end Go.Proofs.YtlhdeojkpmpecaaGreat
