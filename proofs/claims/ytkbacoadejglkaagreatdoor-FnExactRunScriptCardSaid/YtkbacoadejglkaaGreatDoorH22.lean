/- Plain: a text cut at newlines as the reference goes through it; acts that were read give numbers that are none below 0. No program in sight. -/
import Derived.Test.YtkbacoadejglkaaGreatDoorH19
import Derived.Test.YtkbacoadejglkaaGreatDoorBdH5x3
namespace Go.Proofs.YtkbacoadejglkaaGreatDoor
open Go.RowKit
def LnSt (s : ByteArray) (k b : Nat) (ln : List ByteArray) : Prop := b <= k /\ (zdz (s.data.toList.take k)).1 = ln.map (fun x => x.data.toList) /\ (zdz (s.data.toList.take k)).2 = (s.data.toList.take k).drop b
theorem LnSt.zero (s : ByteArray) : LnSt s 0 0 [] := ⟨Nat.le_refl _, rfl, rfl⟩
theorem zqy {s : ByteArray} {b k : Nat} (hk : k <= s.size) : (s.data.toList.take k).drop b = (s.extract b k).data.toList := by
 rw [<- zkw (s := s) (b := b) hk, zd7]
theorem LnSt.other {s : ByteArray} {k b : Nat} {ln : List ByteArray} (h : LnSt s k b ln) (hk : k < s.size) (hc : s[k] ≠ 10) : LnSt s (k + 1) b ln := by
 obtain ⟨h1, h2, h3⟩ := h; have hl : (s.data.toList.take k).length = k := by rw [List.length_take]; simp; omega
 refine ⟨by omega, ?_, ?_⟩
 ·rw [zjl hk, zgt]
  unfold zbu; rw [if_neg hc]; exact h2
 ·rw [zjl hk, zgt]
  unfold zbu; rw [if_neg hc, List.drop_append_of_le_length (by omega)]
  show (zdz (s.data.toList.take k)).2 ++ [s[k]] = _
  rw [h3]
theorem LnSt.nl {s : ByteArray} {k b : Nat} {ln : List ByteArray} (h : LnSt s k b ln) (hk : k < s.size) (hc : s[k] = 10) : LnSt s (k + 1) (k + 1) (ln ++ [s.extract b k]) := by
 obtain ⟨h1, h2, h3⟩ := h; refine ⟨Nat.le_refl _, ?_, ?_⟩
 ·rw [zjl hk, zgt]
  unfold zbu; rw [if_pos hc]
  show (zdz (s.data.toList.take k)).1 ++ [(zdz (s.data.toList.take k)).2] = _
  rw [h2, h3, zqy (by omega)]
  simp
 ·have hl : (s.data.toList.take (k + 1)).length <= k + 1 := by rw [List.length_take]; omega
  rw [List.drop_eq_nil_of_le hl, zjl hk, zgt]; unfold zbu; rw [if_pos hc]
theorem LnSt.fin {s : ByteArray} {b : Nat} {ln : List ByteArray} (h : LnSt s s.size b ln) : splB s = ln ++ [s.extract b s.size] := by
 obtain ⟨h1, h2, h3⟩ := h; have ht : s.data.toList.take s.size = s.data.toList := List.take_of_length_le (Nat.le_of_eq (by simp))
 have e : (splB s).map (fun x => x.data.toList) = (ln ++ [s.extract b s.size]).map (fun x => x.data.toList) := by
  rw [show (splB s).map (fun x => x.data.toList) = lins s.data.toList from zje s]
  unfold lins; rw [ht] at h2; rw [h2, List.map_append, List.map_singleton, <- zqy (Nat.le_refl _)]; rw [ht] at h3 ⊢; rw [h3]
 have hb : ∀ L : List ByteArray, (L.map (fun x => x.data.toList)).map baL = L := fun L => by
  rw [List.map_map]; exact (List.map_congr_left (g := id) (fun x _ => ztm x)).trans (List.map_id _)
 rw [<- hb (splB s), e, hb]
theorem LnSt.pre {s : ByteArray} {k b : Nat} {ln : List ByteArray} (h : LnSt s k b ln) : ∃ rest, splB s = ln ++ rest := by
 obtain ⟨_, h2, _⟩ := h
 have e0 : zdz s.data.toList = (s.data.toList.drop k).foldl zbu (zdz (s.data.toList.take k)) := by
  unfold zdz; rw [<- List.foldl_append, List.take_append_drop]
 have e1 := zuy (s.data.toList.drop k) (zdz (s.data.toList.take k)).1 (zdz (s.data.toList.take k)).2
 have e2 : lins s.data.toList = ln.map (fun x => x.data.toList) ++ (((s.data.toList.drop k).foldl zbu ([], (zdz (s.data.toList.take k)).2)).1 ++ [((s.data.toList.drop k).foldl zbu ([], (zdz (s.data.toList.take k)).2)).2]) := by
  unfold lins; rw [e0, show zdz (s.data.toList.take k) = ((zdz (s.data.toList.take k)).1, (zdz (s.data.toList.take k)).2) from rfl, e1, h2, List.append_assoc]
 have e3 : (splB s).map (fun x => x.data.toList) = lins s.data.toList := zje s
 have hb : ∀ L : List ByteArray, (L.map (fun x => x.data.toList)).map baL = L := fun L => by
  rw [List.map_map]; exact (List.map_congr_left (g := id) (fun x _ => ztm x)).trans (List.map_id _)
 refine ⟨(((s.data.toList.drop k).foldl zbu ([], (zdz (s.data.toList.take k)).2)).1 ++ [((s.data.toList.drop k).foldl zbu ([], (zdz (s.data.toList.take k)).2)).2]).map baL, ?_⟩; rw [<- hb (splB s), e3, e2, List.map_append, hb]
theorem zzk {ln rest : List ByteArray} (h : zbh ln = none) : zbh (ln ++ rest) = none := by
 unfold zbh at h ⊢; rw [List.foldl_append, h]; exact zqc _
theorem zq0 {s : ByteArray} {k b : Nat} {ln : List ByteArray} (h : LnSt s k b ln) (hk : k <= s.size) (hc : ∀ hlt : k < s.size, s[k] = 10) :
  (zbh (ln ++ [s.extract b k]) = none -> zbh (splB s) = none) /\ (k + 1 <= s.size -> LnSt s (k + 1) (k + 1) (ln ++ [s.extract b k])) /\ (k + 1 = s.size + 1 -> splB s = ln ++ [s.extract b k]) := by
 refine ⟨fun h2 => ?_, fun h2 => h.nl (by omega) (hc (by omega)), fun h2 => ?_⟩
 ·by_cases hlt : k < s.size
  ·obtain ⟨rest, e⟩ := (h.nl hlt (hc hlt)).pre
   rw [e]; exact zzk h2
  ·obtain rfl : k = s.size := by omega
   rw [h.fin]; exact h2
 ·obtain rfl : k = s.size := by omega
  exact h.fin
theorem zxv (ln : List ByteArray) (x : ByteArray) : zbh (ln ++ [x]) = zfu (zbh ln) x := by
 unfold zbh; rw [List.foldl_append]; rfl
theorem zzx (ls : List ByteArray) : ∀ (l0 l : List RA), ls.foldl zfu (some l0) = some l -> (∀ t ∈ l0, actB t.1 t.2.1 t.2.2 = true) -> (∀ t ∈ l, actB t.1 t.2.1 t.2.2 = true) /\ l.length <= l0.length + ls.length := by
 induction ls with
 | nil => intro l0 l h h0; cases h; exact ⟨h0, by simp⟩
 | cons x ls ih =>
  intro l0 l h h0; rw [List.foldl_cons] at h
  by_cases h1 : fldB x = true /\ fldF x = []
  ·rw [show zfu (some l0) x = some l0 from if_pos h1] at h
   have := ih l0 l h h0; exact ⟨this.1, by have := this.2; rw [List.length_cons]; omega⟩
  ·by_cases h2 : (prsA x).2 = true
   ·rw [show zfu (some l0) x = some (l0 ++ [(prsA x).1]) from (if_neg h1).trans (if_pos h2)] at h
    have := ih _ l h (fun t ht => by
     rcases List.mem_append.1 ht with ht | ht
     ·exact h0 t ht
     ·simp at ht; subst ht
      unfold prsA at h2 ⊢
      split at h2
      ·rename_i hf
       rw [if_pos hf]; exact prs_ok h2
      ·cases h2)
    exact ⟨this.1, by have := this.2; simp at this ⊢; omega⟩
   ·rw [show zfu (some l0) x = none from (if_neg h1).trans (if_neg h2), zqc] at h
    cases h
 where
 prs_ok {fs : List ByteArray} (h : (spcA fs).2 = true) : actB (spcA fs).1.1 (spcA fs).1.2.1 (spcA fs).1.2.2 = true := by
  have key : ∀ (a b : Int) (ks : List Int), (ze6 fs a b ks).2 = true -> actB (ze6 fs a b ks).1.1 (ze6 fs a b ks).1.2.1 (ze6 fs a b ks).1.2.2 = true := by
   intro a b ks
   induction ks with
   | nil => intro h; cases h
   | cons k ks ih =>
    intro h; rw [ze6] at h ⊢
    by_cases hf : (finA (k, a, b) fs).2 = true
    ·rw [if_pos hf]
     obtain ⟨e, h3, _⟩ := znr hf; rw [e]; exact h3
    ·rw [if_neg hf] at h ⊢
     exact ih h
  unfold spcA at h ⊢
  split at h
  ·cases h
  ·rename_i hn
   rw [if_neg hn]; exact key _ _ _ h
theorem z0e {ls : List ByteArray} {l : List RA} (h : zbh ls = some l) : (∀ t ∈ l, actB t.1 t.2.1 t.2.2 = true) /\ l.length <= ls.length := by
 have := zzx ls [] l h (fun t ht => by simp at ht)
 simpa using this
theorem zzq {t : Th} {a : RAct} (h : t.ok = true) (ha : actB a.1 a.2.1 a.2.2 = true) : 0 <= (doF t a).2 := by
 unfold doF; rw [if_pos ⟨h, ha⟩]; unfold zg3
 have hw : 0 <= whyF t.n t.cs t.pl := by
  have h2 : zau t.n t.m t.cs t.pl t.ds = true := h; exact (zr4 h2).2.2.2.1.1
 have hb : ∀ b, 0 <= numB b := fun b => by cases b <;> decide
 (repeat' split) <;> first | exact hb _ | exact hw
theorem zwg (acts : List RAct) : ∀ (t : Th) (ns : List Int), t.ok = true -> (∀ a ∈ acts, actB a.1 a.2.1 a.2.2 = true) -> (∀ x ∈ ns, 0 <= x) -> ∀ x ∈ (acts.foldl zhg (t, ns)).2, 0 <= x := by
 induction acts with
 | nil => intro t ns _ _ h x hx; exact h x hx
 | cons a acts ih =>
  intro t ns h ha hn; refine ih (doF t a).1 (ns ++ [(doF t a).2]) (z0i h a) (fun x hx => ha x (List.mem_cons_of_mem _ hx)) (fun x hx => ?_)
  rcases List.mem_append.1 hx with hx | hx
  ·exact hn x hx
  ·simp at hx; subst hx; exact zzq h (ha a List.mem_cons_self)
theorem zv3 {l : List RAct} (h : ∀ a ∈ l, actB a.1 a.2.1 a.2.2 = true) : ∀ x ∈ (zci smpT l).2, 0 <= x := by
 unfold zci
 split
 ·exact zwg l smpT [] (by decide) h (fun x hx => by simp at hx)
 ·intro x hx; simp at hx
end Go.Proofs.YtkbacoadejglkaaGreatDoor
