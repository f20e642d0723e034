/- Plain: what RunScript computes of a text. No program in sight. -/
import Derived.Test.YtkbacoadejglkaaGreatDoorH4
import Derived.Test.YtkbacoadejglkaaGreatDoorH15
import Derived.Test.YtkbacoadejglkaaGreatDoorBdZ5x8
namespace Go.Proofs.YtkbacoadejglkaaGreatDoor
open Go.RowKit
def splB (s : ByteArray) : List ByteArray := Lib.splitB ⟨#[10]⟩ 0 (Lib.countB s ⟨#[10]⟩) s
theorem zqw (s : ByteArray) : (splB s).length = Lib.countB s ⟨#[10]⟩ + 1 := Lib.splitB_all _ (by decide) 0 _ s rfl
theorem zty (s : ByteArray) : Lib.countB s ⟨#[10]⟩ <= s.size := Lib.countB_le _ (by decide) _ s (Nat.le_refl _)
theorem zy3 (l : List UInt8) : ∀ (o : List (List UInt8)) (cur : List UInt8) (n : Nat), (∀ x ∈ o, x.length <= n) -> cur.length <= n -> (∀ x ∈ (l.foldl zbu (o, cur)).1, x.length <= n + l.length) /\ (l.foldl zbu (o, cur)).2.length <= n + l.length := by
 induction l with
 | nil => intro o cur n h1 h2; exact ⟨fun x hx => by have := h1 x hx; simpa using this, by simpa using h2⟩
 | cons c l ih =>
  intro o cur n h1 h2; rw [List.foldl_cons, List.length_cons]; unfold zbu
  by_cases hc : c = 10
  ·rw [if_pos hc]
   have := ih (o ++ [cur]) [] n (fun x hx => by
    rcases List.mem_append.1 hx with hx | hx
    ·exact h1 x hx
    ·simp at hx; subst hx; exact h2) (Nat.zero_le _)
   unfold zbu at this; exact ⟨fun x hx => Nat.le_trans (this.1 x hx) (by omega), Nat.le_trans this.2 (by omega)⟩
  ·rw [if_neg hc]
   have := ih o (cur ++ [c]) (n + 1) (fun x hx => by have := h1 x hx; omega) (by simp; omega)
   unfold zbu at this; exact ⟨fun x hx => Nat.le_trans (this.1 x hx) (by omega), Nat.le_trans this.2 (by omega)⟩
theorem zx7 {L x : List UInt8} (h : x ∈ lins L) : x.length <= L.length := by
 have := zy3 L [] [] 0 (fun x hx => by simp at hx) (Nat.le_refl _)
 unfold lins zdz at h
 rcases List.mem_append.1 h with h | h
 ·have := this.1 x h; omega
 ·simp at h; subst h; have := this.2; omega
theorem zyq {s x : ByteArray} (h : x ∈ splB s) : x.size <= s.size := by
 have h1 : x.data.toList ∈ (splB s).map (fun x => x.data.toList) := List.mem_map.2 ⟨x, h, rfl⟩
 rw [show (splB s).map (fun x => x.data.toList) = lins s.data.toList from zje s] at h1
 have h2 := zx7 h1; have e1 : x.data.toList.length = x.size := by simp
 have e2 : s.data.toList.length = s.size := by simp
 omega
def zfu (st : Option (List RA)) (line : ByteArray) : Option (List RA) :=
 match st with
 | none => none
 | some l => if fldB line = true /\ fldF line = [] then some l else if (prsA line).2 = true then some (l ++ [(prsA line).1]) else none
def zbh (ls : List ByteArray) : Option (List RA) := ls.foldl zfu (some [])
theorem zp7 (ls : List ByteArray) {k : Nat} (h : k < ls.length) : zbh (ls.take (k + 1)) = zfu (zbh (ls.take k)) ls[k] := zbl _ _ ls h
theorem zqc (ls : List ByteArray) : ls.foldl zfu none = none := by
 induction ls with
 | nil => rfl
 | cons x ls ih => exact ih
theorem z0a {ls : List ByteArray} {k : Nat} (h : zbh (ls.take k) = none) : zbh ls = none := by
 have e : ls = ls.take k ++ ls.drop k := (List.take_append_drop k ls).symm; unfold zbh at h ⊢; rw [e, List.foldl_append, h]; exact zqc _
theorem zyb {ls : List ByteArray} {l : List RA} {k : Nat} (hk : k < ls.length) (h : zbh (ls.take k) = some l) (h1 : fldB ls[k] = true) (h2 : fldF ls[k] = []) : zbh (ls.take (k + 1)) = some l := by
 rw [zp7 ls hk, h]; exact if_pos ⟨h1, h2⟩
theorem zzw {ls : List ByteArray} {l : List RA} {k : Nat} (hk : k < ls.length) (h : zbh (ls.take k) = some l) (h1 : ¬ (fldB ls[k] = true /\ fldF ls[k] = [])) (h2 : (prsA ls[k]).2 = true) : zbh (ls.take (k + 1)) = some (l ++ [(prsA ls[k]).1]) := by
 rw [zp7 ls hk, h]
 show (if _ then _ else if _ then _ else _) = _
 rw [if_neg h1, if_pos h2]
theorem z0g {ls : List ByteArray} {l : List RA} {k : Nat} (hk : k < ls.length) (h : zbh (ls.take k) = some l) (h1 : ¬ (fldB ls[k] = true /\ fldF ls[k] = [])) (h2 : (prsA ls[k]).2 = false) : zbh ls = none := by
 refine z0a (k := k + 1) ?_; rw [zp7 ls hk, h]
 show (if _ then _ else if _ then _ else _) = _
 rw [if_neg h1, if_neg (by rw [h2]; simp)]
def smpT : Th := ⟨3, 60, [], zft, []⟩
def zjv (l : List RA) : List ByteArray := (zci smpT l).2.map numS ++ fmtT (zci smpT l).1.n (zci smpT l).1.m (zci smpT l).1.cs (zci smpT l).1.pl (zci smpT l).1.ds
def rsL (s : ByteArray) : Option (List RA) := if s.size <= 20000 then zbh (splB s) else none
def rsF (s : ByteArray) : List ByteArray × Bool :=
 match rsL s with
 | none => ([], false)
 | some l => if l.length <= 40 then (zjv l, true) else ([], false)
theorem zen {s : ByteArray} (h : rsL s = none) : rsF s = ([], false) := by unfold rsF; rw [h]
theorem zqr {s : ByteArray} {l : List RA} (h : rsL s = some l) (h2 : ¬ l.length <= 40) : rsF s = ([], false) := by unfold rsF; rw [h]; exact if_neg h2
theorem zzv {s : ByteArray} {l : List RA} (h : rsL s = some l) (h2 : l.length <= 40) : rsF s = (zjv l, true) := by unfold rsF; rw [h]; exact if_pos h2
theorem zzj (n : Int) (cs : List zad) (pl : List RPl) : -1 <= whyF n cs pl /\ whyF n cs pl <= 3 := by
 unfold whyF
 (repeat' split) <;> omega
theorem zyu (b : Bool) : -1 <= numB b /\ numB b <= 3 := by cases b <;> decide
theorem z0b (t : Th) (a : RAct) : -1 <= (doF t a).2 /\ (doF t a).2 <= 3 := by
 unfold doF
 split
 ·unfold zg3
  (repeat' split) <;> first | exact zyu _ | exact zzj _ _ _
 ·show (-1 : Int) <= -1 /\ (-1 : Int) <= 3
  omega
theorem zx3 (acts : List RAct) : ∀ (t : Th) (ns : List Int), (∀ x ∈ ns, -1 <= x /\ x <= 3) -> ∀ x ∈ (acts.foldl zhg (t, ns)).2, -1 <= x /\ x <= 3 := by
 induction acts with
 | nil => intro t ns h x hx; exact h x hx
 | cons a acts ih =>
  intro t ns h; refine ih (doF t a).1 (ns ++ [(doF t a).2]) (fun x hx => ?_)
  rcases List.mem_append.1 hx with hx | hx
  ·exact h x hx
  ·simp at hx; subst hx; exact z0b t a
theorem zub (t : Th) (acts : List RAct) : ∀ x ∈ (zci t acts).2, -1 <= x /\ x <= 3 := by
 unfold zci
 split
 ·exact zx3 acts t [] (fun x hx => by simp at hx)
 ·intro x hx; simp at hx
end Go.Proofs.YtkbacoadejglkaaGreatDoor
