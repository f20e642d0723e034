/- Plain: numbers joined by commas; a theatre as lines. No program in sight. -/
import Derived.Test.YteidpejjjphecaaGreatDoorH3
import Derived.Test.YteidpejjjphecaaGreatDoorBdK3x9
import Derived.Test.YteidpejjjphecaaGreatDoorY2
import Derived.Test.YteidpejjjphecaaGreatDoorBdY7x8
namespace Go.Proofs.YteidpejjjphecaaGreatDoor
open Go.RowKit
def com1 : ByteArray := ⟨#[44]⟩
def addC (s : ByteArray) (n : Int) : ByteArray := (s ++ com1) ++ numS n
def numsT : List Int → ByteArray
 | [] => ByteArray.empty
 | n :: l => l.foldl addC (numS n)
theorem foldC_list (l : List Int) : ∀ w : ByteArray, (l.foldl addC w).data.toList = (l.map Lib.itoa).foldl (jnStep 44) w.data.toList := by
 induction l with
 | nil => intro w; rfl
 | cons n l ih =>
  intro w
  rw [List.foldl_cons, ih, List.map_cons, List.foldl_cons]
  congr 1
  simp [addC, jnStep, ByteArray.data_append, com1, numS]
theorem numsT_list (l : List Int) : (numsT l).data.toList = jn 44 (l.map Lib.itoa) := by
 match l with
 | [] => rfl
 | n :: l =>
  show (l.foldl addC (numS n)).data.toList = (l.map Lib.itoa).foldl (jnStep 44) (Lib.itoa n)
  rw [foldC_list, numS_list]
theorem foldC_size (l : List Int) (h : ∀ n ∈ l, -9223372036854775808 ≤ n ∧ n ≤ 9223372036854775807) : ∀ w : ByteArray, (l.foldl addC w).size ≤ w.size + 22 * l.length := by
 induction l with
 | nil => intro w; simp
 | cons n l ih =>
  intro w
  rw [List.foldl_cons, List.length_cons]
  have h1 := ih (fun x hx => h x (List.mem_cons_of_mem _ hx)) (addC w n)
  have h2 := numS_size n (h n List.mem_cons_self)
  have h3 : (addC w n).size = w.size + 1 + (numS n).size := by
   unfold addC
   rw [ByteArray.size_append, ByteArray.size_append]; rfl
  omega
theorem numsT_size {l : List Int} (h : ∀ n ∈ l, -9223372036854775808 ≤ n ∧ n ≤ 9223372036854775807) : (numsT l).size ≤ 22 * l.length := by
 match l with
 | [] => exact Nat.le_refl _
 | n :: l =>
  have h1 := foldC_size l (fun x hx => h x (List.mem_cons_of_mem _ hx)) (numS n)
  have h2 := numS_size n (h n List.mem_cons_self)
  rw [List.length_cons]
  show (l.foldl addC (numS n)).size ≤ _
  omega
/- a theatre as lines -/
def wShows : ByteArray := ⟨#[115, 104, 111, 119, 115]⟩
def wMoney : ByteArray := ⟨#[109, 111, 110, 101, 121]⟩
def wPlayer : ByteArray := ⟨#[112, 108, 97, 121, 101, 114, 32]⟩
def wDash : ByteArray := ⟨#[45]⟩
def knowsT (l : List Int) : ByteArray := if l = [] then wDash else numsT l
def plyT (p : RPl) : ByteArray := ((wPlayer ++ numS p.2) ++ spc1) ++ knowsT p.1
def fmtL (n m : Int) (cs : List RCross) (pl : List RPl) (ds : List Int) : List ByteArray := (lineS wOrder (ordR n cs) :: pl.map plyT) ++ [lineS wShows ds, lineS wWhy [whyF n cs pl], lineS wMoney [m]]
def fmtT (n m : Int) (cs : List RCross) (pl : List RPl) (ds : List Int) : List ByteArray := if theatreB n m cs pl ds = true then fmtL n m cs pl ds else []
theorem fmt_ok {n m : Int} {cs : List RCross} {pl : List RPl} {ds : List Int} (h : theatreB n m cs pl ds = true) :
  ((ordR n cs).length ≤ 7 ∧ ∀ x ∈ ordR n cs, 0 ≤ x ∧ x ≤ 6) ∧ (pl.length ≤ 6 ∧ ∀ p ∈ pl, (p.1.length ≤ 7 ∧ ∀ x ∈ p.1, 0 ≤ x ∧ x ≤ 6) ∧ 0 ≤ p.2 ∧ p.2 ≤ 2) ∧ (ds.length ≤ 60 ∧ ∀ x ∈ ds, 0 ≤ x ∧ x ≤ 365) ∧ (0 ≤ whyF n cs pl ∧ whyF n cs pl ≤ 3) ∧ (0 ≤ m ∧ m ≤ 1000000) := by
 rw [theatreB, Bool.and_eq_true, Bool.and_eq_true] at h
 obtain ⟨⟨hc, hk⟩, hm⟩ := h
 have hc' := hc
 rw [companyB, Bool.and_eq_true] at hc'
 have hcl := crosses_len hc'.1
 have hp := hc'.2
 rw [playersB, Bool.and_eq_true] at hp
 rw [keepsB, Bool.and_eq_true, Bool.and_eq_true] at hk
 refine ⟨?_, ⟨by have := inB_iff.1 hp.2; omega, fun p hpm => ?_⟩, season_bd hk.1.1, ?_, inB_iff.1 hm⟩
 ·obtain ⟨k, rfl⟩ := Int.eq_ofNat_of_zero_le (show 0 ≤ n by omega)
  rw [ordR_t hc'.1, orderF_len]
  refine ⟨by omega, fun x hx => ?_⟩
  have := upN_mem.1 ((orderF_perm hcl.2.2).mem_iff.1 hx)
  omega
 ·have h1 := List.all_eq_true.1 hp.1 p hpm
  rw [playerB, Bool.and_eq_true] at h1
  exact ⟨⟨strict_len (m := 6) h1.1, (strict_lt h1.1).2⟩, inB_iff.1 h1.2⟩
 ·unfold whyF
  rw [if_pos hc]
  (repeat' split) <;> omega
theorem fmtT_t {n m : Int} {cs : List RCross} {pl : List RPl} {ds : List Int} (h : theatreB n m cs pl ds = true) : fmtT n m cs pl ds = fmtL n m cs pl ds := if_pos h
theorem fmtT_f {n m : Int} {cs : List RCross} {pl : List RPl} {ds : List Int} (h : theatreB n m cs pl ds = false) : fmtT n m cs pl ds = [] := if_neg (by rw [h]; simp)
theorem fmtL_len (n m : Int) (cs : List RCross) (pl : List RPl) (ds : List Int) : (fmtL n m cs pl ds).length = pl.length + 4 := by simp [fmtL]
end Go.Proofs.YteidpejjjphecaaGreatDoor
