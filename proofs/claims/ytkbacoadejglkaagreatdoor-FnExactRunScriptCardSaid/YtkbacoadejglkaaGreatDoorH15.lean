/- Plain: numbers joined by commas; a theatre as lines. No program in sight. -/
import Derived.Test.YtkbacoadejglkaaGreatDoorBdH3x3
import Derived.Test.YtkbacoadejglkaaGreatDoorBdY7x8
namespace Go.Proofs.YtkbacoadejglkaaGreatDoor
open Go.RowKit
def com1 : ByteArray := ⟨#[44]⟩
def addC (s : ByteArray) (n : Int) : ByteArray := (s ++ com1) ++ numS n
def zem : List Int -> ByteArray
 | [] => ByteArray.empty
 | n :: l => l.foldl addC (numS n)
theorem zse (l : List Int) : ∀ w : ByteArray, (l.foldl addC w).data.toList = (l.map Lib.itoa).foldl (zdw 44) w.data.toList := by
 induction l with
 | nil => intro w; rfl
 | cons n l ih =>
  intro w; rw [List.foldl_cons, ih, List.map_cons, List.foldl_cons]
  congr 1
  simp [addC, zdw, ByteArray.data_append, com1, numS]
theorem zsd (l : List Int) : (zem l).data.toList = jn 44 (l.map Lib.itoa) := by
 match l with
 | [] => rfl
 | n :: l =>
  show (l.foldl addC (numS n)).data.toList = (l.map Lib.itoa).foldl (zdw 44) (Lib.itoa n)
  rw [zse, zc2]
theorem zqf {l : List Int} (h : 0 < l.length) : zem (l.take 1) = numS l[0] := by
 match l, h with
 | n :: l, _ => rfl
theorem zr8 {l : List Int} {k : Nat} (h0 : 0 < k) (hk : k < l.length) : zem (l.take (k + 1)) = addC (zem (l.take k)) l[k] := by
 match l, k, h0, hk with
 | n :: l, k + 1, _, hk =>
  have hk' : k < l.length := by simpa using hk
  rw [List.take_succ_cons, List.take_succ_cons, List.take_succ_eq_append_getElem hk']
  show (l.take k ++ [l[k]]).foldl addC (numS n) = addC ((l.take k).foldl addC (numS n)) l[k]
  rw [List.foldl_append]; rfl
theorem zsp (l : List Int) (h : ∀ n ∈ l, -9223372036854775808 <= n /\ n <= 9223372036854775807) : ∀ w : ByteArray, (l.foldl addC w).size <= w.size + 22 * l.length := by
 induction l with
 | nil => intro w; simp
 | cons n l ih =>
  intro w; rw [List.foldl_cons, List.length_cons]; have h1 := ih (fun x hx => h x (List.mem_cons_of_mem _ hx)) (addC w n)
  have h2 := zb0 n (h n List.mem_cons_self)
  have h3 : (addC w n).size = w.size + 1 + (numS n).size := by
   unfold addC; rw [ByteArray.size_append, ByteArray.size_append]; rfl
  omega
theorem ziu {l : List Int} (h : ∀ n ∈ l, -9223372036854775808 <= n /\ n <= 9223372036854775807) : (zem l).size <= 22 * l.length := by
 match l with
 | [] => exact Nat.le_refl _
 | n :: l =>
  have h1 := zsp l (fun x hx => h x (List.mem_cons_of_mem _ hx)) (numS n)
  have h2 := zb0 n (h n List.mem_cons_self); rw [List.length_cons]
  show (l.foldl addC (numS n)).size <= _
  omega
/- a theatre as lines -/
def zcl : ByteArray := ⟨#[115, 104, 111, 119, 115]⟩
def zfw : ByteArray := ⟨#[109, 111, 110, 101, 121]⟩
def zlj : ByteArray := ⟨#[112, 108, 97, 121, 101, 114, 32]⟩
def zhl : ByteArray := ⟨#[45]⟩
def zn3 (l : List Int) : ByteArray := if l = [] then zhl else zem l
def plyT (p : RPl) : ByteArray := ((zlj ++ numS p.2) ++ spc1) ++ zn3 p.1
def fmtL (n m : Int) (cs : List zad) (pl : List RPl) (ds : List Int) : List ByteArray := (za6 zd3 (ordR n cs) :: pl.map plyT) ++ [za6 zcl ds, za6 wWhy [whyF n cs pl], za6 zfw [m]]
def fmtT (n m : Int) (cs : List zad) (pl : List RPl) (ds : List Int) : List ByteArray := if zau n m cs pl ds = true then fmtL n m cs pl ds else []
theorem zr4 {n m : Int} {cs : List zad} {pl : List RPl} {ds : List Int} (h : zau n m cs pl ds = true) :
  ((ordR n cs).length <= 7 /\ ∀ x ∈ ordR n cs, 0 <= x /\ x <= 6) /\ (pl.length <= 6 /\ ∀ p ∈ pl, (p.1.length <= 7 /\ ∀ x ∈ p.1, 0 <= x /\ x <= 6) /\ 0 <= p.2 /\ p.2 <= 2) /\ (ds.length <= 60 /\ ∀ x ∈ ds, 0 <= x /\ x <= 365) /\ (0 <= whyF n cs pl /\ whyF n cs pl <= 3) /\ (0 <= m /\ m <= 1000000) := by
 rw [zau, Bool.and_eq_true, Bool.and_eq_true] at h; obtain ⟨⟨hc, hk⟩, hm⟩ := h; have hc' := hc; rw [za7, Bool.and_eq_true] at hc'; have hcl := za2 hc'.1; have hp := hc'.2; rw [zbt, Bool.and_eq_true] at hp; rw [zgo, Bool.and_eq_true, Bool.and_eq_true] at hk; refine ⟨?_, ⟨by have := zbg.1 hp.2; omega, fun p hpm => ?_⟩, zgh hk.1.1, ?_, zbg.1 hm⟩
 ·obtain ⟨k, rfl⟩ := Int.eq_ofNat_of_zero_le (show 0 <= n by omega)
  rw [zjm hc'.1, zfn]; refine ⟨by omega, fun x hx => ?_⟩
  have := ztd.1 ((zle hcl.2.2).mem_iff.1 hx)
  omega
 ·have h1 := List.all_eq_true.1 hp.1 p hpm
  rw [zc1, Bool.and_eq_true] at h1; exact ⟨⟨zed (m := 6) h1.1, (zn2 h1.1).2⟩, zbg.1 h1.2⟩
 ·unfold whyF
  rw [if_pos hc]
  (repeat' split) <;> omega
theorem znb (n m : Int) (cs : List zad) (pl : List RPl) (ds : List Int) : (fmtT n m cs pl ds).length <= 10 := by
 unfold fmtT
 split
 ·rename_i h
  have := (zr4 h).2.1.1
  simp [fmtL]; omega
 ·simp
theorem zw1 {n m : Int} {cs : List zad} {pl : List RPl} {ds : List Int} (h : zau n m cs pl ds = true) : fmtT n m cs pl ds = fmtL n m cs pl ds := if_pos h
theorem zxn {n m : Int} {cs : List zad} {pl : List RPl} {ds : List Int} (h : zau n m cs pl ds = false) : fmtT n m cs pl ds = [] := if_neg (by rw [h]; simp)
end Go.Proofs.YtkbacoadejglkaaGreatDoor
