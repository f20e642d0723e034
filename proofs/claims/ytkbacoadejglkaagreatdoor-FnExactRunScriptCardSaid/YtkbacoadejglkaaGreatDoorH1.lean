/- Numbers as texts, in plain words. No program in sight. -/
import Derived.Lib.ItoaLen
import Derived.Lib.AtoiTie
import Derived.Test.YtkbacoadejglkaaGreatDoorBdA1x8
namespace Go.Proofs.YtkbacoadejglkaaGreatDoor
open Go.RowKit
def spc1 : ByteArray := ⟨#[32]⟩
def numS (n : Int) : ByteArray := ⟨(Lib.itoa n).toArray⟩
theorem zfx {s t : ByteArray} (h : s.data.toList = t.data.toList) : s = t := by
 cases s; cases t
 congr 1
 exact Array.toList_inj.1 h
theorem zc2 (n : Int) : (numS n).data.toList = Lib.itoa n := by simp [numS]
theorem zdh (n : Nat) : Lib.itoa (n : Int) = Lib.decDigits n := by unfold Lib.itoa; rw [if_neg (by omega)]; rfl
theorem zhn {u : Nat} (h : u < 10) : Lib.decDigits u = [UInt8.ofNat (48 + u)] := by rw [Lib.decDigits, dif_pos h]
theorem zh2 {u : Nat} (h : ¬ u < 10) : Lib.decDigits u = Lib.decDigits (u / 10) ++ [UInt8.ofNat (48 + u % 10)] := by rw [Lib.decDigits, dif_neg h]
theorem zpm {u : Nat} (h : u < 10) : (UInt8.ofNat (48 + u)).toNat = 48 + u := by rw [UInt8.toNat_ofNat']; omega
theorem zgs (u : Nat) : ∀ c ∈ Lib.decDigits u, 48 <= c.toNat /\ c.toNat <= 57 := by
 induction u using Nat.strongRecOn with
 | _ u ih =>
  intro c hc
  by_cases h : u < 10
  ·rw [zhn h, List.mem_singleton] at hc
   subst hc; rw [zpm h]; omega
  ·rw [zh2 h] at hc
   rcases List.mem_append.1 hc with hc | hc
   ·exact ih (u / 10) (by omega) c hc
   ·rw [List.mem_singleton] at hc
    subst hc; rw [zpm (by omega)]; omega
theorem zw2 (u : Nat) : Lib.decDigits u ≠ [] := by
 by_cases h : u < 10
 ·rw [zhn h]; simp
 ·rw [zh2 h]; simp
theorem zy0 (k : Nat) : ∀ u : Nat, u < 10 ^ (k + 1) -> (Lib.decDigits u).length <= k + 1 := by
 induction k with
 | zero => intro u h; rw [zhn (by simpa using h)]; simp
 | succ k ih =>
  intro u h
  by_cases h10 : u < 10
  ·rw [zhn h10]; simp
  ·rw [zh2 h10, List.length_append]
   have := ih (u / 10) (by rw [Nat.pow_succ] at h; omega)
   simp; omega
theorem zpr (l : List UInt8) : ∀ (acc : Nat) (r : List UInt8), Lib.decFrom acc (l ++ r) = (Lib.decFrom acc l).bind (fun n => Lib.decFrom n r) := by
 induction l with
 | nil => intro acc r; rfl
 | cons a l ih =>
  intro acc r
  simp only [List.cons_append, Lib.decFrom]
  cases h : Lib.digitVal a with
  | none => rfl
  | some d => exact ih _ r
theorem zjr {u : Nat} (h : u < 10) : Lib.digitVal (UInt8.ofNat (48 + u)) = some u := by
 unfold Lib.digitVal; rw [zpm h, if_pos (by omega)]
 congr 1; omega
theorem zpt (u : Nat) : Lib.decFrom 0 (Lib.decDigits u) = some u := by
 induction u using Nat.strongRecOn with
 | _ u ih =>
  by_cases h : u < 10
  ·rw [zhn h]
   simp only [Lib.decFrom, zjr h]
   congr 1; omega
  ·rw [zh2 h, zpr, ih (u / 10) (by omega)]
   simp only [Option.bind_some, Lib.decFrom, zjr (show u % 10 < 10 by omega)]
   congr 1; omega
theorem zb0 (n : Int) (h : -9223372036854775808 <= n /\ n <= 9223372036854775807) : (numS n).size <= 21 := by
 have := Lib.itoa_length_le n h.1 h.2
 show (Lib.itoa n).toArray.size <= 21
 simpa using this
def pU (s : ByteArray) : Int × Bool :=
 match Lib.decFrom 0 s.data.toList with
 | some n => if n <= 1000000000 /\ Lib.decDigits n = s.data.toList then ((n : Int), true) else (0, false)
 | none => (0, false)
theorem zor {n : Nat} (h : n <= 1000000000) : pU (numS n) = ((n : Int), true) := by
 unfold pU; rw [zc2, zdh, zpt]
 simp only
 rw [if_pos ⟨h, trivial⟩]
theorem zd8 (s : ByteArray) : (∃ n : Nat, n <= 1000000000 /\ s = numS n /\ pU s = ((n : Int), true)) ∨ (pU s = (0, false) /\ ∀ n : Nat, n <= 1000000000 -> s ≠ numS n) := by
 by_cases h : ∃ n : Nat, n <= 1000000000 /\ s = numS n
 ·obtain ⟨n, h1, rfl⟩ := h
  exact .inl ⟨n, h1, rfl, zor h1⟩
 ·refine .inr ⟨?_, fun n h1 h2 => h ⟨n, h1, h2⟩⟩
  unfold pU
  split
  ·rename_i n hn
   split
   ·rename_i h2
    exact absurd ⟨n, h2.1, zfx (by rw [zc2, zdh, h2.2])⟩ h
   ·rfl
  ·rfl
theorem zuw {s : ByteArray} (h : 10 < s.size) : pU s = (0, false) := by
 rcases zd8 s with ⟨n, h1, h2, _⟩ | h2
 ·exfalso
  subst h2; have := zy0 9 n (by omega)
  have h3 : (numS n).size = (Lib.decDigits n).length := by
   show (Lib.itoa n).toArray.size = _
   rw [zdh]; simp
  omega
 ·exact h2.1
theorem zrv (n : Nat) : Lib.atoi (numS n).data.toList = some (n : Int) := by
 rw [zc2, zdh]; have hd := zgs n; have hv := zpt n; have hne := zw2 n
 revert hd hv hne
 generalize Lib.decDigits n = l; intro hd hv hne
 match l, hne with
 | b :: r, _ =>
  have hb := hd b List.mem_cons_self; have h1 : ¬ (b == 45) = true := fun e => by rw [beq_iff_eq] at e; subst e; exact absurd hb.1 (by decide)
  have h2 : ¬ (b == 43) = true := fun e => by rw [beq_iff_eq] at e; subst e; exact absurd hb.1 (by decide)
  simp only [Lib.atoi]
  rw [if_neg h1, if_neg h2]
  simp only [Lib.decNat, List.isEmpty_cons]
  rw [if_neg (by simp), hv]; rfl
end Go.Proofs.YtkbacoadejglkaaGreatDoor
