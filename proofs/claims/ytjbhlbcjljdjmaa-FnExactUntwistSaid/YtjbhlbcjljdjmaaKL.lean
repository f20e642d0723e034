/- Plain bounds: players that are ones are small. No program in sight. -/
import Derived.Test.YtjbhlbcjljdjmaaK3
namespace Go.Proofs.Ytjbhlbcjljdjmaa
open Go.RowKit
theorem strict_lt {l : List Int} {a b : Int} (h : strictB l a b = true) : l.Pairwise (· < ·) ∧ ∀ x ∈ l, a ≤ x ∧ x ≤ b := by
  rw [strictB, Bool.and_eq_true] at h
  exact ⟨pairwise_of_asc _ h.1, fun x hx => inB_iff.1 (List.all_eq_true.1 h.2 x hx)⟩
theorem strict_len {l : List Int} {m : Nat} (h : strictB l 0 m = true) : l.length ≤ m + 1 := by
  obtain ⟨h1, h2⟩ := strict_lt h
  have hm : (l.map Int.toNat).Nodup := by
    rw [List.nodup_iff_pairwise_ne, List.pairwise_map]
    refine List.Pairwise.imp_of_mem ?_ h1
    intro a b ha hb hab e
    have := h2 a ha
    have := h2 b hb
    omega
  have hsub : l.map Int.toNat ⊆ List.range (m + 1) := by
    intro x hx
    obtain ⟨a, ha, rfl⟩ := List.mem_map.1 hx
    have := h2 a ha
    simp; omega
  have := List.Nodup.length_le_of_subset hm hsub
  simpa using this
theorem playersB_sz {pl : List RPl} (h : playersB pl = true) : pl.length ≤ 6 ∧ 1 ≤ pl.length ∧ plsTot pl ≤ 48 := by
  rw [playersB, Bool.and_eq_true] at h
  have h6 := inB_iff.1 h.2
  have hs : (pl.map (fun r : RPl => r.1.length)).sum ≤ pl.length * 7 := by
    have hall := List.all_eq_true.1 h.1
    clear h h6
    induction pl with
    | nil => simp
    | cons p pl ih =>
      have h1 := hall p List.mem_cons_self
      rw [playerB, Bool.and_eq_true] at h1
      have h2 := strict_len (m := 6) h1.1
      have h3 := ih (fun x hx => hall x (List.mem_cons_of_mem _ hx))
      rw [List.map_cons, List.sum_cons, List.length_cons, Nat.add_mul]
      omega
  unfold plsTot
  omega
theorem companyB_sz {n : Int} {cs : List RCross} {pl : List RPl} (h : companyB n cs pl = true) : szCompany cs pl ≤ 88 := by
  rw [companyB, Bool.and_eq_true] at h
  have h1 := (crosses_len h.1).2.1
  have h2 := (playersB_sz h.2).2.2
  unfold szCompany
  omega
end Go.Proofs.Ytjbhlbcjljdjmaa
