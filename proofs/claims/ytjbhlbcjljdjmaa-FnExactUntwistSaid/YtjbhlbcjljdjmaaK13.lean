/- Contracts: TiltArm of the reference. Written by a program (gen_k12.py). -/
import Derived.Test.YtjbhlbcjljdjmaaK12
import Derived.StillTailTactics
namespace Go.Proofs.Ytjbhlbcjljdjmaa
open Go.RowKit
theorem chg_drewN {w w' : World} {S : List Nat} (h : Chg S w w') (n : Nat) : Chg S w (w'.drewN n) := ⟨h.os, h.tape, h.output, h.size, h.block⟩
theorem l01In_t {n a b : Int} {w : World} (h : inB n a b = true) : Calls Try.prog 126 #[.int .i64 n, .int .i64 a, .int .i64 b] w fun e w' => e = .returned (.bool true) ∧ w = w' := h ▸ l01In_any n a b w
theorem tilt_all_iff {d : List Int} {i : Nat} {b : Int} (hi : i < d.length) (hij : d.length - 1 - i ≠ i) (h : allB (-50) 50 d = true) : allB (-50) 50 (tiltN d i b) = true ↔ (inB (d[i] + b) (-50) 50 = true ∧ inB (d[d.length - 1 - i] - b) (-50) 50 = true) := by
  have hj : d.length - 1 - i < d.length := by omega
  have hN : tiltN d i b = (d.set i (d[i] + b)).set (d.length - 1 - i) (d[d.length - 1 - i] - b) := by unfold tiltN; rw [getD_at hi, getD_at hj]
  rw [hN]
  unfold allB
  constructor
  · intro h'
    rw [List.all_eq_true] at h'
    refine ⟨h' _ ?_, h' _ ?_⟩
    · exact List.mem_iff_getElem.2 ⟨i, by simpa using hi, by rw [List.getElem_set_ne hij, List.getElem_set_self]⟩
    · exact List.mem_iff_getElem.2 ⟨d.length - 1 - i, by simpa using hj, by rw [List.getElem_set_self]⟩
  · rintro ⟨h1, h2⟩
    rw [List.all_eq_true]
    intro x hx
    rcases List.mem_or_eq_of_mem_set hx with hx | rfl
    · rcases List.mem_or_eq_of_mem_set hx with hx | rfl
      · exact List.all_eq_true.1 h x hx
      · exact h1
    · exact h2
theorem all_upto {d : List Int} {k : Nat} (hk : k < d.length) (h : (d.take k).all (fun n => inB n (-50) 50) = true) (h1 : inB d[k] (-50) 50 = true) : (d.take (k + 1)).all (fun n => inB n (-50) 50) = true := all_take_succ hk h h1
theorem tiltF_len (d : List Int) (a b : Int) : (tiltF d a b).1.length = d.length := by
  unfold tiltF
  split
  · split
    · rfl
    · split
      · exact tiltN_len _ _ _
      · rfl
  · rfl
end Go.Proofs.Ytjbhlbcjljdjmaa
