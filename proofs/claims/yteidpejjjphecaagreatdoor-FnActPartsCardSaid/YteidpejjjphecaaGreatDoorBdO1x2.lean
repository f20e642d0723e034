/- Several texts in one: Arguments of the laws, read as lists and records. Over any program. The structs of the laws, opened. -/
import Derived.ProofKit
import Derived.Deep.Slices
import Derived.Lib.SmallJoins
import Derived.Test.YteidpejjjphecaaGreatDoorBdA1x10
namespace Go.Proofs.YteidpejjjphecaaGreatDoor
open Go.ChangeShapes Go.WideShapes Go.ChangeAt Go.RowKit Go.Deep
section
variable {H : Type} {enc : TypeId × Value → H} {P : Program} {W : World} {held : Bool}
def Opens (enc : TypeId × Value → H) (P : Program) (W : World) (held : Bool) (t : TypeId) {α : Type} (f : α → List Value) (Q : α → Prop) : Prop :=
 ∀ n cs x, DataW.trod enc P W 0 (fun _ => true) held n t cs = some x → ∃ a, cs = f a ∧ Q a
theorem opens_u8 {t : TypeId} (ht : P.underlying t = some (.int .u8)) : Opens enc P W held t (fun n : Int => [.int .u8 n]) (fun n => 0 ≤ n ∧ n ≤ 255) := by
 intro n cs x h
 obtain ⟨m, rfl, _, hw⟩ := DataW.trod_int ht h
 refine ⟨m, rfl, ?_⟩
 simp [Lit.wf, IntKind.min, IntKind.max, IntKind.signed, IntKind.bits] at hw
 omega
theorem chooseL {α : Type} (n : Nat) (R : Nat → α → Prop) (h : ∀ i, i < n → ∃ a, R i a) : ∃ l : List α, l.length = n ∧ ∀ i (hi : i < l.length), R i l[i] := by
 induction n with
 | zero => exact ⟨[], rfl, fun i hi => by simp at hi⟩
 | succ n ih =>
  obtain ⟨l, hl, hr⟩ := ih (fun i hi => h i (by omega))
  obtain ⟨a, ha⟩ := h n (by omega)
  refine ⟨l ++ [a], by simp [hl], fun i hi => ?_⟩
  by_cases hlt : i < l.length
  ·rw [List.getElem_append_left hlt]; exact hr i hlt
  ·have : i = n := by simp at hi; omega
   subst this
   rw [List.getElem_append_right (by omega)]
   simpa [hl] using ha
theorem opens_slice {t e : TypeId} {α : Type} {f : α → List Value} {Q : α → Prop} {size : Nat} (ht : P.underlying t = some (.slice e)) (hC : P.cellsOf e = size) (hs : 0 < size)
  (hf : ∀ a, (f a).length = size) (he : Opens enc P W held e f Q) : Opens enc P W held t (fun v : Value => [v]) (fun v => ∃ l : List α, RdL f size W v l ∧ ∀ a ∈ l, Q a) := by
 intro n cs x h
 rcases open_slice ht h with ⟨rfl, _⟩ | ⟨a, len, cap, m, n', D, Pl, rfl, _, hlc, hcm, hm, _, hi⟩
 ·exact ⟨_, rfl, [], ⟨by simp, none, 0, rfl, Nat.le_refl _, by simp [maxLen], fun h => absurd h (by simp)⟩, by simp⟩
 ·have hmc : m = cap := by simpa using hm
  subst hmc
  have hch : ∀ i, i < len → ∃ r : α, (∀ j u, (f r)[j]? = some u → W.cell? ((a.add (i * size)).add j) = some u) ∧ Q r := by
   intro i hil
   obtain ⟨cs', hc, ht'⟩ := hi i (by omega)
   rw [hC] at hc
   obtain ⟨r, hr, hq⟩ := he _ _ _ ht'
   obtain ⟨_, hcl, hat⟩ := World.cells?_some hc
   refine ⟨r, fun j u hu => ?_, hq⟩
   have hj : j < size := by have := (List.getElem?_eq_some_iff.1 hu).1; rwa [hf] at this
   rw [hat j hj, hr]; exact hu
  obtain ⟨l, hl, hr⟩ := chooseL len _ hch
  refine ⟨_, rfl, l, ⟨by rw [len_flat hf], some a, m, by rw [hl], by omega, hcm, fun hn => ?_⟩, fun r hrm => ?_⟩
  ·obtain ⟨b, off, spot⟩ := a
   have hl0 : 0 < (f l[0]).length := by rw [hf]; exact hs
   have h0 := (hr 0 hn).1 0 _ (List.getElem?_eq_getElem hl0)
   rw [Nat.zero_mul] at h0
   have hspot : spot = none := by
    have := World.cell?_spot h0
    simpa [Addr.add] using this
   subst hspot
   refine ⟨b, off, rfl, fun j u hu => ?_⟩
   have hj : j < l.length * size := by have := (List.getElem?_eq_some_iff.1 hu).1; rwa [len_flat hf] at this
   have hd : j / size < l.length := (Nat.div_lt_iff_lt_mul hs).2 hj
   have hjm : j % size < size := Nat.mod_lt _ hs
   have hje : j = j / size * size + j % size := by rw [Nat.mul_comm]; exact (Nat.div_add_mod j size).symm
   rw [hje, get_flat hf l _ hd _ hjm] at hu
   have := (hr _ hd).1 _ u hu
   have hadd : ((⟨b, off, none⟩ : Addr).add (j / size * size)).add (j % size) = ⟨b, off + j, none⟩ := by
    rw [Addr.add_lit, Addr.add_lit]
    congr 1
    omega
   rwa [hadd] at this
  ·obtain ⟨i, hil, rfl⟩ := List.getElem_of_mem hrm
   exact (hr i hil).2
theorem arg_slice {t e : TypeId} {r : Reach} {b0 : Nat} {Q : Value → Prop} {v : Value} {d : DataW H} {p : List MemPlace} (ht : P.underlying t = some (.slice e)) (hv : Value.okWide P W r b0 t v)
  (h : DataW.Trod enc P W 0 (fun _ => true) held t v d p) (ho : Opens enc P W held t (fun v : Value => [v]) Q) : Q v := by
 obtain ⟨a, len, cap, rfl⟩ := okWide_slice ht hv
 obtain ⟨n, hf⟩ := h
 obtain ⟨a', h1, h2⟩ := ho _ _ _ hf
 simp [Value.cells] at h1
 subst h1
 exact h2
end
end Go.Proofs.YteidpejjjphecaaGreatDoor

namespace Go.Proofs.YteidpejjjphecaaGreatDoor
open Go.ChangeShapes Go.WideShapes Go.ChangeAt Go.RowKit Go.Deep
theorem tryOwn : ownKnob Tryz.prog.godebug = none := by kernel_rfl
theorem tryLaid : laidOutB Tryz.prog = true := by kernel_rfl
section
variable {H : Type} {enc : TypeId × Value → H} {W : World} {held : Bool}
end
end Go.Proofs.YteidpejjjphecaaGreatDoor
