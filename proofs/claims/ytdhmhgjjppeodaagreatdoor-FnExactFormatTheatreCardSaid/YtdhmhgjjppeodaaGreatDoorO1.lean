/- Arguments of the laws, read as lists and records. Over any program. -/
import Derived.ProofKit
import Derived.Deep.Slices
import Derived.Lib.SmallJoins
import Derived.Test.YtdhmhgjjppeodaaGreatDoorBdA1x8
namespace Go.Proofs.YtdhmhgjjppeodaaGreatDoor
open Go.ChangeShapes Go.WideShapes Go.ChangeAt Go.RowKit Go.Deep
section
variable {H : Type} {enc : TypeId × Value → H} {P : Program} {W : World} {held : Bool}
def Opens (enc : TypeId × Value → H) (P : Program) (W : World) (held : Bool) (t : TypeId) {α : Type} (f : α → List Value) (Q : α → Prop) : Prop :=
 ∀ n cs x, DataW.trod enc P W 0 (fun _ => true) held n t cs = some x → ∃ a, cs = f a ∧ Q a
theorem i64_of_wf {n : Int} (h : (Lit.int .i64 n).wf = true) : I64 n := by
 simp [Lit.wf, IntKind.min, IntKind.max, IntKind.signed, IntKind.bits] at h
 exact ⟨by omega, by omega⟩
theorem opens_int {t : TypeId} (ht : P.underlying t = some (.int .i64)) : Opens enc P W held t cInt I64 := by
 intro n cs x h
 obtain ⟨m, rfl, _, hw⟩ := DataW.trod_int ht h
 exact ⟨m, rfl, i64_of_wf hw⟩
def cBool (b : Bool) : List Value := [.bool b]
theorem opens_bool {t : TypeId} (ht : P.underlying t = some .bool) : Opens enc P W held t cBool (fun _ => True) := by
 intro n cs x h
 obtain ⟨b, rfl, _⟩ := DataW.trod_bool ht h
 exact ⟨b, rfl, trivial⟩
theorem opens_struct2 {t : TypeId} {α β : Type} {f : α → List Value} {g : β → List Value} {Q : α → Prop} {R : β → Prop} {F0 F1 : Field} {c0 c1 : Nat}
  (hs : P.underlying t = some (.struct #[F0, F1])) (o : F0.offset = 0 ∧ F1.offset = c0) (c : P.cellsOf F0.type = c0 ∧ P.cellsOf F1.type = c1) (hC : P.cellsOf t = c0 + c1)
  (h0 : Opens enc P W held F0.type f Q) (h1 : Opens enc P W held F1.type g R) : Opens enc P W held t (fun p : α × β => f p.1 ++ g p.2) (fun p => Q p.1 ∧ R p.2) := by
 intro n cs x h
 obtain ⟨xs, m, _, _, hl, hx, hf⟩ := DataW.trod_struct hs h
 match xs, hx with
 | [y0, y1], _ =>
  have e0 := hf 0 F0 rfl
  have e1 := hf 1 F1 rfl
  rw [o.1, c.1] at e0
  rw [o.2, c.2] at e1
  obtain ⟨a, ha, qa⟩ := h0 _ _ _ e0
  obtain ⟨b, hb, qb⟩ := h1 _ _ _ e1
  refine ⟨(a, b), ?_, qa, qb⟩
  show cs = f a ++ g b
  rw [← ha, ← hb, List.drop_zero]
  rw [List.take_of_length_le (l := cs.drop c0) (by rw [List.length_drop]; omega), List.take_append_drop]
theorem opens_struct3 {t : TypeId} {α β γ : Type} {f : α → List Value} {g : β → List Value} {k : γ → List Value} {Q : α → Prop} {R : β → Prop} {S : γ → Prop} {F0 F1 F2 : Field} {c0 c1 c2 : Nat}
  (hs : P.underlying t = some (.struct #[F0, F1, F2])) (o : F0.offset = 0 ∧ F1.offset = c0 ∧ F2.offset = c0 + c1) (c : P.cellsOf F0.type = c0 ∧ P.cellsOf F1.type = c1 ∧ P.cellsOf F2.type = c2) (hC : P.cellsOf t = c0 + c1 + c2)
  (h0 : Opens enc P W held F0.type f Q) (h1 : Opens enc P W held F1.type g R) (h2 : Opens enc P W held F2.type k S) :
  Opens enc P W held t (fun p : α × β × γ => f p.1 ++ (g p.2.1 ++ k p.2.2)) (fun p => Q p.1 ∧ R p.2.1 ∧ S p.2.2) := by
 intro n cs x h
 obtain ⟨xs, m, _, _, hl, hx, hf⟩ := DataW.trod_struct hs h
 match xs, hx with
 | [y0, y1, y2], _ =>
  have e0 := hf 0 F0 rfl
  have e1 := hf 1 F1 rfl
  have e2 := hf 2 F2 rfl
  rw [o.1, c.1] at e0
  rw [o.2.1, c.2.1] at e1
  rw [o.2.2, c.2.2] at e2
  obtain ⟨a, ha, qa⟩ := h0 _ _ _ e0
  obtain ⟨b, hb, qb⟩ := h1 _ _ _ e1
  obtain ⟨d, hd, qd⟩ := h2 _ _ _ e2
  refine ⟨(a, b, d), ?_, qa, qb, qd⟩
  show cs = f a ++ (g b ++ k d)
  rw [← ha, ← hb, ← hd, List.drop_zero]
  rw [List.take_of_length_le (l := cs.drop (c0 + c1)) (by rw [List.length_drop]; omega)]
  rw [show cs.drop (c0 + c1) = (cs.drop c0).drop c1 by rw [List.drop_drop], List.take_append_drop, List.take_append_drop]
theorem chooseL {α : Type} (n : Nat) (R : Nat → α → Prop) (h : ∀ i, i < n → ∃ a, R i a) : ∃ l : List α, l.length = n ∧ ∀ i (hi : i < l.length), R i l[i] := by
 induction n with
 | zero => exact ⟨[], rfl, fun i hi => by simp at hi⟩
 | succ n ih =>
  obtain ⟨l, hl, hr⟩ := ih (fun i hi => h i (by omega))
  obtain ⟨a, ha⟩ := h n (by omega)
  refine ⟨l ++ [a], by simp [hl], fun i hi => ?_⟩
  by_cases hlt : i < l.length
  ·rw [List.getElem_append_left hlt]; exact hr i hlt
  ·have : i = n := by simp at hi; omega
   subst this
   rw [List.getElem_append_right (by omega)]
   simpa [hl] using ha
theorem opens_slice {t e : TypeId} {α : Type} {f : α → List Value} {Q : α → Prop} {size : Nat} (ht : P.underlying t = some (.slice e)) (hC : P.cellsOf e = size) (hs : 0 < size)
  (hf : ∀ a, (f a).length = size) (he : Opens enc P W held e f Q) : Opens enc P W held t (fun v : Value => [v]) (fun v => ∃ l : List α, RdL f size W v l ∧ ∀ a ∈ l, Q a) := by
 intro n cs x h
 rcases open_slice ht h with ⟨rfl, _⟩ | ⟨a, len, cap, m, n', D, Pl, rfl, _, hlc, hcm, hm, _, hi⟩
 ·exact ⟨_, rfl, [], ⟨by simp, none, 0, rfl, Nat.le_refl _, by simp [maxLen], fun h => absurd h (by simp)⟩, by simp⟩
 ·have hmc : m = cap := by simpa using hm
  subst hmc
  have hch : ∀ i, i < len → ∃ r : α, (∀ j u, (f r)[j]? = some u → W.cell? ((a.add (i * size)).add j) = some u) ∧ Q r := by
   intro i hil
   obtain ⟨cs', hc, ht'⟩ := hi i (by omega)
   rw [hC] at hc
   obtain ⟨r, hr, hq⟩ := he _ _ _ ht'
   obtain ⟨_, hcl, hat⟩ := World.cells?_some hc
   refine ⟨r, fun j u hu => ?_, hq⟩
   have hj : j < size := by have := (List.getElem?_eq_some_iff.1 hu).1; rwa [hf] at this
   rw [hat j hj, hr]; exact hu
  obtain ⟨l, hl, hr⟩ := chooseL len _ hch
  refine ⟨_, rfl, l, ⟨by rw [len_flat hf], some a, m, by rw [hl], by omega, hcm, fun hn => ?_⟩, fun r hrm => ?_⟩
  ·obtain ⟨b, off, spot⟩ := a
   have hl0 : 0 < (f l[0]).length := by rw [hf]; exact hs
   have h0 := (hr 0 hn).1 0 _ (List.getElem?_eq_getElem hl0)
   rw [Nat.zero_mul] at h0
   have hspot : spot = none := by
    have := World.cell?_spot h0
    simpa [Addr.add] using this
   subst hspot
   refine ⟨b, off, rfl, fun j u hu => ?_⟩
   have hj : j < l.length * size := by have := (List.getElem?_eq_some_iff.1 hu).1; rwa [len_flat hf] at this
   have hd : j / size < l.length := (Nat.div_lt_iff_lt_mul hs).2 hj
   have hjm : j % size < size := Nat.mod_lt _ hs
   have hje : j = j / size * size + j % size := by rw [Nat.mul_comm]; exact (Nat.div_add_mod j size).symm
   rw [hje, get_flat hf l _ hd _ hjm] at hu
   have := (hr _ hd).1 _ u hu
   have hadd : ((⟨b, off, none⟩ : Addr).add (j / size * size)).add (j % size) = ⟨b, off + j, none⟩ := by
    rw [Addr.add_lit, Addr.add_lit]
    congr 1
    omega
   rwa [hadd] at this
  ·obtain ⟨i, hil, rfl⟩ := List.getElem_of_mem hrm
   exact (hr i hil).2
theorem arg_struct {t : TypeId} {fs : Array Field} {r : Reach} {b0 : Nat} {α : Type} {f : α → List Value} {Q : α → Prop} {v : Value} {d : DataW H} {p : List MemPlace} (ht : P.underlying t = some (.struct fs)) (hv : Value.okWide P W r b0 t v)
  (h : DataW.Trod enc P W 0 (fun _ => true) held t v d p) (ho : Opens enc P W held t f Q) : ∃ a, v = .agg (f a).toArray ∧ Q a := by
 obtain ⟨cs, rfl, _⟩ := okWide_struct ht hv
 obtain ⟨n, hf⟩ := h
 obtain ⟨a, h1, h2⟩ := ho _ _ _ hf
 refine ⟨a, ?_, h2⟩
 rw [← h1]
 simp [Value.cells]
end
end Go.Proofs.YtdhmhgjjppeodaaGreatDoor
