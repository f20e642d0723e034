/- Slices of slices of ints: words and the helpers of the laws. -/
import Derived.Test.YtjbhlbcjljdjmaaI1
import Derived.StillTailTactics
namespace Go.Proofs.Ytjbhlbcjljdjmaa
open Go.RowKit

def cVal (v : Value) : List Value := [v]
theorem cVal_len (v : Value) : (cVal v).length = 1 := rfl
theorem flat_cVal (vs : List Value) : vs.flatMap cVal = vs := by
  induction vs with
  | nil => rfl
  | cons v vs ih => rw [List.flatMap_cons, ih]; rfl
/-- The slice v reads as the rows ll. -/
def RdRows (w : World) (v : Value) (ll : List (List Int)) : Prop :=
  ∃ vs : List Value, RdL cVal 1 w v vs ∧ vs.length = ll.length ∧ ∀ (i : Nat) (v' : Value) (l : List Int), vs[i]? = some v' → ll[i]? = some l → RdL cInt 1 w v' l
def blocksOf (vs : List Value) : List Nat := vs.flatMap (fun v => v.ownBlock.toList)
def RowsOwn (ei : TypeId) (w : World) (vs : List Value) (ll : List (List Int)) : Prop :=
  ∀ (i : Nat) (v' : Value) (l : List Int), vs[i]? = some v' → ll[i]? = some l → w.ownsRow 0 ei 1 v' l.length (l.flatMap cInt)
/-- The call's own rows. -/
def OwRows (e ei : TypeId) (w : World) (S : List Nat) (v : Value) (ll : List (List Int)) : Prop :=
  ∃ vs : List Value, vs.length = ll.length ∧ w.ownsRow 0 e 1 v vs.length vs ∧ RowsOwn ei w vs ll ∧ S = v.ownBlock.toList ++ blocksOf vs
theorem RdRows.below {w w' : World} {v : Value} {ll : List (List Int)} (h : RdRows w v ll) (hb : Below w.heap.size w w') : RdRows w' v ll := by
  obtain ⟨vs, h1, h2, h3⟩ := h
  exact ⟨vs, h1.below hb, h2, fun i v' l hv hl => (h3 i v' l hv hl).below hb⟩
theorem RdRows.form {w : World} {v : Value} {ll : List (List Int)} (h : RdRows w v ll) : ∃ A c, v = .slice A ll.length c ∧ ll.length ≤ c ∧ c ≤ 9223372036854775807 := by
  obtain ⟨vs, h1, h2, _⟩ := h
  have := h1.form
  rwa [h2] at this
/-- Row k: where it stands, and that it reads. -/
theorem RdRows.cell {w : World} {A : Option Addr} {c : Nat} {ll : List (List Int)} (h : RdRows w (.slice A ll.length c) ll) {k : Nat} (hk : k < ll.length) :
    ∃ g off u, A = some ⟨g, off, none⟩ ∧ g < w.heap.size ∧ w.cell? ⟨g, off + k, none⟩ = some u ∧ RdL cInt 1 w u ll[k] := by
  obtain ⟨vs, h1, h2, h3⟩ := h
  rw [← h2] at h1
  obtain ⟨g, off, hA, hg, hc⟩ := h1.cell (k := k) cVal_len (by omega) (by omega)
  have hk' : k < vs.length := by omega
  refine ⟨g, off, vs[k], hA, hg, ?_, h3 k _ _ (List.getElem?_eq_getElem hk') (List.getElem?_eq_getElem hk)⟩
  have := hc 0 vs[k] rfl
  simpa using this
theorem OwRows.rd {e ei : TypeId} {w : World} {S : List Nat} {v : Value} {ll : List (List Int)} (h : OwRows e ei w S v ll) : RdRows w v ll := by
  obtain ⟨vs, h1, h2, h3, _⟩ := h
  refine ⟨vs, ?_, h1, fun i v' l hv hl => RdS.of_own (h3 i v' l hv hl)⟩
  have := RdS.of_own h2
  rw [← flat_cVal vs] at this
  unfold RdL
  rw [flat_cVal] at this ⊢
  exact this
theorem RowsOwn.below {ei : TypeId} {w w' : World} {vs : List Value} {ll : List (List Int)} (h : RowsOwn ei w vs ll) (hb : Below w.heap.size w w') : RowsOwn ei w' vs ll :=
  fun i v' l hv hl => own_below (h i v' l hv hl) hb
theorem mem_blocks {vs : List Value} {i : Nat} {v : Value} (h : vs[i]? = some v) : ∀ b ∈ v.ownBlock.toList, b ∈ blocksOf vs :=
  fun b hb => List.mem_flatMap.2 ⟨v, List.mem_of_getElem? h, hb⟩
theorem RowsOwn.chg {ei : TypeId} {w w' : World} {vs : List Value} {ll : List (List Int)} {T : List Nat} (h : RowsOwn ei w vs ll) (hc : Chg T w w') (hn : ∀ b ∈ blocksOf vs, b ∉ T) : RowsOwn ei w' vs ll :=
  fun i v' l hv hl => own_chg (h i v' l hv hl) hc (fun b hb => hn b (mem_blocks hv b hb))
theorem OwRows.below {e ei : TypeId} {w w' : World} {S : List Nat} {v : Value} {ll : List (List Int)} (h : OwRows e ei w S v ll) (hb : Below w.heap.size w w') : OwRows e ei w' S v ll := by
  obtain ⟨vs, h1, h2, h3, h4⟩ := h
  exact ⟨vs, h1, own_below h2 hb, h3.below hb, h4⟩
theorem OwRows.chg {e ei : TypeId} {w w' : World} {S T : List Nat} {v : Value} {ll : List (List Int)} (h : OwRows e ei w S v ll) (hc : Chg T w w') (hn : ∀ b ∈ S, b ∉ T) : OwRows e ei w' S v ll := by
  obtain ⟨vs, h1, h2, h3, rfl⟩ := h
  exact ⟨vs, h1, own_chg h2 hc (fun b hb => hn b (by simp [hb])), h3.chg hc (fun b hb => hn b (by simp [hb])), rfl⟩
def rowsTot (ll : List (List Int)) : Nat := ll.length + (ll.map List.length).sum
theorem infoRow : (Try.prog.info? 28).map (fun i => (i.zero, i.size, i.bytes)) = some (some (.slice none 0 0), 1, 24) := by kernel_rfl
theorem blocks_snoc (vs : List Value) (v : Value) : blocksOf (vs ++ [v]) = blocksOf vs ++ v.ownBlock.toList := by unfold blocksOf; rw [List.flatMap_append]; simp

end Go.Proofs.Ytjbhlbcjljdjmaa
