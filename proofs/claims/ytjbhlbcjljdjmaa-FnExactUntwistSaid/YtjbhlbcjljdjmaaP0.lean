/- Slices of players (a slice of ints and an int each): words. -/
import Derived.Test.YtjbhlbcjljdjmaaI8
import Derived.Test.YtjbhlbcjljdjmaaS0
namespace Go.Proofs.Ytjbhlbcjljdjmaa
open Go.RowKit

abbrev RPl := List Int × Int
def cPl (p : Value × Int) : List Value := [p.1, .int .i64 p.2]
theorem cPl_len (p : Value × Int) : (cPl p).length = 2 := rfl
theorem infoPlayer : (Try.prog.info? 126).map (fun i => (i.zero, i.size, i.bytes)) = some (some (.agg #[.slice none 0 0, .int .i64 0]), 2, 32) := by kernel_rfl
def PlsRd (w : World) (vs : List (Value × Int)) (ll : List RPl) : Prop := ∀ (i : Nat) (p : Value × Int) (r : RPl), vs[i]? = some p → ll[i]? = some r → p.2 = r.2 ∧ RdL cInt 1 w p.1 r.1
/-- The slice v reads as the players ll. -/
def RdPls (w : World) (v : Value) (ll : List RPl) : Prop := ∃ vs : List (Value × Int), RdL cPl 2 w v vs ∧ vs.length = ll.length ∧ PlsRd w vs ll
def plBlocks (vs : List (Value × Int)) : List Nat := blocksOf (vs.map Prod.fst)
def PlsOwn (w : World) (vs : List (Value × Int)) (ll : List RPl) : Prop := ∀ (i : Nat) (p : Value × Int) (r : RPl), vs[i]? = some p → ll[i]? = some r → p.2 = r.2 ∧ w.ownsRow 0 3 1 p.1 r.1.length (r.1.flatMap cInt)
/-- The call's own players. -/
def OwPls (w : World) (S : List Nat) (v : Value) (ll : List RPl) : Prop :=
  ∃ vs : List (Value × Int), vs.length = ll.length ∧ w.ownsRow 0 126 2 v vs.length (vs.flatMap cPl) ∧ PlsOwn w vs ll ∧ S = v.ownBlock.toList ++ plBlocks vs
def plsTot (ll : List RPl) : Nat := ll.length + (ll.map (fun r => r.1.length)).sum
def plsTo (ll : List RPl) (k : Nat) : Nat := ((ll.take k).map (fun r => r.1.length + 1)).sum
def plsCnt (ll : List RPl) : Nat := (ll.map (fun r => r.1.length + 1)).sum
def PlsMk (w : World) (vs : List (Value × Int)) (ll : List RPl) (m : Int) : Prop := ∀ (i : Nat) (p : Value × Int) (r : RPl), vs[i]? = some p → ll[i]? = some r → p.2 = m + plsTo ll i + r.1.length ∧ w.ownsRow 0 3 1 p.1 r.1.length (markC mkInt 1 r.1.length (m + plsTo ll i))
def MkPls (w : World) (S : List Nat) (v : Value) (ll : List RPl) (m : Int) : Prop :=
  ∃ vs : List (Value × Int), vs.length = ll.length ∧ w.ownsRow 0 126 2 v vs.length (vs.flatMap cPl) ∧ PlsMk w vs ll m ∧ S = v.ownBlock.toList ++ plBlocks vs
theorem plsTo_succ {ll : List RPl} {k : Nat} (h : k < ll.length) : plsTo ll (k + 1) = plsTo ll k + (ll[k].1.length + 1) := sum_take_succ (fun r : RPl => r.1.length + 1) ll h
theorem plsTo_end (ll : List RPl) : plsTo ll ll.length = plsCnt ll := by unfold plsTo plsCnt; rw [List.take_length]
theorem plsCnt_tot (ll : List RPl) : plsCnt ll = plsTot ll := by
  unfold plsCnt plsTot
  induction ll with
  | nil => rfl
  | cons a l ih => simp only [List.map_cons, List.sum_cons, List.length_cons]; omega
theorem plsTo_le {ll : List RPl} {k : Nat} (h : k < ll.length) : plsTo ll k + (ll[k].1.length + 1) ≤ plsCnt ll := by
  rw [← plsTo_succ h, ← plsTo_end]
  unfold plsTo
  rw [List.take_length]
  conv => rhs; rw [← List.take_append_drop (k + 1) ll, List.map_append, List.sum_append_nat]
  omega
theorem plBlocks_take_sub (vs : List (Value × Int)) (k : Nat) : ∀ b ∈ plBlocks (vs.take k), b ∈ plBlocks vs := by
  intro b hb
  unfold plBlocks at *
  rw [List.map_take] at hb
  exact blocks_take_sub _ k b hb
theorem mem_plBlocks {vs : List (Value × Int)} {i : Nat} {p : Value × Int} (h : vs[i]? = some p) : ∀ b ∈ p.1.ownBlock.toList, b ∈ plBlocks vs :=
  mem_blocks (i := i) (by rw [List.getElem?_map, h]; rfl)
theorem plBlocks_apart {vs : List (Value × Int)} (h : (plBlocks vs).Nodup) {k : Nat} {p : Value × Int} (hv : vs[k]? = some p) : ∀ b ∈ p.1.ownBlock.toList, b ∉ plBlocks (vs.take k) := by
  have := blocks_apart h (k := k) (v := p.1) (by rw [List.getElem?_map, hv]; rfl)
  unfold plBlocks
  rwa [List.map_take]
theorem plBlocks_take_succ {vs : List (Value × Int)} {k : Nat} {p : Value × Int} (hv : vs[k]? = some p) : plBlocks (vs.take (k + 1)) = plBlocks (vs.take k) ++ p.1.ownBlock.toList := by
  unfold plBlocks
  rw [List.map_take, List.map_take]
  exact blocks_take_succ (by rw [List.getElem?_map, hv]; rfl)
theorem plBlocks_snoc (vs : List (Value × Int)) (p : Value × Int) : plBlocks (vs ++ [p]) = plBlocks vs ++ p.1.ownBlock.toList := by
  unfold plBlocks; rw [List.map_append]; exact blocks_snoc _ _
section
variable {w w' : World} {S T : List Nat} {v : Value} {ll : List RPl} {m : Int}
theorem RdPls.below (h : RdPls w v ll) (hb : Below w.heap.size w w') : RdPls w' v ll := by
  obtain ⟨vs, h1, h2, h3⟩ := h
  exact ⟨vs, h1.below hb, h2, fun i p r hp hr => ⟨(h3 i p r hp hr).1, (h3 i p r hp hr).2.below hb⟩⟩
theorem RdPls.form (h : RdPls w v ll) : ∃ A c, v = .slice A ll.length c ∧ ll.length ≤ c ∧ c ≤ 9223372036854775807 := by
  obtain ⟨vs, h1, h2, _⟩ := h
  have := h1.form
  rwa [h2] at this
theorem RdPls.cell {A : Option Addr} {c : Nat} (h : RdPls w (.slice A ll.length c) ll) {k : Nat} (hk : k < ll.length) :
    ∃ g off u, A = some ⟨g, off, none⟩ ∧ g < w.heap.size ∧ w.cell? ⟨g, off + k * 2, none⟩ = some u ∧ w.cell? ⟨g, off + k * 2 + 1, none⟩ = some (.int .i64 ll[k].2) ∧ RdL cInt 1 w u ll[k].1 := by
  obtain ⟨vs, h1, h2, h3⟩ := h
  rw [← h2] at h1
  obtain ⟨g, off, hA, hg, hc⟩ := h1.cell (k := k) cPl_len (by omega) (by omega)
  have hk' : k < vs.length := by omega
  obtain ⟨e, hr⟩ := h3 k _ _ (List.getElem?_eq_getElem hk') (List.getElem?_eq_getElem hk)
  have c0 := hc 0 _ rfl
  have c1 := hc 1 _ rfl
  rw [e] at c1
  exact ⟨g, off, vs[k].1, hA, hg, by simpa using c0, c1, hr⟩
theorem OwPls.rd (h : OwPls w S v ll) : RdPls w v ll := by
  obtain ⟨vs, h1, h2, h3, _⟩ := h
  exact ⟨vs, RdS.of_own h2, h1, fun i p r hp hr => ⟨(h3 i p r hp hr).1, RdS.of_own (h3 i p r hp hr).2⟩⟩
theorem OwPls.below (h : OwPls w S v ll) (hb : Below w.heap.size w w') : OwPls w' S v ll := by
  obtain ⟨vs, h1, h2, h3, h4⟩ := h
  exact ⟨vs, h1, own_below h2 hb, fun i p r hp hr => ⟨(h3 i p r hp hr).1, own_below (h3 i p r hp hr).2 hb⟩, h4⟩
theorem OwPls.chg (h : OwPls w S v ll) (hc : Chg T w w') (hn : ∀ b ∈ S, b ∉ T) : OwPls w' S v ll := by
  obtain ⟨vs, h1, h2, h3, rfl⟩ := h
  exact ⟨vs, h1, own_chg h2 hc (fun b hb => hn b (by simp [hb])), fun i p r hp hr => ⟨(h3 i p r hp hr).1, own_chg (h3 i p r hp hr).2 hc (fun b hb => hn b (List.mem_append_right _ (mem_plBlocks hp b hb)))⟩, rfl⟩
theorem MkPls.below (h : MkPls w S v ll m) (hb : Below w.heap.size w w') : MkPls w' S v ll m := by
  obtain ⟨vs, h1, h2, h3, h4⟩ := h
  exact ⟨vs, h1, own_below h2 hb, fun i p r hp hr => ⟨(h3 i p r hp hr).1, own_below (h3 i p r hp hr).2 hb⟩, h4⟩
theorem MkPls.chg (h : MkPls w S v ll m) (hc : Chg T w w') (hn : ∀ b ∈ S, b ∉ T) : MkPls w' S v ll m := by
  obtain ⟨vs, h1, h2, h3, rfl⟩ := h
  exact ⟨vs, h1, own_chg h2 hc (fun b hb => hn b (by simp [hb])), fun i p r hp hr => ⟨(h3 i p r hp hr).1, own_chg (h3 i p r hp hr).2 hc (fun b hb => hn b (List.mem_append_right _ (mem_plBlocks hp b hb)))⟩, rfl⟩
theorem OwPls.empty (w : World) : OwPls w [] (.slice none 0 0) [] := ⟨[], rfl, World.ownsRow_nil _ _ _ _, fun i p r hp => by simp at hp, rfl⟩
end
end Go.Proofs.Ytjbhlbcjljdjmaa
