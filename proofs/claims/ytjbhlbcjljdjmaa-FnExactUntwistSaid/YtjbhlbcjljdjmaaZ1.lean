/- Own rows of rows: a cell of a row is read and written; a literal row is appended. -/
import Derived.Test.YtjbhlbcjljdjmaaY7
import Derived.Test.YtjbhlbcjljdjmaaI8
import Derived.Test.YtjbhlbcjljdjmaaY3
namespace Go.Proofs.Ytjbhlbcjljdjmaa
open Go.RowKit
theorem blocks_ne {vs : List Value} (h : (blocksOf vs).Nodup) {i k : Nat} (hik : i ≠ k) {u v : Value} (hu : vs[i]? = some u) (hv : vs[k]? = some v) : ∀ b ∈ u.ownBlock.toList, b ∉ v.ownBlock.toList := by
  intro b hb hb'
  rcases Nat.lt_or_ge i k with h1 | h1
  · refine blocks_apart h hv b hb' (mem_blocks (i := i) ?_ b hb)
    rw [List.getElem?_take_of_lt h1]; exact hu
  · refine blocks_apart h hu b hb (mem_blocks (i := k) ?_ b hb')
    rw [List.getElem?_take_of_lt (by omega)]; exact hv
/-- A cell of a row: where it stands, and that it may be written. -/
theorem OwRows.pick {w : World} {S : List Nat} {v : Value} {ll : List (List Int)} (h : OwRows 28 3 w S v ll) (hS : S.Nodup) {a b : Nat} (ha : a < ll.length) (hb : b < (ll[a]).length) :
    ∃ go cgo g c, v = .slice (some ⟨go, 0, none⟩) ll.length cgo ∧ w.cell? ⟨go, a, none⟩ = some (.slice (some ⟨g, 0, none⟩) (ll[a]).length c) ∧ w.cell? ⟨g, b, none⟩ = some (.int .i64 ll[a][b]) ∧ w.frozen? ⟨g, b, none⟩ = false ∧ g ≠ go ∧ g ∈ S ∧ go ∈ S ∧
      ∀ x, OwRows 28 3 (w.setCell ⟨g, b, none⟩ (.int .i64 x)) S v (ll.set a ((ll[a]).set b x)) := by
  obtain ⟨vs, h1, h2, h3, rfl⟩ := h
  have ha' : a < vs.length := by omega
  obtain ⟨go, cgo, hv⟩ := own_form h2 (by omega)
  have hva : vs[a]? = some vs[a] := List.getElem?_eq_getElem ha'
  have hla : ll[a]? = some ll[a] := List.getElem?_eq_getElem ha
  have hra := h3 a _ _ hva hla
  obtain ⟨g, c, hg⟩ := own_form hra (by omega)
  have hgS : g ∈ blocksOf vs := mem_blocks hva g (by rw [hg]; simp [Value.ownBlock])
  have hgoS : go ∈ v.ownBlock.toList := by rw [hv]; simp [Value.ownBlock]
  obtain ⟨_, n2, d1, _⟩ := nodup2 hS
  have hne : g ≠ go := fun e => d1 go hgoS (by rw [← e]; exact hgS)
  subst hv
  refine ⟨go, cgo, g, c, by rw [h1], ?_, ?_, ?_, hne, List.mem_append_right _ hgS, List.mem_append_left _ hgoS, fun x => ?_⟩
  · rw [← hg]
    exact (h2.cellAt a (by omega)).trans hva
  · rw [hg] at hra
    exact row_cell hra hb
  · rw [hg] at hra
    exact hra.frozenAt b
  · have hch : Chg [g] w (w.setCell ⟨g, b, none⟩ (.int .i64 x)) := chg_set (Chg.refl _ _) (by simp)
    refine ⟨vs, by simpa using h1, own_chg h2 hch (fun y hy hy' => ?_), fun i u r hu hr => ?_, rfl⟩
    · simp [Value.ownBlock] at hy hy'
      omega
    · by_cases hi : a = i
      · subst hi
        rw [hva] at hu
        simp only [Option.some.injEq] at hu
        subst hu
        rw [List.getElem?_set_self ha] at hr
        simp only [Option.some.injEq] at hr
        subst hr
        rw [hg] at hra ⊢
        have := row_stored hra b x
        rw [List.length_set]
        exact this
      · rw [List.getElem?_set_ne hi] at hr
        refine own_chg (h3 i u r hu hr) hch (fun y hy hy' => ?_)
        simp only [List.mem_singleton] at hy'
        subst hy'
        exact blocks_ne n2 (fun e => hi e.symm) hu hva y hy (by rw [hg]; simp [Value.ownBlock])
/-- Rows of the call's own that lie apart from the blocks T. -/
def RowsX (T : List Nat) (B : Nat) (w : World) (v : Value) (ll : List (List Int)) : Prop := ∃ S, OwRows 28 3 w S v ll ∧ Fresh B w S ∧ ∀ b ∈ S, b ∉ T
theorem RowsX.rd {T : List Nat} {B : Nat} {w : World} {v : Value} {ll : List (List Int)} (h : RowsX T B w v ll) : RdRows w v ll := by obtain ⟨S, h1, _⟩ := h; exact h1.rd
theorem RowsX.below {T : List Nat} {B : Nat} {w w' : World} {v : Value} {ll : List (List Int)} (h : RowsX T B w v ll) (hb : Below w.heap.size w w') : RowsX T B w' v ll := by
  obtain ⟨S, h1, h2, h3⟩ := h
  exact ⟨S, h1.below hb, fresh_mono h2 (Nat.le_refl _) hb.size, h3⟩
theorem RowsX.base {T T' : List Nat} {B B' : Nat} {w : World} {v : Value} {ll : List (List Int)} (h : RowsX T B w v ll) (hB : B' ≤ B) (hT : ∀ b ∈ T', b < B) : RowsX T' B' w v ll := by
  obtain ⟨S, h1, h2, h3⟩ := h
  exact ⟨S, h1, fresh_mono h2 hB (Nat.le_refl _), fun b hb hb' => by have := (h2.2 b hb).1; have := hT b hb'; omega⟩
theorem RowsX.mono {T : List Nat} {B B' : Nat} {w : World} {v : Value} {ll : List (List Int)} (h : RowsX T B w v ll) (hB : B' ≤ B) : RowsX T B' w v ll := by
  obtain ⟨S, h1, h2, h3⟩ := h
  exact ⟨S, h1, fresh_mono h2 hB (Nat.le_refl _), h3⟩
theorem RowsX.nil {T : List Nat} {B : Nat} {w : World} : RowsX T B w (.slice none 0 0) [] :=
  ⟨[], ⟨[], rfl, World.ownsRow_nil _ _ _ _, fun i v' l hv hl => by simp at hv, rfl⟩, ⟨List.nodup_nil, fun b hb => by simp at hb⟩, fun b hb => by simp at hb⟩
theorem RowsX.empty {T : List Nat} {B : Nat} {w : World} (hB : B ≤ w.heap.size) (hT : ∀ b ∈ T, b < w.heap.size) : RowsX T B (w.alloc (.cells #[] 28)) (.slice (some ⟨w.heap.size, 0, none⟩) 0 0) [] := by
  refine ⟨[w.heap.size], ⟨[], rfl, own_mono (World.ownsRow_made (size := 1) (e := 28) w #[] 0 (Nat.le_refl _) (by simp [maxLen]) rfl) (Nat.zero_le _), fun i v' l hv hl => by simp at hv, rfl⟩, ⟨by simp, fun b hb => ?_⟩, fun b hb hb' => ?_⟩
  · simp at hb; subst hb; simp; exact hB
  · simp at hb; subst hb; have := hT _ hb'; omega
/-- a row is appended -/
theorem rowsX_snoc {T : List Nat} {w w' : World} {B : Nat} {vs : List Value} {ll : List (List Int)} {q q' u : Value} {r : List Int} {Sk : List Nat} (hl : vs.length = ll.length) (hrows : RowsOwn 3 w vs ll)
    (hf : Fresh B w (q.ownBlock.toList ++ blocksOf vs)) (hT : ∀ b ∈ q.ownBlock.toList ++ blocksOf vs, b ∉ T) (hTw : ∀ b ∈ T, b < w.heap.size) (hk : OwL 3 cInt 1 w Sk u r) (hfk : Fresh B w Sk) (hTk : ∀ b ∈ Sk, b ∉ T) (hd : ∀ b ∈ q.ownBlock.toList ++ blocksOf vs, b ∉ Sk)
    (hown' : w'.ownsRow 0 28 1 q' (vs.length + 1) (vs ++ [u])) (hg : w.grownBy w' q.ownBlock) (hat : q'.ownBlock = q.ownBlock ∨ q'.ownBlock = some w.heap.size) (hB : B ≤ w.heap.size) :
    RowsX T B w' q' (ll ++ [r]) := by
  have hch := Chg.of_grown hg
  obtain ⟨n1, n2, dj, dj'⟩ := nodup2 hf.1
  have hs := hg.size
  have hSk := hk.2
  subst hSk
  have hq : ∀ b ∈ q'.ownBlock.toList, b ∈ q.ownBlock.toList ∨ b = w.heap.size := by
    intro b hb
    rcases hat with e | e
    · rw [e] at hb; exact .inl hb
    · rw [e] at hb; simp at hb; exact .inr hb
  refine ⟨_, ⟨vs ++ [u], by simp [hl], ?_, ?_, rfl⟩, ?_, ?_⟩
  · rw [List.length_append]
    exact hown'
  · intro i p r' hp hr'
    by_cases hi : i < vs.length
    · rw [List.getElem?_append_left hi] at hp
      rw [List.getElem?_append_left (by omega)] at hr'
      exact own_chg (hrows i p r' hp hr') hch (fun b hb hb' => dj' b (mem_blocks hp b hb) hb')
    · rw [List.getElem?_append_right (by omega)] at hp
      rw [List.getElem?_append_right (by omega)] at hr'
      have e1 : i - vs.length = 0 := by
        have := (List.getElem?_eq_some_iff.1 hp).1
        simp at this; omega
      rw [e1] at hp
      rw [show i - ll.length = 0 by omega] at hr'
      simp at hp hr'
      subst hp hr'
      exact own_chg hk.1 hch (fun b hb hb' => hd b (by simp [hb']) hb)
  · rw [blocks_snoc]
    refine ⟨List.nodup_append.2 ⟨by cases q'.ownBlock <;> simp, List.nodup_append.2 ⟨n2, hfk.1, fun b hb b' hb' e => ?_⟩, fun b hb b' hb' e => ?_⟩, fun b hb => ?_⟩
    · subst e
      exact hd b (List.mem_append_right _ hb) hb'
    · subst e
      rcases hq b hb with h | h
      · rcases List.mem_append.1 hb' with h' | h'
        · exact dj b h h'
        · exact hd b (List.mem_append_left _ h) h'
      · rcases List.mem_append.1 hb' with h' | h'
        · have := (hf.2 b (List.mem_append_right _ h')).2; omega
        · have := (hfk.2 b h').2; omega
    · rcases List.mem_append.1 hb with h | h
      · have h1 := (own_lt hown' b h).2
        rcases hq b h with h' | h'
        · have := (hf.2 b (List.mem_append_left _ h')).1; omega
        · omega
      · rcases List.mem_append.1 h with h' | h'
        · have := hf.2 b (List.mem_append_right _ h'); omega
        · have := hfk.2 b h'; omega
  · rw [blocks_snoc]
    intro b hb hb'
    rcases List.mem_append.1 hb with h | h
    · rcases hq b h with h' | h'
      · exact hT b (List.mem_append_left _ h') hb'
      · have := hTw b hb'; omega
    · rcases List.mem_append.1 h with h' | h'
      · exact hT b (List.mem_append_right _ h') hb'
      · exact hTk b h' hb'
/-- what an append of a new row asks and leaves -/
theorem RowsX.lit {T : List Nat} {B : Nat} {w W : World} {v : Value} {ll : List (List Int)} (h : RowsX T B w v ll) (hB : B ≤ w.heap.size) (hTw : ∀ b ∈ T, b < w.heap.size) (hbW : Below w.heap.size w W) {u : Value} {r : List Int} (hk : W.ownsRow w.heap.size 3 1 u r.length (r.flatMap cInt)) :
    ∃ vs, vs.length = ll.length ∧ W.ownsRow 0 28 1 v vs.length vs ∧ (∀ b ∈ v.ownBlock.toList, b ∉ T) ∧ (∀ b ∈ v.ownBlock.toList, B ≤ b ∧ b < w.heap.size) ∧
      ∀ w' q', w'.ownsRow 0 28 1 q' (vs.length + 1) (vs ++ [u]) → W.grownBy w' v.ownBlock → (q'.ownBlock = v.ownBlock ∨ q'.ownBlock = some W.heap.size) → RowsX T B w' q' (ll ++ [r]) := by
  obtain ⟨S, ⟨vs, h1, h2, h3, rfl⟩, hf, hT⟩ := h
  have hz := hbW.size
  refine ⟨vs, h1, own_below h2 hbW, fun b hb => hT b (List.mem_append_left _ hb), fun b hb => hf.2 b (List.mem_append_left _ hb), fun w' q' hown' hg hat => ?_⟩
  have hkl := own_lt hk
  exact rowsX_snoc (Sk := u.ownBlock.toList) h1 (h3.below hbW) (fresh_mono hf (Nat.le_refl _) hz) hT (fun b hb => by have := hTw b hb; omega) ⟨own_mono hk (Nat.zero_le _), rfl⟩
    ⟨by cases u.ownBlock <;> simp, fun b hb => by have := hkl b hb; omega⟩ (fun b hb hb' => by have := hkl b hb; have := hTw b hb'; omega) (fun b hb hb' => by have := (hf.2 b hb).2; have := hkl b hb'; omega) hown' hg hat (by omega)
/-- a literal row, laid down as the append's second argument -/
theorem lit_own {w : World} (cs : Array Value) (r : List Int) (o : Obj) (hcs : cs.toList = r.flatMap cInt) (hr : r.length ≤ 1000) :
    ((w.alloc (.cells cs 3)).alloc o).ownsRow w.heap.size 3 1 (.slice (some ⟨w.heap.size, 0, none⟩) r.length r.length) r.length (r.flatMap cInt) := by
  have hlen : cs.size = r.length := by
    have := congrArg List.length hcs
    rw [Array.length_toList, row_flat, List.length_map] at this
    exact this
  have := own_newX (w := w) (B := w.heap.size) (cs := cs) (t := 3) (size := 1) (n := r.length) (Nat.le_refl _) (by omega) (by simp [maxLen]; omega)
  rw [hcs] at this
  exact this.alloc o
 where own_newX {w : World} {B : Nat} {cs : Array Value} {t : TypeId} {size n : Nat} (hB : B ≤ w.heap.size) (hcs : cs.size = n * size) (hm : n ≤ maxLen) : (w.alloc (.cells cs t)).ownsRow B t size (.slice (some ⟨w.heap.size, 0, none⟩) n n) n cs.toList :=
  ⟨by rw [Array.length_toList]; exact hcs, .inr ⟨w.heap.size, n, cs, rfl, hB, heap_alloc_new w _, Nat.le_refl _, hm, hcs, List.take_of_length_le (by rw [Array.length_toList, hcs]; exact Nat.le_refl _)⟩⟩
/-- Rows that are not touched. -/
theorem OwRows.kept {w w' : World} {S : List Nat} {v : Value} {ll : List (List Int)} {q : Value} (h : OwRows 28 3 w S v ll) (hc : Chg q.ownBlock.toList w w') (hq : ∀ b ∈ q.ownBlock.toList, b ∉ S) : OwRows 28 3 w' S v ll := h.chg hc (fun b hb hb' => hq b hb' hb)
end Go.Proofs.Ytjbhlbcjljdjmaa
