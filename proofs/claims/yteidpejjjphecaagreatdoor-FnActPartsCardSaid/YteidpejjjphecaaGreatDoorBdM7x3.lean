/- Several texts in one: append onto a new empty slice: whatever stood before is as it was. Over any program. Words for drawn regions: what is made belongs to a class of blocks. Over any program. A number put into a row: what the region of 'append(append(append([]int{}, x[:at]...), k), x[at:]...)' yields. Over any program. Written by a program (gen_ins.py). -/
import Derived.ArgAppend
import Derived.Test.YteidpejjjphecaaGreatDoorBdM5x8
import Derived.Test.YteidpejjjphecaaGreatDoorBdA1x10
namespace Go.Proofs.YteidpejjjphecaaGreatDoor
open Go.RowKit
section
variable {P : Program} (w : World)
theorem run_append_zero_src (base : Nat) (t ty e : TypeId) (i : TypeInfo) (size : Nat) (ht : P.underlying t = some (.slice e)) (hi : P.info? e = some i)
  (v : Value) (n : Nat) (xs : List Value) (hown : w.ownsRow base e size v n xs) (A : Option Addr) (c : Nat) : (Builtin.append_ #[t, t] ty #[v, .slice A 0 c]).run P w = .ok v w := by
 cases A with
 | none => exact run_append_nil_src w base t ty e i size ht hi v n xs hown c
 | some ad =>
  have hld : (loadCells ad 0).run P w = .ok #[] w := by unfold loadCells loadCellsFrom; rfl
  rcases hown.2 with ⟨rfl, rfl⟩ | ⟨g, cap, cur, rfl, _, _, hnc, _⟩
  ·simp [Builtin.append_, run_underlying ht, sizeOf, typeInfo, hi, Builtin.lenOf, Builtin.firstCells, hld]
  ·simp [Builtin.append_, run_underlying ht, sizeOf, typeInfo, hi, Builtin.lenOf, Builtin.firstCells, hnc, storeCells, hld]
def InOrNew (v : Value) (g B : Nat) (w : World) : Prop := ∀ b ∈ v.ownBlock.toList, b = g ∨ (B ≤ b ∧ b < w.heap.size)
theorem run_append_empty (base : Nat) (t ty e : TypeId) (i : TypeInfo) (z : Value) (size bytes : Nat) (ht : P.underlying t = some (.slice e)) (hi : P.info? e = some i) (hz : i.zero = some z)
  (hsize : i.size = size) (hby : i.bytes = bytes) (hzs : z.cells.size = size) (hsz : 0 < size)
  (g : Nat) (hown : w.ownsRow base e size (.slice (some ⟨g, 0, none⟩) 0 0) 0 [])
  (u : Value) (m : Nat) (news : List Value) (hr : RdS w size u m news) (h1 : ∀ y ∈ news, y.oneCell' = true)
  (h63 : m ≤ maxLen) (hbytes : m * bytes ≤ 140737488355328) (hbase : base ≤ w.heap.size) :
  ∃ v' w', (Builtin.append_ #[t, t] ty #[.slice (some ⟨g, 0, none⟩) 0 0, u]).run P w = .ok v' w' ∧ w'.ownsRow base e size v' m news ∧ Below w.heap.size w w' ∧ InOrNew v' g w.heap.size w' := by
 obtain ⟨hl, A, c, rfl, hmc, hc, hcells⟩ := hr
 rcases Nat.eq_zero_or_pos m with h0 | h0
 ·subst h0
  have hn : news = [] := List.eq_nil_of_length_eq_zero (by simpa using hl)
  subst hn
  exact ⟨_, w, run_append_zero_src w base t ty e i size ht hi _ 0 [] hown A c, hown, Below.refl _ _, fun b hb => .inl (by simp [Value.ownBlock] at hb; omega)⟩
 ·obtain ⟨gs, off, rfl, hcell⟩ := hcells h0
  obtain ⟨v', w', hrun, h2, h3⟩ := run_append_arg_grows (P := P) w t ty e i z size bytes ht hi hz hsize hby hzs hsz ⟨g, 0, none⟩ 0 0 [] (by simp) (fun j u hu => by simp at hu) ⟨gs, off, none⟩ m c news hl
   (fun j u hu => by rw [Addr.add_lit]; exact hcell j u hu) (by omega) (by omega) (by rw [Nat.zero_add]; exact hbytes)
  rw [Nat.zero_add, List.nil_append] at h2
  refine ⟨v', w', hrun, own_mono h2 hbase, ⟨h3.os, h3.tape, h3.output, h3.size, fun k hk => h3.block k hk (by simp)⟩, fun b hb => .inr (h2.lt b (by simpa using hb))⟩
theorem wpList_append_empty {ops : Array Oper} {rest : List Oper} {o : Oper} {a : Act} {Q : Exit → Act → World → Prop} (hgd : o.guard = none) (s x : Operand) (t : TypeId)
  (ho : o.op = .call { callee := .builtin .append, args := #[s, x], argTypes := #[t, t] })
  (base : Nat) (e : TypeId) (i : TypeInfo) (z : Value) (size bytes : Nat) (ht : P.underlying t = some (.slice e)) (hi : P.info? e = some i) (hz : i.zero = some z)
  (hsize : i.size = size) (hby : i.bytes = bytes) (hzs : z.cells.size = size) (hsz : 0 < size)
  (g : Nat) (hs : a.eval s = .slice (some ⟨g, 0, none⟩) 0 0) (hown : w.ownsRow base e size (.slice (some ⟨g, 0, none⟩) 0 0) 0 [])
  (u : Value) (m : Nat) (news : List Value) (hx : a.eval x = u) (hr : RdS w size u m news) (h1 : ∀ y ∈ news, y.oneCell' = true)
  (h63 : m ≤ maxLen) (hbytes : m * bytes ≤ 140737488355328) (hbase : base ≤ w.heap.size)
  (h : ∀ v' w', w'.ownsRow base e size v' m news → Below w.heap.size w w' → InOrNew v' g w.heap.size w' → wpList P ops Q rest (a.put o.dst v') w') : wpList P ops Q (o :: rest) a w := by
 refine wpList_plain hgd fun K hK => ?_
 obtain ⟨v', w', hrun, h2, h3, h4⟩ := run_append_empty (P := P) w base t o.type e i z size bytes ht hi hz hsize hby hzs hsz g hown u m news hr h1 h63 hbytes hbase
 unfold Oper.wp execOp
 simp only [ho, resolve, invoke, builtin, Sem.run_bind, Sem.run_pure, Result.andThen_ok, List.map_toArray, List.map_cons, List.map_nil, hs, hx, hrun]
 exact hK _ _ (h v' w' h2 h3 h4)
theorem wpList_appendB {ops : Array Oper} {rest : List Oper} {o : Oper} {a : Act} {Q : Exit → Act → World → Prop} (hgd : o.guard = none) (s x : Operand) (t : TypeId)
  (ho : o.op = .call { callee := .builtin .append, args := #[s, x], argTypes := #[t, t] })
  (base : Nat) (e : TypeId) (i : TypeInfo) (z : Value) (size bytes : Nat) (ht : P.underlying t = some (.slice e)) (hi : P.info? e = some i) (hz : i.zero = some z)
  (hsize : i.size = size) (hby : i.bytes = bytes) (hzs : z.cells.size = size) (hsz : 0 < size)
  (v : Value) (n : Nat) (xs : List Value) (hs : a.eval s = v) (hown : w.ownsRow base e size v n xs)
  (u : Value) (m : Nat) (news : List Value) (hx : a.eval x = u) (hr : RdS w size u m news) (h1 : ∀ y ∈ news, y.oneCell' = true)
  (h63 : n + m ≤ maxLen) (hbytes : (n + m) * bytes ≤ 140737488355328) (hbase : base ≤ w.heap.size)
  (h : ∀ v' w', w'.ownsRow base e size v' (n + m) (xs ++ news) → w.grownBy w' v.ownBlock → (v'.ownBlock = v.ownBlock ∨ v'.ownBlock = some w.heap.size) → wpList P ops Q rest (a.put o.dst v') w') : wpList P ops Q (o :: rest) a w := by
 refine wpList_plain hgd fun K hK => ?_
 obtain ⟨v', w', hrun, h2, h3, h4⟩ := run_appendB (P := P) w base t o.type e i z size bytes ht hi hz hsize hby hzs hsz v n xs hown u m news hr h1 h63 hbytes hbase
 unfold Oper.wp execOp
 simp only [ho, resolve, invoke, builtin, Sem.run_bind, Sem.run_pure, Result.andThen_ok, List.map_toArray, List.map_cons, List.map_nil, hs, hx, hrun]
 exact hK _ _ (h v' w' h2 h3 h4)
theorem rdS_block {w : World} {g : Nat} {cs : Array Value} {t : TypeId} (h : w.heap[g]? = some (.cells cs t (0, 0))) (size n : Nat) (hn : cs.size = n * size) (hm : n ≤ maxLen) : RdS w size (.slice (some ⟨g, 0, none⟩) n n) n cs.toList :=
 ⟨by simpa using hn, some ⟨g, 0, none⟩, n, rfl, Nat.le_refl _, hm, fun _ => ⟨g, 0, rfl, fun j u hu => by
  rw [Nat.zero_add, cell_of_row _ _ j cs t (0, 0) h]; simpa using hu⟩⟩
end
open Go.RowKit
def OwnC (B : Nat) (e : TypeId) (size : Nat) (v : Value) (n : Nat) (xs : List Value) (c : Nat) (gh : Nat → Nat) (w : World) : Prop := w.ownsRow B e size v n xs ∧ ∀ b ∈ v.ownBlock.toList, gh b = c
theorem OwnC.keep {B : Nat} {e : TypeId} {size : Nat} {v : Value} {n : Nat} {xs : List Value} {c : Nat} {gh gh' : Nat → Nat} {w w' : World} (h : OwnC B e size v n xs c gh w) (hb : Below w.heap.size w w') (hg : ∀ b, b < w.heap.size → gh' b = gh b) : OwnC B e size v n xs c gh' w' :=
 ⟨own_below h.1 hb, fun b hm => (hg b (h.1.lt b (by simpa using hm)).2).trans (h.2 b hm)⟩
def OwG (B : Nat) (ow : World → List Nat → Prop) (c : Nat) (gh : Nat → Nat) (w : World) : Prop := ∃ S, ow w S ∧ S.Nodup ∧ ∀ b ∈ S, (B ≤ b ∧ b < w.heap.size) ∧ gh b = c
section
variable {B c : Nat} {ow : World → List Nat → Prop} {gh gh' : Nat → Nat} {w w' : World}
theorem OwG.keep (h : OwG B ow c gh w) (hk : ∀ S, ow w S → ow w' S) (hb : Below w.heap.size w w') (hg : ∀ b, b < w.heap.size → gh' b = gh b) : OwG B ow c gh' w' := by
 obtain ⟨S, h1, h2, h3⟩ := h
 exact ⟨S, hk S h1, h2, fun b hm => by
  have := h3 b hm
  have hs := hb.size
  exact ⟨⟨this.1.1, by omega⟩, (hg b this.1.2).trans this.2⟩⟩
theorem OwG.same (h : OwG B ow c gh w) (c' : Nat) : OwG B ow c (ghNew gh w.heap.size c') w := h.keep (fun _ h => h) (Below.refl _ _) (fun _ hb => if_pos hb)
theorem OwG.of_fresh {S : List Nat} (h : ow w' S) (hf : Fresh w.heap.size w' S) (hB : B ≤ w.heap.size) : OwG B ow c (ghNew gh w.heap.size c) w' :=
 ⟨S, h, hf.1, fun b hm => by
  have := hf.2 b hm
  exact ⟨⟨by omega, this.2⟩, if_neg (by omega)⟩⟩
theorem OwG.of_append {α : Type} {f : α → List Value} {e : TypeId} {size g : Nat} {v : Value} {l : List α} (hown : w'.ownsRow B e size v l.length (l.flatMap f)) (_ : Below w.heap.size w w') (hat : InOrNew v g w.heap.size w')
  (og : OwnC B e size (.slice (some ⟨g, 0, none⟩) 0 0) 0 [] c gh w) : OwG B (fun w S => OwL e f size w S v l) c (ghNew gh w.heap.size c) w' :=
 ⟨_, OwL.mk_ hown, (fresh_of hown).1, fun b hm => by
  have h1 := hown.lt b (by simpa using hm)
  refine ⟨h1, ?_⟩
  rcases hat b hm with rfl | h3
  ·exact (if_pos (og.1.lt _ rfl).2).trans (og.2 _ (by simp [Value.ownBlock]))
  ·exact if_neg (by omega)⟩
theorem OwG.chg (h : OwG B ow c gh w) {T : List Nat} (hc : Chg T w w') (hT : ∀ b ∈ T, b < B) (hk : ∀ S, ow w S → (∀ b ∈ S, b ∉ T) → ow w' S) : OwG B ow c gh w' := by
 obtain ⟨S, h1, h2, h3⟩ := h
 exact ⟨S, hk S h1 (fun b hm hm' => by have := h3 b hm; have := hT b hm'; omega), h2, fun b hm => by
  have := h3 b hm
  have hs := hc.size
  exact ⟨⟨this.1.1, by omega⟩, this.2⟩⟩
theorem OwG.two {ow2 : World → List Nat → Prop} {c2 : Nat} (h : OwG B ow c gh w) (h2 : OwG B ow2 c2 gh w) (hne : c ≠ c2) : ∃ S1 S2, ow w S1 ∧ ow2 w S2 ∧ Fresh B w (S1 ++ S2) := by
 obtain ⟨S1, a1, a2, a3⟩ := h
 obtain ⟨S2, b1, b2, b3⟩ := h2
 refine ⟨S1, S2, a1, b1, List.nodup_append.2 ⟨a2, b2, fun b hb b' hb' e => ?_⟩, fun b hb => ?_⟩
 ·subst e
  exact hne ((a3 b hb).2.symm.trans (b3 b hb').2)
 ·rcases List.mem_append.1 hb with hb | hb
  ·exact (a3 b hb).1
  ·exact (b3 b hb).1
theorem OwG.one (h : OwG B ow c gh w) : ∃ S, ow w S ∧ Fresh B w S := by
 obtain ⟨S, a1, a2, a3⟩ := h
 exact ⟨S, a1, a2, fun b hb => (a3 b hb).1⟩
end
theorem Loc.set {w : World} {b i : Nat} {cs : List Value} {u v : Value} (h : Loc w b cs) (hi : cs[i]? = some v) : Loc (w.setCell ⟨b, i, none⟩ u) b (cs.set i u) := by
 intro j x hj
 obtain ⟨h1, h2⟩ := h i v hi
 by_cases hij : i = j
 ·subst hij
  rw [List.getElem?_set_self (List.getElem?_eq_some_iff.1 hi).1] at hj
  injection hj with hj
  subst hj
  exact ⟨by simp [go_sem, h1], by simp [go_sem, h2]⟩
 ·rw [List.getElem?_set_ne hij] at hj
  obtain ⟨h3, h4⟩ := h j x hj
  refine ⟨?_, by simp [go_sem, h4]⟩
  rw [World.cell?_setCell_other w ⟨b, i, none⟩ ⟨b, j, none⟩ u (fun e => hij (by injection e))]
  exact h3
theorem Loc.far {w : World} {b g i : Nat} {cs : List Value} {u : Value} (h : Loc w b cs) (hne : b ≠ g) : Loc (w.setCell ⟨g, i, none⟩ u) b cs := h.chg (S := [g]) (chg_set (Chg.refl _ _) (by simp)) (by simpa using hne)
theorem own_up {w : World} {B : Nat} {e : TypeId} {size n : Nat} {v : Value} {xs : List Value} (h : w.ownsRow 0 e size v n xs) (hb : ∀ b ∈ v.ownBlock.toList, B ≤ b ∧ b < w.heap.size) : w.ownsRow B e size v n xs := by
 refine ⟨h.1, ?_⟩
 rcases h.2 with h | ⟨g, cap, cur, rfl, _, h3⟩
 ·exact .inl h
 ·exact .inr ⟨g, cap, cur, rfl, (hb g (by simp [Value.ownBlock])).1, h3⟩
theorem fresh_left {B : Nat} {w : World} {S T : List Nat} (h : Fresh B w (S ++ T)) : Fresh B w S := ⟨(nodup2 h.1).1, fun b hb => h.2 b (List.mem_append_left _ hb)⟩
theorem fresh_right {B : Nat} {w : World} {S T : List Nat} (h : Fresh B w (S ++ T)) : Fresh B w T := ⟨(nodup2 h.1).2.1, fun b hb => h.2 b (List.mem_append_right _ hb)⟩
theorem fresh_join {B : Nat} {w : World} {S T : List Nat} (h1 : Fresh B w S) (h2 : Fresh B w T) (hd : ∀ b ∈ S, b ∉ T) : Fresh B w (S ++ T) :=
 ⟨List.nodup_append.2 ⟨h1.1, h2.1, fun b hb b' hb' e => hd b hb (e ▸ hb')⟩, fun b hb => by
  rcases List.mem_append.1 hb with hb | hb
  ·exact h1.2 b hb
  ·exact h2.2 b hb⟩
theorem fresh_app {B : Nat} {w w' : World} {e : TypeId} {size n : Nat} {v v' : Value} {xs : List Value} (hown : w'.ownsRow B e size v' n xs) (hat : v'.ownBlock = v.ownBlock ∨ v'.ownBlock = some w.heap.size) {T : List Nat} (hT : ∀ b ∈ T, b < w.heap.size ∧ b ∉ v.ownBlock.toList) :
  Fresh B w' v'.ownBlock.toList ∧ ∀ b ∈ v'.ownBlock.toList, b ∉ T := by
 refine ⟨fresh_of hown, fun b hb hT' => ?_⟩
 have := hT b hT'
 rcases hat with h | h
 ·rw [h] at hb; exact this.2 hb
 ·rw [h] at hb; simp at hb; omega
open Go.RowKit
end Go.Proofs.YteidpejjjphecaaGreatDoor
