/- Several texts in one: append at a step of a region that draws its order; a block whose cells are known. Over any program. A law for regions that draw their order and only make memory, ahead of one last operation. Over any program. A law for regions that draw their order, only make memory, and hold guarded operations whose guards are decided ahead. Over any program. A law for regions that draw their order, as the guarded one, where one operation (q) of the first L may still be pending when number L comes: 'x, ok := f(..)' where x is a box of its own. Over any program. A frame written out by its slots. Over any program. A law for regions that draw their order, whose operations make memory and change what is their own (append onto an own row). Over any program. The law of M9 for regions whose state depends on which operations have come (a row of the call's own that one of them appends to). Over any program. A law for regions that draw their order, whose operations make memory, change what is their own, and may be guarded, where every guard is known to let its operation run. Over any program. -/
import Derived.Maps.AppendAt
import Derived.Deep.RegionHeld3
import Derived.Test.YteidpejjjphecaaGreatDoorBdA1x10
namespace Go.Proofs.YteidpejjjphecaaGreatDoor
open Go.RowKit
section
variable {P : Program} (w : World)
theorem run_appendB (base : Nat) (t ty e : TypeId) (i : TypeInfo) (z : Value) (size bytes : Nat) (ht : P.underlying t = some (.slice e)) (hi : P.info? e = some i) (hz : i.zero = some z)
  (hsize : i.size = size) (hby : i.bytes = bytes) (hzs : z.cells.size = size) (hsz : 0 < size)
  (v : Value) (n : Nat) (xs : List Value) (hown : w.ownsRow base e size v n xs)
  (u : Value) (m : Nat) (news : List Value) (hr : RdS w size u m news) (h1 : ∀ y ∈ news, y.oneCell' = true)
  (h63 : n + m ≤ maxLen) (hbytes : (n + m) * bytes ≤ 140737488355328) (hbase : base ≤ w.heap.size) :
  ∃ v' w', (Builtin.append_ #[t, t] ty #[v, u]).run P w = .ok v' w' ∧ w'.ownsRow base e size v' (n + m) (xs ++ news) ∧ w.grownBy w' v.ownBlock ∧ (v'.ownBlock = v.ownBlock ∨ v'.ownBlock = some w.heap.size) := by
 obtain ⟨hl, A, c, rfl, hmc, hc, hcells⟩ := hr
 rcases Nat.eq_zero_or_pos m with h0 | h0
 ·subst h0
  have hn : news = [] := List.eq_nil_of_length_eq_zero (by simpa using hl)
  subst hn
  rcases A with _ | ad
  ·exact ⟨v, w, run_append_nil_src w base t ty e i size ht hi v n xs hown c, by simpa using hown, World.grownBy.refl w _, .inl rfl⟩
  ·obtain ⟨v', w', hrun, h2, h3, _, h5⟩ := run_append_own_at (P := P) w base t ty e i z size bytes ht hi hz hsize hby hzs hsz v n xs hown ad 0 c [] hl (fun j u hu => by simp at hu) h1 h63 hbytes hbase
   exact ⟨v', w', hrun, h2, h3, h5⟩
 ·obtain ⟨g, off, rfl, hcell⟩ := hcells h0
  obtain ⟨v', w', hrun, h2, h3, _, h5⟩ := run_append_own_at (P := P) w base t ty e i z size bytes ht hi hz hsize hby hzs hsz v n xs hown ⟨g, off, none⟩ m c news hl
   (fun j u hu => by rw [Addr.add_lit]; exact hcell j u hu) h1 h63 hbytes hbase
  exact ⟨v', w', hrun, h2, h3, h5⟩
end
def Loc (w : World) (b : Nat) (cs : List Value) : Prop := ∀ (i : Nat) (u : Value), cs[i]? = some u → w.cell? ⟨b, i, none⟩ = some u ∧ w.frozen? ⟨b, i, none⟩ = false
section
variable {w w' : World} {b : Nat} {cs : List Value}
theorem Loc.below (h : Loc w b cs) (hb : Below w.heap.size w w') : Loc w' b cs := fun i u hu => ⟨carry hb (h i u hu).1, carryF hb (h i u hu).1 (h i u hu).2⟩
theorem Loc.drew (h : Loc w b cs) : Loc w.drew b cs := h
theorem Loc.drewN (h : Loc w b cs) (n : Nat) : Loc (w.drewN n) b cs := h
theorem Loc.alloc (h : Loc w b cs) (o : Obj) : Loc (w.alloc o) b cs := h.below ((Below.refl _ _).alloc (Nat.le_refl _) o)
theorem Loc.chg {S : List Nat} (h : Loc w b cs) (hc : Chg S w w') (hn : b ∉ S) : Loc w' b cs := fun i u hu => ⟨carryChg hc (h i u hu).1 hn, carryChgF hc (h i u hu).1 (h i u hu).2 hn⟩
theorem Loc.new (w : World) (cs : Array Value) (t : TypeId) : Loc (w.alloc (.cells cs t)) w.heap.size cs.toList := fun i u hu => by
 refine ⟨?_, ?_⟩
 ·rw [cell_of_row _ _ i cs t (0, 0) (heap_alloc_new w _)]; simpa using hu
 ·exact frozen_of_row _ _ i _ _ (heap_alloc_new w _)
end
open Go.RowKit
section
variable {P : Program} {ops : Array Oper} {Q : Exit → Act → World → Prop}
def slotOf (a : Act) (o : Oper) : Value := match o.dst with | some d => a.tmps.getD d undef | none => undef
def AllP {α : Type} (f : α → Prop) : List α → Prop
  | [] => True
  | x :: l => f x ∧ AllP f l
theorem AllP.mem {α : Type} {f : α → Prop} {l : List α} (h : AllP f l) : ∀ x ∈ l, f x := by
  induction l with
  | nil => intro x hx; simp at hx
  | cons y l ih =>
    intro x hx
    rcases List.mem_cons.1 hx with rfl | hx
    · exact h.1
    · exact ih h.2 x hx
theorem AllP.of {α : Type} {f : α → Prop} {l : List α} (h : ∀ x ∈ l, f x) : AllP f l := by
  induction l with
  | nil => trivial
  | cons y l ih => exact ⟨h y List.mem_cons_self, ih (fun x hx => h x (List.mem_cons_of_mem _ hx))⟩
def shapeB (ops : Array Oper) (L n : Nat) : Bool :=
  (decide (L < ops.size) && (List.range ops.size).all (fun k => ((ops[k]?).map fun o => (decide (L ≤ k) || o.guard.isNone) && o.after.all (fun e => !Region.binds .any e || decide (e.on < k))).getD false)) &&
  ((List.range L).all (fun j => (List.range (L + 1)).any fun k => decide (j < k) && ((ops[k]?).map (·.after.any fun e => Region.binds .any e && e.on == j)).getD false) &&
  (List.range ops.size).all (fun k => decide (k ≤ L) || ((ops[k]?).map (·.after.any fun e => Region.binds .any e && e.on == k - 1)).getD false)) &&
  (List.range L).all (fun j => match (ops[j]?).bind (·.dst) with | some d => decide (d < n) && (List.range L).all (fun k => k == j || !((ops[k]?).bind (·.dst) == some d)) | none => false)
def keptL (ops : Array Oper) (L n : Nat) : List Nat := (List.range n).filter fun k => (List.range L).all fun j => !((ops[j]?).bind (·.dst) == some k)
structure Agree (L n : Nat) (ops : Array Oper) (a0 a : Act) : Prop where
  size : a.tmps.size = n
  defers : a.defers = a0.defers
  kept : ∀ k, (keptL ops L n).contains k = true → a.tmps.getD k undef = a0.tmps.getD k undef
def depsOf (o : Oper) : List Nat := (o.after.toList.filter (Region.binds .any)).map (·.on)
def ghNew (gh : Nat → Nat) (B c : Nat) : Nat → Nat := fun b => if b < B then gh b else c
def MadePost (a : Act) (dst : Option Tmp) (w : World) (J : World → Prop) (q : Value → World → Prop) (e : Exit) (a' : Act) (w' : World) : Prop := e = .normal ∧ ∃ v, a' = a.put dst v ∧ q v w' ∧ J w' ∧ Below w.heap.size w w'
def StepAt (L n : Nat) (P : Program) (ops : Array Oper) (a0 : Act) (J : World → Prop) (cl : Nat → Nat) (p : Nat → Value → (Nat → Nat) → World → Prop) (i : Nat) (o : Oper) : Prop :=
  ∀ (a : Act) (gh : Nat → Nat) (w : World), Agree L n ops a0 a → J w → (∀ j, (depsOf o).contains j = true → ∀ oj, ops[j]? = some oj → p j (slotOf a oj) gh w) →
    wpList P #[o] (MadePost a o.dst w J (fun v w' => p i v (ghNew gh w.heap.size (cl i)) w')) [o] a w
def StepsFrom (L n : Nat) (P : Program) (ops : Array Oper) (a0 : Act) (J : World → Prop) (cl : Nat → Nat) (p : Nat → Value → (Nat → Nat) → World → Prop) : Nat → Nat → List Oper → Prop
  | 0, _, _ => True
  | _ + 1, _, [] => True
  | m + 1, i, o :: l => StepAt L n P ops a0 J cl p i o ∧ StepsFrom L n P ops a0 J cl p m (i + 1) l
theorem StepsFrom.at_ {L n : Nat} {a0 : Act} {J : World → Prop} {cl : Nat → Nat} {p : Nat → Value → (Nat → Nat) → World → Prop} (m : Nat) : ∀ (l : List Oper) (k : Nat), StepsFrom L n P ops a0 J cl p m k l → ∀ (i : Nat) (o : Oper), i < m → l[i]? = some o → StepAt L n P ops a0 J cl p (k + i) o := by
  induction m with
  | zero => intro l k _ i o h; omega
  | succ m ih =>
    intro l k h i o hi ho
    match l, h with
    | [], _ => simp at ho
    | x :: l, h =>
      cases i with
      | zero => simp at ho; subst ho; exact h.1
      | succ i =>
        have := ih l (k + 1) h.2 i o (by omega) (by simpa using ho)
        rwa [show k + 1 + i = k + (i + 1) by omega] at this
theorem wp_calm {o : Oper} {a : Act} {w : World} {K : Act → World → Prop} {ops' : Array Oper} (hg : o.guard = none) (h : wpList P ops' (fun e a' w' => e = .normal ∧ K a' w') [o] a w) : o.wp P a w K Q := by
  unfold wpList at h
  rw [if_pos (by simp [Region.wanted, hg])] at h
  rcases h with h | ⟨_, a', w', h⟩
  · unfold Oper.wp at *
    generalize (execOp a.eval o).run P w = r at *
    have hn : ∀ a w, wpList P ops' (fun e a' w' => e = .normal ∧ K a' w') [] a w → K a w := fun a w h => h.2
    cases r with
    | ok n w' =>
      cases n <;> simp only [Oper.upon] at h ⊢ <;>
        first
          | exact hn _ _ h
          | exact Calls.mono h (fun e w'' he => by
              cases e with
              | returned v => exact hn _ _ he
              | panicked c => exact absurd he.1 (by simp)
              | outgrown => obtain ⟨_, _, he⟩ := he; exact absurd he.1 (by simp))
          | exact Rows.mono h (fun _ _ he => hn _ _ he)
          | exact h
    | halt x w' =>
      cases x <;> simp only [Oper.upon] at h ⊢ <;> first | exact h | exact absurd h.1 (by simp)
  · exact absurd h.1 (by simp)
theorem mem_ready' {listed : Array Bool} {i : Nat} : i ∈ Region.ready .any ops listed ↔ i < ops.size ∧ listed.getD i true = false ∧ ∃ o, ops[i]? = some o ∧ ∀ j ∈ depsOf o, listed.getD j false = true := by
  unfold Region.ready depsOf
  rw [List.mem_filter, List.mem_range]
  constructor
  · rintro ⟨h1, h2⟩
    rw [Bool.and_eq_true] at h2
    refine ⟨h1, by simpa using h2.1, ops[i], Array.getElem?_eq_getElem h1, fun j hj => ?_⟩
    obtain ⟨e, he, rfl⟩ := List.mem_map.1 hj
    obtain ⟨he1, he2⟩ := List.mem_filter.1 he
    have h3 := h2.2
    rw [Array.getElem?_eq_getElem h1] at h3
    simp only [Option.map_some, Option.getD_some] at h3
    rw [Array.all_eq_true'] at h3
    have := h3 e (by simpa using he1)
    rw [he2] at this
    simpa using this
  · rintro ⟨h1, h2, o, ho, h3⟩
    refine ⟨h1, ?_⟩
    rw [Bool.and_eq_true]
    refine ⟨by rw [h2]; rfl, ?_⟩
    rw [ho]
    simp only [Option.map_some, Option.getD_some]
    rw [Array.all_eq_true']
    intro e he
    by_cases hb : Region.binds .any e = true
    · rw [hb]
      simpa using h3 e.on (List.mem_map.2 ⟨e, List.mem_filter.2 ⟨by simpa using he, hb⟩, rfl⟩)
    · simp [Bool.not_eq_true] at hb; simp [hb]
theorem getD_set {listed : Array Bool} {i j : Nat} {b d : Bool} (hi : i < listed.size) : (listed.setIfInBounds i b).getD j d = if i = j then b else listed.getD j d := by
  rw [Array.getD_eq_getD_getElem?, Array.getD_eq_getD_getElem?, Array.getElem?_setIfInBounds]
  by_cases h : i = j
  · subst h; simp [hi]
  · simp [h]
structure Shape (ops : Array Oper) (L n : Nat) : Prop where
  pos : L < ops.size
  guard : ∀ (k : Nat) (o : Oper), k < L → ops[k]? = some o → o.guard = none
  back : ∀ (k : Nat) (o : Oper), ops[k]? = some o → ∀ j ∈ depsOf o, j < k
  chain : ∀ j : Nat, j < L → ∃ (k : Nat) (o : Oper), j < k ∧ k ≤ L ∧ ops[k]? = some o ∧ j ∈ depsOf o
  tail : ∀ (k : Nat) (o : Oper), L < k → ops[k]? = some o → k - 1 ∈ depsOf o
  dst : ∀ (j : Nat) (o : Oper), j < L → ops[j]? = some o → ∃ d, o.dst = some d ∧ d < n ∧ ∀ (k : Nat) (o' : Oper), k < L → ops[k]? = some o' → k ≠ j → o'.dst ≠ some d
theorem dep_of {k j : Nat} {o : Oper} (ho : ops[k]? = some o) (h : ((ops[k]?).map (·.after.any fun e => Region.binds .any e && e.on == j)).getD false = true) : j ∈ depsOf o := by
  rw [ho] at h
  simp only [Option.map_some, Option.getD_some] at h
  rw [Array.any_eq_true'] at h
  obtain ⟨e, he, he'⟩ := h
  rw [Bool.and_eq_true] at he'
  exact List.mem_map.2 ⟨e, List.mem_filter.2 ⟨by simpa using he, he'.1⟩, by simpa using he'.2⟩
theorem shape_of {L n : Nat} (h : shapeB ops L n = true) : Shape ops L n := by
  unfold shapeB at h
  rw [Bool.and_eq_true, Bool.and_eq_true, Bool.and_eq_true, Bool.and_eq_true, List.all_eq_true, List.all_eq_true, List.all_eq_true, List.all_eq_true] at h
  obtain ⟨⟨⟨h0, h1⟩, h2, h2'⟩, h3⟩ := h
  have h0 : L < ops.size := by simpa using h0
  have lt : ∀ k o, ops[k]? = some o → k < ops.size := fun k o ho => (Array.getElem?_eq_some_iff.1 ho).1
  refine ⟨h0, fun k o hk ho => ?_, fun k o ho j hj => ?_, fun j hj => ?_, fun k o hk ho => ?_, fun j o hj ho => ?_⟩
  · have := h1 k (List.mem_range.2 (lt k o ho))
    rw [ho] at this
    simp only [Option.map_some, Option.getD_some, Bool.and_eq_true, Bool.or_eq_true] at this
    rcases this.1 with h | h
    · simp at h; omega
    · simpa using h
  · have := h1 k (List.mem_range.2 (lt k o ho))
    rw [ho] at this
    simp only [Option.map_some, Option.getD_some, Bool.and_eq_true] at this
    obtain ⟨e, he, rfl⟩ := List.mem_map.1 hj
    obtain ⟨he1, he2⟩ := List.mem_filter.1 he
    have := (Array.all_eq_true'.1 this.2) e (by simpa using he1)
    rw [he2] at this
    simpa using this
  · have := h2 j (List.mem_range.2 hj)
    rw [List.any_eq_true] at this
    obtain ⟨k, hk, hk'⟩ := this
    rw [Bool.and_eq_true] at hk'
    have hk0 := List.mem_range.1 hk
    have hk1 : k < ops.size := by omega
    exact ⟨k, ops[k], by simpa using hk'.1, by omega, Array.getElem?_eq_getElem hk1, dep_of (Array.getElem?_eq_getElem hk1) hk'.2⟩
  · have := h2' k (List.mem_range.2 (lt k o ho))
    rw [Bool.or_eq_true] at this
    rcases this with h | h
    · simp at h; omega
    · exact dep_of ho h
  · have := h3 j (List.mem_range.2 hj)
    rw [ho] at this
    simp only [Option.bind_some] at this
    cases hd : o.dst with
    | none => rw [hd] at this; simp at this
    | some d =>
      rw [hd] at this
      simp only [Bool.and_eq_true] at this
      refine ⟨d, rfl, by simpa using this.1, fun k o' hk ho' hne e => ?_⟩
      have h5 := List.all_eq_true.1 this.2 k (List.mem_range.2 hk)
      rw [ho'] at h5
      simp [e, hne] at h5
theorem slot_put {L n : Nat} (sh : Shape ops L n) {a : Act} {i j : Nat} {oi oj : Oper} (hn : a.tmps.size = n) (hi : i < L) (hj : j < L) (ho : ops[i]? = some oi) (hoj : ops[j]? = some oj) (v : Value) :
    slotOf (a.put oi.dst v) oj = if i = j then v else slotOf a oj := by
  obtain ⟨d, hd, hdn, hdd⟩ := sh.dst i oi hi ho
  obtain ⟨d', hd', hdn', _⟩ := sh.dst j oj hj hoj
  unfold slotOf Act.put
  rw [hd, hd']
  simp only
  rw [Array.getD_eq_getD_getElem?, Array.getElem?_setIfInBounds]
  by_cases h : i = j
  · subst h
    rw [ho] at hoj
    injection hoj with hoj
    subst hoj
    rw [hd] at hd'
    injection hd' with hd'
    subst hd'
    simp [hn, hdn]
  · have hne : d ≠ d' := fun e => hdd j oj hj hoj (fun e' => h e'.symm) (by rw [hd', e])
    rw [if_neg hne, if_neg h, Array.getD_eq_getD_getElem?]
theorem agree_put {L n : Nat} (sh : Shape ops L n) {a0 a : Act} {i : Nat} {oi : Oper} (hi : i < L) (ho : ops[i]? = some oi) (h : Agree L n ops a0 a) (v : Value) : Agree L n ops a0 (a.put oi.dst v) := by
  obtain ⟨d, hd, hdn, hdd⟩ := sh.dst i oi hi ho
  refine ⟨?_, ?_, fun k hk => ?_⟩
  · rw [← h.size]; unfold Act.put; rw [hd]; simp
  · rw [← h.defers]; unfold Act.put; rw [hd]
  · have hk' := hk
    unfold keptL at hk
    rw [List.contains_iff_mem] at hk
    obtain ⟨_, hk2⟩ := List.mem_filter.1 hk
    have := List.all_eq_true.1 hk2 i (List.mem_range.2 hi)
    rw [ho] at this
    simp [hd] at this
    rw [← h.kept k hk']
    unfold Act.put
    rw [hd]
    simp only
    rw [Array.getD_eq_getD_getElem?, Array.getElem?_setIfInBounds, if_neg this, Array.getD_eq_getD_getElem?]
theorem getD_tf {listed : Array Bool} {i : Nat} (hi : i < listed.size) : listed.getD i true = listed.getD i false := by
  rw [Array.getD_eq_getD_getElem?, Array.getD_eq_getD_getElem?, Array.getElem?_eq_getElem hi]; rfl
theorem any_tail {L n : Nat} (sh : Shape ops L n) : ∀ (fuel t : Nat) (listed : Array Bool) (a : Act) (w : World), listed.size = ops.size → L ≤ t → t ≤ ops.size → ops.size ≤ t + fuel →
    (∀ j, j < ops.size → listed.getD j false = decide (j < t)) → wpList P ops Q (ops.toList.drop t) a w → wpAny P .any ops Q fuel listed a w := by
  intro fuel
  induction fuel with
  | zero =>
    intro t listed a w hs hL ht hf hl h
    obtain rfl : t = ops.size := by omega
    refine ⟨?_, ?_⟩
    · rw [List.eq_nil_iff_forall_not_mem]
      intro i hi
      obtain ⟨h1, h2, _⟩ := mem_ready'.1 hi
      rw [getD_tf (by omega), hl i h1] at h2
      simp at h2; omega
    · rw [List.drop_eq_nil_of_le (by simp)] at h; exact h
  | succ fuel ih =>
    intro t listed a w hs hL ht hf hl h
    by_cases hte : t = ops.size
    · subst hte
      have hr : Region.ready .any ops listed = [] := by
        rw [List.eq_nil_iff_forall_not_mem]
        intro i hi
        obtain ⟨h1, h2, _⟩ := mem_ready'.1 hi
        rw [getD_tf (by omega), hl i h1] at h2
        simp at h2; omega
      rw [List.drop_eq_nil_of_le (by simp)] at h
      exact ⟨fun _ => h, by rw [hr]; simp⟩
    · have hlt : t < ops.size := by omega
      have hto : ops[t]? = some ops[t] := Array.getElem?_eq_getElem hlt
      have hmem : t ∈ Region.ready .any ops listed := mem_ready'.2 ⟨hlt, by rw [getD_tf (by omega), hl t hlt]; simp, ops[t], hto, fun j hj => by
        have := sh.back t _ hto j hj
        rw [hl j (by omega)]; simp [this]⟩
      refine ⟨fun hr => by rw [hr] at hmem; simp at hmem, fun i hi => ?_⟩
      obtain ⟨h1, h2, o, ho, hd⟩ := mem_ready'.1 hi
      rw [getD_tf (by omega), hl i h1] at h2
      have hit : i = t := by
        rcases Nat.lt_trichotomy i t with hh | hh | hh
        · simp [hh] at h2
        · exact hh
        · have := hd _ (sh.tail i o (by omega) ho)
          rw [hl _ (by omega)] at this
          simp at this
          omega
      subst hit
      rw [hto] at ho
      injection ho with ho
      subst ho
      have hdrop : ops.toList.drop i = ops[i] :: ops.toList.drop (i + 1) := by
        rw [List.drop_eq_getElem_cons (by simpa using hlt)]; simp
      rw [hdrop] at h
      have hnext : ∀ a' w', wpList P ops Q (ops.toList.drop (i + 1)) a' w' → wpAny P .any ops Q fuel (listed.setIfInBounds i true) a' w' := fun a' w' h' =>
        ih (i + 1) _ a' w' (by simpa using hs) (by omega) (by omega) (by omega) (fun j hj => by
          rw [getD_set (by omega)]
          by_cases hij : i = j
          · subst hij; simp
          · rw [if_neg hij, hl j hj]; congr 1; simp; omega) h'
      unfold wpList at h
      unfold wpOp
      rw [hto]
      simp only
      split
      · rename_i hw
        rw [if_pos hw] at h
        exact h.imp (Oper.wp_mono hnext) id
      · rename_i hw
        rw [if_neg hw] at h
        exact hnext _ _ h
theorem region_made {id n : Nat} {a0 : Act} {w0 : World} (L : Nat) (hm : P.follows .mixedOrders = true) (hn : a0.tmps.size = n) (hsh : shapeB ops L n = true) (J : World → Prop) (cl : Nat → Nat) (p : Nat → Value → (Nat → Nat) → World → Prop) (hJ0 : J w0.drew)
    (hst : ∀ (i : Nat) (v : Value) (gh gh' : Nat → Nat) (w w' : World), p i v gh w → J w → Below w.heap.size w w' → (∀ b, b < w.heap.size → gh' b = gh b) → p i v gh' w')
    (hstep : StepsFrom L n P ops a0 J cl p L 0 ops.toList)
    (hlast : ∀ (a : Act) (gh : Nat → Nat) (w : World), Agree L n ops a0 a → J w → (∀ j, (List.range L).contains j = true → ∀ oj, ops[j]? = some oj → p j (slotOf a oj) gh w) →
      wpList P ops Q (ops.toList.drop L) a w) : (Code.region id ops true).wp P Q a0 w0 := by
  have sh := shape_of hsh
  have hpos := sh.pos
  refine wp_region_any hm ?_
  have key : ∀ (fuel : Nat) (listed : Array Bool) (a : Act) (w : World), listed.size = ops.size → listed.toList.count false ≤ fuel →
      (∀ i o, ops[i]? = some o → listed.getD i false = true → ∀ j ∈ depsOf o, listed.getD j false = true) →
      listed.getD L false = false → Agree L n ops a0 a → J w → (∃ gh : Nat → Nat, ∀ i o, i < L → ops[i]? = some o → listed.getD i false = true → p i (slotOf a o) gh w) →
      wpAny P .any ops Q fuel listed a w := by
    intro fuel
    induction fuel with
    | zero =>
      intro listed a w hs hc hcl hL _ _ _
      exfalso
      have hLs : L < listed.size := by omega
      rw [Array.getD_eq_getD_getElem?, Array.getElem?_eq_getElem hLs] at hL
      have hm : false ∈ listed.toList := by
        rw [show false = listed[L] from by simpa using hL.symm]
        simp
      have := List.count_pos_iff.2 hm
      omega
    | succ fuel ih =>
      intro listed a w hs hc hcl hL hag hJ hps
      -- whoever stands behind L has not come up
      have hbeyond : ∀ k, L ≤ k → k < ops.size → listed.getD k false = false := by
        intro k
        induction k with
        | zero => intro h1 _; obtain rfl : L = 0 := by omega
                  exact hL
        | succ k ihk =>
          intro h1 h2
          by_cases hk : L = k + 1
          · rw [← hk]; exact hL
          · rcases Bool.eq_false_or_eq_true (listed.getD (k + 1) false) with h | h
            · have h3 := hcl (k + 1) _ (Array.getElem?_eq_getElem h2) h _ (sh.tail (k + 1) _ (by omega) (Array.getElem?_eq_getElem h2))
              rw [show k + 1 - 1 = k by omega, ihk (by omega) (by omega)] at h3
              cases h3
            · exact h
      by_cases hall : ∀ j, j < L → listed.getD j false = true
      · obtain ⟨gh, hps⟩ := hps
        refine any_tail sh (fuel + 1) L listed a w hs (Nat.le_refl _) (by omega) ?_ (fun j hj => ?_) (hlast a gh w hag hJ (fun j hj oj hoj => ?_))
        · -- the fuel suffices
          have h1 : listed.toList.drop L = List.replicate (ops.size - L) false := by
            apply List.ext_getElem
            · simp [hs]
            · intro i h1 h2
              simp at h1
              have := hbeyond (L + i) (by omega) (by omega)
              rw [Array.getD_eq_getD_getElem?, Array.getElem?_eq_getElem (by omega)] at this
              simpa using this
          have h2 : (listed.toList.drop L).count false ≤ listed.toList.count false := List.Sublist.count_le _ (List.drop_sublist _ _)
          rw [h1, List.count_replicate_self] at h2
          omega
        · by_cases hjL : j < L
          · rw [hall j hjL]; simp [hjL]
          · rw [hbeyond j (by omega) hj]; simp [hjL]
        · have hj' := List.mem_range.1 (List.contains_iff_mem.1 hj)
          exact hps j oj hj' hoj (hall j hj')
      · -- the least that has not come up may come up
        have hready : ∀ i, i ∈ Region.ready .any ops listed → i < L := by
          intro i hi
          obtain ⟨h1, h2, o, ho, hdep⟩ := mem_ready'.1 hi
          rcases Nat.lt_or_ge i L with h | h
          · exact h
          · exfalso
            by_cases hiL : i = L
            · subst hiL
              apply hall
              have : ∀ m j, i - j ≤ m → j < i → listed.getD j false = true := by
                intro m
                induction m with
                | zero => intro j h1 h2; omega
                | succ m ihm =>
                  intro j h1 h2
                  obtain ⟨k, ok, hjk, hkL, hok, hmem⟩ := sh.chain j h2
                  by_cases hkl : k = i
                  · subst hkl
                    rw [ho] at hok
                    injection hok with hok
                    subst hok
                    exact hdep j hmem
                  · exact hcl k ok hok (ihm k (by omega) (by omega)) j hmem
              exact fun j hj => this _ j (Nat.le_refl _) hj
            · have := hdep _ (sh.tail i o (by omega) ho)
              rw [hbeyond _ (by omega) (by omega)] at this
              cases this
        refine ⟨fun hr => ?_, fun i hi => ?_⟩
        · exfalso
          have hex : ∀ m, m < ops.size → (∀ j, j < m → listed.getD j false = true) → listed.getD m false = false → False := by
            intro m hm hlow hmf
            have : m ∈ Region.ready .any ops listed := mem_ready'.2 ⟨hm, by
              rw [getD_tf (by omega)]; exact hmf, ops[m], Array.getElem?_eq_getElem hm, fun j hj => hlow j (sh.back m _ (Array.getElem?_eq_getElem hm) j hj)⟩
            rw [hr] at this
            simp at this
          have hall2 : ∀ m, ∀ j, j < m → j < ops.size → listed.getD j false = true := by
            intro m
            induction m with
            | zero => intro j hj; omega
            | succ m ihm =>
              intro j hj hjs
              by_cases hjm : j < m
              · exact ihm j hjm hjs
              · obtain rfl : j = m := by omega
                rcases Bool.eq_false_or_eq_true (listed.getD j false) with h' | h'
                · exact h'
                · exact (hex j hjs (fun k hk => ihm k hk (by omega)) h').elim
          exact hall (fun j hj => hall2 (j + 1) j (by omega) (by omega))
        · have hiL := hready i hi
          obtain ⟨h1, h2, o, ho, hdep⟩ := mem_ready'.1 hi
          have his : i < listed.size := by omega
          have hcnt : (listed.setIfInBounds i true).toList.count false ≤ fuel := by
            rw [Array.toList_setIfInBounds, List.count_set (by simpa using his)]
            have hb : listed.toList[i]'(by simpa using his) = false := by
              rw [Array.getD_eq_getD_getElem?, Array.getElem?_eq_getElem his] at h2
              simpa using h2
            rw [hb]
            have : 0 < listed.toList.count false := List.count_pos_iff.2 (by rw [← hb]; exact List.getElem_mem _)
            simp only [show (false == false) = true from rfl, show (true == false) = false from rfl, if_true, Bool.false_eq_true, if_false]
            omega
          have hcl' : ∀ k ok, ops[k]? = some ok → (listed.setIfInBounds i true).getD k false = true → ∀ j ∈ depsOf ok, (listed.setIfInBounds i true).getD j false = true := by
            intro k ok hok hk j hj
            rw [getD_set his] at hk ⊢
            split
            · rfl
            · by_cases hik : i = k
              · subst hik
                rw [ho] at hok
                injection hok with hok
                subst hok
                exact hdep j hj
              · rw [if_neg hik] at hk
                exact hcl k ok hok hk j hj
          have hg := sh.guard i o hiL ho
          have hw : Region.wanted o (yielded ops a.tmps) = true := by simp [Region.wanted, hg]
          obtain ⟨gh, hps⟩ := hps
          unfold wpOp
          rw [ho]
          simp only [hw, if_true]
          left
          have hst' := StepsFrom.at_ L ops.toList 0 hstep i o hiL (by simpa using ho)
          rw [Nat.zero_add] at hst'
          have hw1 := hst' a gh w hag hJ (fun j hj oj hoj => hps j oj (by have := sh.back i o ho j (List.contains_iff_mem.1 hj); omega) hoj (hdep j (List.contains_iff_mem.1 hj)))
          refine Oper.wp_mono (fun a' w' hk => ?_) (wp_calm (Q := Q) hg hw1)
          obtain ⟨v, rfl, hpv, hJ', hb⟩ := hk
          refine ih _ _ w' (by simpa using hs) hcnt hcl' ?_ (agree_put sh hiL ho hag v) hJ' ⟨ghNew gh w.heap.size (cl i), fun j oj hj hoj hlj => ?_⟩
          · rw [getD_set his, if_neg (by omega)]; exact hL
          · rw [slot_put sh hag.size hiL hj ho hoj]
            by_cases hij : i = j
            · subst hij; rw [if_pos rfl]; exact hpv
            · rw [if_neg hij]
              rw [getD_set his, if_neg hij] at hlj
              exact hst j _ gh _ w w' (hps j oj hj hoj hlj) hJ hb (fun b hb => if_pos hb)
  have hf : ∀ i, (Array.replicate ops.size false).getD i false = false := fun i => by
    rw [Array.getD_eq_getD_getElem?, Array.getElem?_replicate]
    split <;> rfl
  refine key ops.size _ a0 _ (by simp) (by simp) (fun i o _ h => ?_) (hf L) ⟨hn, rfl, fun _ _ => rfl⟩ hJ0 ⟨fun _ => 0, fun i o _ _ h => ?_⟩
  · rw [hf i] at h; cases h
  · rw [hf i] at h; cases h
end
open Go.RowKit
section
variable {P : Program} {ops : Array Oper} {Q : Exit → Act → World → Prop}
def bareO (o : Oper) : Oper := { o with guard := none }
def runsB (G : Nat → Bool) (o : Oper) : Bool := match o.guard with | none => true | some (j, want) => G j == want
def shapeGB (ops : Array Oper) (L n : Nat) : Bool :=
  (decide (L < ops.size) && (List.range ops.size).all (fun k => ((ops[k]?).map fun o => (decide (L ≤ k) || (match o.guard with | none => true | some (j, _) => (depsOf o).contains j)) && o.after.all (fun e => !Region.binds .any e || decide (e.on < k))).getD false)) &&
  ((List.range L).all (fun j => (List.range (L + 1)).any fun k => decide (j < k) && ((ops[k]?).map (·.after.any fun e => Region.binds .any e && e.on == j)).getD false) &&
  (List.range ops.size).all (fun k => decide (k ≤ L) || ((ops[k]?).map (·.after.any fun e => Region.binds .any e && e.on == k - 1)).getD false)) &&
  (List.range L).all (fun j => match (ops[j]?).bind (·.dst) with | some d => decide (d < n) && (List.range L).all (fun k => k == j || !((ops[k]?).bind (·.dst) == some d)) | none => false)
def StepG (L n : Nat) (P : Program) (ops : Array Oper) (a0 : Act) (G : Nat → Bool) (J : World → Prop) (cl : Nat → Nat) (p : Nat → Value → (Nat → Nat) → World → Prop) (i : Nat) (o : Oper) : Prop :=
  match runsB G o with
  | true => ∀ (a : Act) (gh : Nat → Nat) (w : World), Agree L n ops a0 a → J w → (∀ j, (depsOf o).contains j = true → ∀ oj, ops[j]? = some oj → p j (slotOf a oj) gh w) →
    wpList P #[bareO o] (MadePost a o.dst w J (fun v w' => p i v (ghNew gh w.heap.size (cl i)) w')) [bareO o] a w
  | false => ∀ (gh : Nat → Nat) (w : World), p i undef gh w
def StepsG (L n : Nat) (P : Program) (ops : Array Oper) (a0 : Act) (G : Nat → Bool) (J : World → Prop) (cl : Nat → Nat) (p : Nat → Value → (Nat → Nat) → World → Prop) : Nat → Nat → List Oper → Prop
  | 0, _, _ => True
  | _ + 1, _, [] => True
  | m + 1, i, o :: l => StepG L n P ops a0 G J cl p i o ∧ StepsG L n P ops a0 G J cl p m (i + 1) l
theorem StepsG.at_ {L n : Nat} {a0 : Act} {G : Nat → Bool} {J : World → Prop} {cl : Nat → Nat} {p : Nat → Value → (Nat → Nat) → World → Prop} (m : Nat) : ∀ (l : List Oper) (k : Nat), StepsG L n P ops a0 G J cl p m k l → ∀ (i : Nat) (o : Oper), i < m → l[i]? = some o → StepG L n P ops a0 G J cl p (k + i) o := by
  induction m with
  | zero => intro l k _ i o h; omega
  | succ m ih =>
    intro l k h i o hi ho
    match l, h with
    | [], _ => simp at ho
    | x :: l, h =>
      cases i with
      | zero => simp at ho; subst ho; exact h.1
      | succ i =>
        have := ih l (k + 1) h.2 i o (by omega) (by simpa using ho)
        rwa [show k + 1 + i = k + (i + 1) by omega] at this
theorem wp_bare {o : Oper} {a : Act} {w : World} {K : Act → World → Prop} (h : (bareO o).wp P a w K Q) : o.wp P a w K Q := h
theorem yielded_of {a : Act} {j d : Nat} {o : Oper} {b : Bool} (ho : ops[j]? = some o) (hd : o.dst = some d) (h : slotOf a o = .bool b) : yielded ops a.tmps j = some b := by
  unfold slotOf at h
  rw [hd] at h
  unfold yielded
  rw [ho, Option.bind_some, hd, Option.bind_some]
  simp only [Array.getD_eq_getD_getElem?] at h
  cases e : a.tmps[d]? with
  | none => rw [e] at h; exact absurd h (by simp [undef])
  | some v => rw [e] at h; simp only [Option.getD_some] at h; subst h; rfl
structure ShapeG (ops : Array Oper) (L n : Nat) : Prop where
  pos : L < ops.size
  guard : ∀ (k : Nat) (o : Oper), k < L → ops[k]? = some o → ∀ j b, o.guard = some (j, b) → j ∈ depsOf o
  back : ∀ (k : Nat) (o : Oper), ops[k]? = some o → ∀ j ∈ depsOf o, j < k
  chain : ∀ j : Nat, j < L → ∃ (k : Nat) (o : Oper), j < k ∧ k ≤ L ∧ ops[k]? = some o ∧ j ∈ depsOf o
  tail : ∀ (k : Nat) (o : Oper), L < k → ops[k]? = some o → k - 1 ∈ depsOf o
  dst : ∀ (j : Nat) (o : Oper), j < L → ops[j]? = some o → ∃ d, o.dst = some d ∧ d < n ∧ ∀ (k : Nat) (o' : Oper), k < L → ops[k]? = some o' → k ≠ j → o'.dst ≠ some d
theorem shapeG_of {L n : Nat} (h : shapeGB ops L n = true) : ShapeG ops L n := by
  unfold shapeGB at h
  rw [Bool.and_eq_true, Bool.and_eq_true, Bool.and_eq_true, Bool.and_eq_true, List.all_eq_true, List.all_eq_true, List.all_eq_true, List.all_eq_true] at h
  obtain ⟨⟨⟨h0, h1⟩, h2, h2'⟩, h3⟩ := h
  have h0 : L < ops.size := by simpa using h0
  have lt : ∀ k o, ops[k]? = some o → k < ops.size := fun k o ho => (Array.getElem?_eq_some_iff.1 ho).1
  refine ⟨h0, fun k o hk ho j => ?_, fun k o ho j hj => ?_, fun j hj => ?_, fun k o hk ho => ?_, fun j o hj ho => ?_⟩
  · intro b hg
    have := h1 k (List.mem_range.2 (lt k o ho))
    rw [ho] at this
    simp only [Option.map_some, Option.getD_some, Bool.and_eq_true, Bool.or_eq_true, hg] at this
    rcases this.1 with h | h
    · simp at h; omega
    · exact List.contains_iff_mem.1 h
  · have := h1 k (List.mem_range.2 (lt k o ho))
    rw [ho] at this
    simp only [Option.map_some, Option.getD_some, Bool.and_eq_true] at this
    obtain ⟨e, he, rfl⟩ := List.mem_map.1 hj
    obtain ⟨he1, he2⟩ := List.mem_filter.1 he
    have := (Array.all_eq_true'.1 this.2) e (by simpa using he1)
    rw [he2] at this
    simpa using this
  · have := h2 j (List.mem_range.2 hj)
    rw [List.any_eq_true] at this
    obtain ⟨k, hk, hk'⟩ := this
    rw [Bool.and_eq_true] at hk'
    have hk0 := List.mem_range.1 hk
    have hk1 : k < ops.size := by omega
    exact ⟨k, ops[k], by simpa using hk'.1, by omega, Array.getElem?_eq_getElem hk1, dep_of (Array.getElem?_eq_getElem hk1) hk'.2⟩
  · have := h2' k (List.mem_range.2 (lt k o ho))
    rw [Bool.or_eq_true] at this
    rcases this with h | h
    · simp at h; omega
    · exact dep_of ho h
  · have := h3 j (List.mem_range.2 hj)
    rw [ho] at this
    simp only [Option.bind_some] at this
    cases hd : o.dst with
    | none => rw [hd] at this; simp at this
    | some d =>
      rw [hd] at this
      simp only [Bool.and_eq_true] at this
      refine ⟨d, rfl, by simpa using this.1, fun k o' hk ho' hne e => ?_⟩
      have h5 := List.all_eq_true.1 this.2 k (List.mem_range.2 hk)
      rw [ho'] at h5
      simp [e, hne] at h5
theorem slot_putG {L n : Nat} (sh : ShapeG ops L n) {a : Act} {i j : Nat} {oi oj : Oper} (hn : a.tmps.size = n) (hi : i < L) (hj : j < L) (ho : ops[i]? = some oi) (hoj : ops[j]? = some oj) (v : Value) :
    slotOf (a.put oi.dst v) oj = if i = j then v else slotOf a oj := by
  obtain ⟨d, hd, hdn, hdd⟩ := sh.dst i oi hi ho
  obtain ⟨d', hd', hdn', _⟩ := sh.dst j oj hj hoj
  unfold slotOf Act.put
  rw [hd, hd']
  simp only
  rw [Array.getD_eq_getD_getElem?, Array.getElem?_setIfInBounds]
  by_cases h : i = j
  · subst h
    rw [ho] at hoj
    injection hoj with hoj
    subst hoj
    rw [hd] at hd'
    injection hd' with hd'
    subst hd'
    simp [hn, hdn]
  · have hne : d ≠ d' := fun e => hdd j oj hj hoj (fun e' => h e'.symm) (by rw [hd', e])
    rw [if_neg hne, if_neg h, Array.getD_eq_getD_getElem?]
theorem agree_putG {L n : Nat} (sh : ShapeG ops L n) {a0 a : Act} {i : Nat} {oi : Oper} (hi : i < L) (ho : ops[i]? = some oi) (h : Agree L n ops a0 a) (v : Value) : Agree L n ops a0 (a.put oi.dst v) := by
  obtain ⟨d, hd, hdn, hdd⟩ := sh.dst i oi hi ho
  refine ⟨?_, ?_, fun k hk => ?_⟩
  · rw [← h.size]; unfold Act.put; rw [hd]; simp
  · rw [← h.defers]; unfold Act.put; rw [hd]
  · have hk' := hk
    unfold keptL at hk
    rw [List.contains_iff_mem] at hk
    obtain ⟨_, hk2⟩ := List.mem_filter.1 hk
    have := List.all_eq_true.1 hk2 i (List.mem_range.2 hi)
    rw [ho] at this
    simp [hd] at this
    rw [← h.kept k hk']
    unfold Act.put
    rw [hd]
    simp only
    rw [Array.getD_eq_getD_getElem?, Array.getElem?_setIfInBounds, if_neg this, Array.getD_eq_getD_getElem?]
theorem any_tailG {L n : Nat} (sh : ShapeG ops L n) : ∀ (fuel t : Nat) (listed : Array Bool) (a : Act) (w : World), listed.size = ops.size → L ≤ t → t ≤ ops.size → ops.size ≤ t + fuel →
    (∀ j, j < ops.size → listed.getD j false = decide (j < t)) → wpList P ops Q (ops.toList.drop t) a w → wpAny P .any ops Q fuel listed a w := by
  intro fuel
  induction fuel with
  | zero =>
    intro t listed a w hs hL ht hf hl h
    obtain rfl : t = ops.size := by omega
    refine ⟨?_, ?_⟩
    · rw [List.eq_nil_iff_forall_not_mem]
      intro i hi
      obtain ⟨h1, h2, _⟩ := mem_ready'.1 hi
      rw [getD_tf (by omega), hl i h1] at h2
      simp at h2; omega
    · rw [List.drop_eq_nil_of_le (by simp)] at h; exact h
  | succ fuel ih =>
    intro t listed a w hs hL ht hf hl h
    by_cases hte : t = ops.size
    · subst hte
      have hr : Region.ready .any ops listed = [] := by
        rw [List.eq_nil_iff_forall_not_mem]
        intro i hi
        obtain ⟨h1, h2, _⟩ := mem_ready'.1 hi
        rw [getD_tf (by omega), hl i h1] at h2
        simp at h2; omega
      rw [List.drop_eq_nil_of_le (by simp)] at h
      exact ⟨fun _ => h, by rw [hr]; simp⟩
    · have hlt : t < ops.size := by omega
      have hto : ops[t]? = some ops[t] := Array.getElem?_eq_getElem hlt
      have hmem : t ∈ Region.ready .any ops listed := mem_ready'.2 ⟨hlt, by rw [getD_tf (by omega), hl t hlt]; simp, ops[t], hto, fun j hj => by
        have := sh.back t _ hto j hj
        rw [hl j (by omega)]; simp [this]⟩
      refine ⟨fun hr => by rw [hr] at hmem; simp at hmem, fun i hi => ?_⟩
      obtain ⟨h1, h2, o, ho, hd⟩ := mem_ready'.1 hi
      rw [getD_tf (by omega), hl i h1] at h2
      have hit : i = t := by
        rcases Nat.lt_trichotomy i t with hh | hh | hh
        · simp [hh] at h2
        · exact hh
        · have := hd _ (sh.tail i o (by omega) ho)
          rw [hl _ (by omega)] at this
          simp at this
          omega
      subst hit
      rw [hto] at ho
      injection ho with ho
      subst ho
      have hdrop : ops.toList.drop i = ops[i] :: ops.toList.drop (i + 1) := by
        rw [List.drop_eq_getElem_cons (by simpa using hlt)]; simp
      rw [hdrop] at h
      have hnext : ∀ a' w', wpList P ops Q (ops.toList.drop (i + 1)) a' w' → wpAny P .any ops Q fuel (listed.setIfInBounds i true) a' w' := fun a' w' h' =>
        ih (i + 1) _ a' w' (by simpa using hs) (by omega) (by omega) (by omega) (fun j hj => by
          rw [getD_set (by omega)]
          by_cases hij : i = j
          · subst hij; simp
          · rw [if_neg hij, hl j hj]; congr 1; simp; omega) h'
      unfold wpList at h
      unfold wpOp
      rw [hto]
      simp only
      split
      · rename_i hw
        rw [if_pos hw] at h
        exact h.imp (Oper.wp_mono hnext) id
      · rename_i hw
        rw [if_neg hw] at h
        exact hnext _ _ h
theorem region_guarded {id n : Nat} {a0 : Act} {w0 : World} (L : Nat) (hm : P.follows .mixedOrders = true) (hn : a0.tmps.size = n) (hsh : shapeGB ops L n = true) (G : Nat → Bool) (J : World → Prop) (cl : Nat → Nat) (p : Nat → Value → (Nat → Nat) → World → Prop) (hJ0 : J w0.drew)
    (hgd : ∀ (i : Nat) (o : Oper), i < L → ops[i]? = some o → ∀ j b, o.guard = some (j, b) → ∀ v gh w, p j v gh w → v = .bool (G j))
    (hst : ∀ (i : Nat) (v : Value) (gh gh' : Nat → Nat) (w w' : World), p i v gh w → J w → Below w.heap.size w w' → (∀ b, b < w.heap.size → gh' b = gh b) → p i v gh' w')
    (hstep : StepsG L n P ops a0 G J cl p L 0 ops.toList)
    (hlast : ∀ (a : Act) (gh : Nat → Nat) (w : World), Agree L n ops a0 a → J w → (∀ j, (List.range L).contains j = true → ∀ oj, ops[j]? = some oj → p j (slotOf a oj) gh w) →
      wpList P ops Q (ops.toList.drop L) a w) : (Code.region id ops true).wp P Q a0 w0 := by
  have sh := shapeG_of hsh
  have hpos := sh.pos
  refine wp_region_any hm ?_
  have key : ∀ (fuel : Nat) (listed : Array Bool) (a : Act) (w : World), listed.size = ops.size → listed.toList.count false ≤ fuel →
      (∀ i o, ops[i]? = some o → listed.getD i false = true → ∀ j ∈ depsOf o, listed.getD j false = true) →
      listed.getD L false = false → Agree L n ops a0 a → J w → (∃ gh : Nat → Nat, ∀ i o, i < L → ops[i]? = some o → listed.getD i false = true → p i (slotOf a o) gh w) →
      wpAny P .any ops Q fuel listed a w := by
    intro fuel
    induction fuel with
    | zero =>
      intro listed a w hs hc hcl hL _ _ _
      exfalso
      have hLs : L < listed.size := by omega
      rw [Array.getD_eq_getD_getElem?, Array.getElem?_eq_getElem hLs] at hL
      have hm : false ∈ listed.toList := by
        rw [show false = listed[L] from by simpa using hL.symm]
        simp
      have := List.count_pos_iff.2 hm
      omega
    | succ fuel ih =>
      intro listed a w hs hc hcl hL hag hJ hps
      -- whoever stands behind L has not come up
      have hbeyond : ∀ k, L ≤ k → k < ops.size → listed.getD k false = false := by
        intro k
        induction k with
        | zero => intro h1 _; obtain rfl : L = 0 := by omega
                  exact hL
        | succ k ihk =>
          intro h1 h2
          by_cases hk : L = k + 1
          · rw [← hk]; exact hL
          · rcases Bool.eq_false_or_eq_true (listed.getD (k + 1) false) with h | h
            · have h3 := hcl (k + 1) _ (Array.getElem?_eq_getElem h2) h _ (sh.tail (k + 1) _ (by omega) (Array.getElem?_eq_getElem h2))
              rw [show k + 1 - 1 = k by omega, ihk (by omega) (by omega)] at h3
              cases h3
            · exact h
      by_cases hall : ∀ j, j < L → listed.getD j false = true
      · obtain ⟨gh, hps⟩ := hps
        refine any_tailG sh (fuel + 1) L listed a w hs (Nat.le_refl _) (by omega) ?_ (fun j hj => ?_) (hlast a gh w hag hJ (fun j hj oj hoj => ?_))
        · -- the fuel suffices
          have h1 : listed.toList.drop L = List.replicate (ops.size - L) false := by
            apply List.ext_getElem
            · simp [hs]
            · intro i h1 h2
              simp at h1
              have := hbeyond (L + i) (by omega) (by omega)
              rw [Array.getD_eq_getD_getElem?, Array.getElem?_eq_getElem (by omega)] at this
              simpa using this
          have h2 : (listed.toList.drop L).count false ≤ listed.toList.count false := List.Sublist.count_le _ (List.drop_sublist _ _)
          rw [h1, List.count_replicate_self] at h2
          omega
        · by_cases hjL : j < L
          · rw [hall j hjL]; simp [hjL]
          · rw [hbeyond j (by omega) hj]; simp [hjL]
        · have hj' := List.mem_range.1 (List.contains_iff_mem.1 hj)
          exact hps j oj hj' hoj (hall j hj')
      · -- the least that has not come up may come up
        have hready : ∀ i, i ∈ Region.ready .any ops listed → i < L := by
          intro i hi
          obtain ⟨h1, h2, o, ho, hdep⟩ := mem_ready'.1 hi
          rcases Nat.lt_or_ge i L with h | h
          · exact h
          · exfalso
            by_cases hiL : i = L
            · subst hiL
              apply hall
              have : ∀ m j, i - j ≤ m → j < i → listed.getD j false = true := by
                intro m
                induction m with
                | zero => intro j h1 h2; omega
                | succ m ihm =>
                  intro j h1 h2
                  obtain ⟨k, ok, hjk, hkL, hok, hmem⟩ := sh.chain j h2
                  by_cases hkl : k = i
                  · subst hkl
                    rw [ho] at hok
                    injection hok with hok
                    subst hok
                    exact hdep j hmem
                  · exact hcl k ok hok (ihm k (by omega) (by omega)) j hmem
              exact fun j hj => this _ j (Nat.le_refl _) hj
            · have := hdep _ (sh.tail i o (by omega) ho)
              rw [hbeyond _ (by omega) (by omega)] at this
              cases this
        refine ⟨fun hr => ?_, fun i hi => ?_⟩
        · exfalso
          have hex : ∀ m, m < ops.size → (∀ j, j < m → listed.getD j false = true) → listed.getD m false = false → False := by
            intro m hm hlow hmf
            have : m ∈ Region.ready .any ops listed := mem_ready'.2 ⟨hm, by
              rw [getD_tf (by omega)]; exact hmf, ops[m], Array.getElem?_eq_getElem hm, fun j hj => hlow j (sh.back m _ (Array.getElem?_eq_getElem hm) j hj)⟩
            rw [hr] at this
            simp at this
          have hall2 : ∀ m, ∀ j, j < m → j < ops.size → listed.getD j false = true := by
            intro m
            induction m with
            | zero => intro j hj; omega
            | succ m ihm =>
              intro j hj hjs
              by_cases hjm : j < m
              · exact ihm j hjm hjs
              · obtain rfl : j = m := by omega
                rcases Bool.eq_false_or_eq_true (listed.getD j false) with h' | h'
                · exact h'
                · exact (hex j hjs (fun k hk => ihm k hk (by omega)) h').elim
          exact hall (fun j hj => hall2 (j + 1) j (by omega) (by omega))
        · have hiL := hready i hi
          obtain ⟨h1, h2, o, ho, hdep⟩ := mem_ready'.1 hi
          have his : i < listed.size := by omega
          have hcnt : (listed.setIfInBounds i true).toList.count false ≤ fuel := by
            rw [Array.toList_setIfInBounds, List.count_set (by simpa using his)]
            have hb : listed.toList[i]'(by simpa using his) = false := by
              rw [Array.getD_eq_getD_getElem?, Array.getElem?_eq_getElem his] at h2
              simpa using h2
            rw [hb]
            have : 0 < listed.toList.count false := List.count_pos_iff.2 (by rw [← hb]; exact List.getElem_mem _)
            simp only [show (false == false) = true from rfl, show (true == false) = false from rfl, if_true, Bool.false_eq_true, if_false]
            omega
          have hcl' : ∀ k ok, ops[k]? = some ok → (listed.setIfInBounds i true).getD k false = true → ∀ j ∈ depsOf ok, (listed.setIfInBounds i true).getD j false = true := by
            intro k ok hok hk j hj
            rw [getD_set his] at hk ⊢
            split
            · rfl
            · by_cases hik : i = k
              · subst hik
                rw [ho] at hok
                injection hok with hok
                subst hok
                exact hdep j hj
              · rw [if_neg hik] at hk
                exact hcl k ok hok hk j hj
          obtain ⟨gh, hps⟩ := hps
          have hwant : Region.wanted o (yielded ops a.tmps) = runsB G o := by
            unfold Region.wanted runsB
            cases hgu : o.guard with
            | none => rfl
            | some q =>
              obtain ⟨j, b⟩ := q
              have hjd := sh.guard i o hiL ho j b hgu
              have hji := sh.back i o ho j hjd
              have hjo : ops[j]? = some (ops[j]'(by omega)) := Array.getElem?_eq_getElem (by omega)
              obtain ⟨d, hd, _⟩ := sh.dst j _ (by omega) hjo
              have hv := hgd i o hiL ho j b hgu _ _ _ (hps j _ (by omega) hjo (hdep j hjd))
              simp only
              rw [yielded_of hjo hd hv]
              rfl
          have hst' := StepsG.at_ L ops.toList 0 hstep i o hiL (by simpa using ho)
          rw [Nat.zero_add] at hst'
          unfold StepG at hst'
          have hset : ∀ (v : Value) (w' : World) (gh' : Nat → Nat), p i v gh' w' → J w' → Below w.heap.size w w' → (∀ b, b < w.heap.size → gh' b = gh b) → wpAny P .any ops Q fuel (listed.setIfInBounds i true) (a.put o.dst v) w' := fun v w' gh' hpv hJ' hb hgh => by
            refine ih _ _ w' (by simpa using hs) hcnt hcl' ?_ (agree_putG sh hiL ho hag v) hJ' ⟨gh', fun j oj hj hoj hlj => ?_⟩
            · rw [getD_set his, if_neg (by omega)]; exact hL
            · rw [slot_putG sh hag.size hiL hj ho hoj]
              by_cases hij : i = j
              · subst hij; rw [if_pos rfl]; exact hpv
              · rw [if_neg hij]
                rw [getD_set his, if_neg hij] at hlj
                exact hst j _ gh _ w w' (hps j oj hj hoj hlj) hJ hb hgh
          unfold wpOp
          rw [ho]
          simp only
          cases hr : runsB G o with
          | true =>
            rw [hr] at hst' hwant
            simp only at hst'
            rw [if_pos hwant]
            left
            have hw1 := hst' a gh w hag hJ (fun j hj oj hoj => hps j oj (by have := sh.back i o ho j (List.contains_iff_mem.1 hj); omega) hoj (hdep j (List.contains_iff_mem.1 hj)))
            refine wp_bare (Oper.wp_mono (fun a' w' hk => ?_) (wp_calm (Q := Q) (o := bareO o) rfl hw1))
            obtain ⟨v, rfl, hpv, hJ', hb⟩ := hk
            exact hset v w' _ hpv hJ' hb (fun b hb => if_pos hb)
          | false =>
            rw [hr] at hst' hwant
            simp only at hst'
            rw [if_neg (by rw [hwant]; simp)]
            exact hset undef w gh (hst' gh w) hJ (Below.refl _ _) (fun _ _ => rfl)
  have hf : ∀ i, (Array.replicate ops.size false).getD i false = false := fun i => by
    rw [Array.getD_eq_getD_getElem?, Array.getElem?_replicate]
    split <;> rfl
  refine key ops.size _ a0 _ (by simp) (by simp) (fun i o _ h => ?_) (hf L) ⟨hn, rfl, fun _ _ => rfl⟩ hJ0 ⟨fun _ => 0, fun i o _ _ h => ?_⟩
  · rw [hf i] at h; cases h
  · rw [hf i] at h; cases h
def guardsB (ops : Array Oper) (L : Nat) (Gs : List Nat) : Bool := (List.range L).all fun i => match (ops[i]?).bind (·.guard) with | some (j, _) => Gs.contains j | none => true
theorem region_guardedL {id n : Nat} {a0 : Act} {w0 : World} (L : Nat) (hm : P.follows .mixedOrders = true) (hn : a0.tmps.size = n) (hsh : shapeGB ops L n = true) (Gs : List Nat) (hGs : guardsB ops L Gs = true) (G : Nat → Bool) (J : World → Prop) (cl : Nat → Nat) (p : Nat → Value → (Nat → Nat) → World → Prop)
    (hgd : AllP (fun j => ∀ v gh w, p j v gh w → v = .bool (G j)) Gs) (hJ0 : J w0.drew)
    (hst : ∀ (i : Nat) (v : Value) (gh gh' : Nat → Nat) (w w' : World), p i v gh w → J w → Below w.heap.size w w' → (∀ b, b < w.heap.size → gh' b = gh b) → p i v gh' w')
    (hstep : StepsG L n P ops a0 G J cl p L 0 ops.toList)
    (hlast : ∀ (a : Act) (gh : Nat → Nat) (w : World), Agree L n ops a0 a → J w → (∀ j, (List.range L).contains j = true → ∀ oj, ops[j]? = some oj → p j (slotOf a oj) gh w) →
      wpList P ops Q (ops.toList.drop L) a w) : (Code.region id ops true).wp P Q a0 w0 := by
  refine region_guarded L hm hn hsh G J cl p hJ0 (fun i o hi ho j b hg v gh w hp => AllP.mem hgd j ?_ v gh w hp) hst hstep hlast
  unfold guardsB at hGs
  have := List.all_eq_true.1 hGs i (List.mem_range.2 hi)
  rw [ho] at this
  simp only [Option.bind_some, hg] at this
  exact List.contains_iff_mem.1 this
end
open Go.RowKit
section
variable {P : Program} {ops : Array Oper} {Q : Exit → Act → World → Prop}
def shapeQB (ops : Array Oper) (L q n : Nat) : Bool :=
  decide (L < ops.size) && decide (q < L) && (List.range ops.size).all (fun k => ((ops[k]?).map fun o => (decide (L ≤ k) || (match o.guard with | none => true | some (j, _) => (depsOf o).contains j)) && o.after.all (fun e => !Region.binds .any e || decide (e.on < k))).getD false) &&
  (List.range L).all (fun j => j == q || (List.range (L + 1)).any fun k => decide (j < k) && (k != q) && ((ops[k]?).map (·.after.any fun e => Region.binds .any e && e.on == j)).getD false) &&
  (List.range ops.size).all (fun k => decide (k ≤ L) || ((ops[k]?).map (·.after.any fun e => Region.binds .any e && e.on == k - 1)).getD false) &&
  (List.range L).all (fun j => match (ops[j]?).bind (·.dst) with | some d => decide (d < n) && (List.range L).all (fun k => k == j || !((ops[k]?).bind (·.dst) == some d)) | none => false) &&
  (((ops[q]?).map (·.guard.isNone)).getD false && ((ops[L]?).map (·.guard.isNone)).getD false) &&
  (match ops[L + 1]? with | some o => (depsOf o).contains q | none => true)
theorem any_stepQ {fuel : Nat} {listed : Array Bool} {a : Act} {w : World} (i : Nat) (his : i < ops.size) (hs : listed.size = ops.size) (hl : listed.getD i false = false)
    (hd : ∀ j ∈ depsOf (ops[i]), listed.getD j false = true) (h : ∀ k (hk : k < ops.size), listed.getD k false = false → (∀ j ∈ depsOf (ops[k]), listed.getD j false = true) → wpOp P ops Q k (wpAny P .any ops Q fuel (listed.setIfInBounds k true)) a w) : wpAny P .any ops Q (fuel + 1) listed a w := by
  refine ⟨fun hr => ?_, fun k hk => ?_⟩
  · have : i ∈ Region.ready .any ops listed := mem_ready'.2 ⟨his, by rw [getD_tf (by omega)]; exact hl, ops[i], Array.getElem?_eq_getElem his, hd⟩
    rw [hr] at this
    simp at this
  · obtain ⟨h1, h2, o, ho, hdep⟩ := mem_ready'.1 hk
    rw [Array.getElem?_eq_getElem h1] at ho
    injection ho with ho
    subst ho
    exact h k h1 (by rw [← getD_tf (by omega)]; exact h2) hdep
theorem wpOp_listQ {o : Oper} {l : List Oper} {a : Act} {w : World} {i : Nat} {K : Act → World → Prop} (ho : ops[i]? = some o) (hg : o.guard = none) (h : wpList P ops Q (o :: l) a w) (hK : ∀ a w, wpList P ops Q l a w → K a w) : wpOp P ops Q i K a w := by
  unfold wpList at h
  unfold wpOp
  rw [ho]
  simp only
  have hw : Region.wanted o (yielded ops a.tmps) = true := by simp [Region.wanted, hg]
  rw [if_pos hw] at h ⊢
  exact h.imp (Oper.wp_mono hK) id
structure ShapeQ (ops : Array Oper) (L q n : Nat) : Prop where
  pos : L < ops.size
  ql : q < L
  gq : ∀ (o : Oper), ops[q]? = some o → o.guard = none
  gL : ∀ (o : Oper), ops[L]? = some o → o.guard = none
  pend : ∀ (o : Oper), ops[L + 1]? = some o → q ∈ depsOf o
  guard : ∀ (k : Nat) (o : Oper), k < L → ops[k]? = some o → ∀ j b, o.guard = some (j, b) → j ∈ depsOf o
  back : ∀ (k : Nat) (o : Oper), ops[k]? = some o → ∀ j ∈ depsOf o, j < k
  chain : ∀ j : Nat, j < L → j ≠ q → ∃ (k : Nat) (o : Oper), j < k ∧ k ≤ L ∧ k ≠ q ∧ ops[k]? = some o ∧ j ∈ depsOf o
  tail : ∀ (k : Nat) (o : Oper), L < k → ops[k]? = some o → k - 1 ∈ depsOf o
  dst : ∀ (j : Nat) (o : Oper), j < L → ops[j]? = some o → ∃ d, o.dst = some d ∧ d < n ∧ ∀ (k : Nat) (o' : Oper), k < L → ops[k]? = some o' → k ≠ j → o'.dst ≠ some d
theorem shapeQ_of {L q n : Nat} (h : shapeQB ops L q n = true) : ShapeQ ops L q n := by
  unfold shapeQB at h
  rw [Bool.and_eq_true, Bool.and_eq_true, Bool.and_eq_true, Bool.and_eq_true, Bool.and_eq_true, Bool.and_eq_true, Bool.and_eq_true, List.all_eq_true, List.all_eq_true, List.all_eq_true, List.all_eq_true] at h
  obtain ⟨⟨⟨⟨⟨⟨⟨h0, hq⟩, h1⟩, h2⟩, h2'⟩, h3⟩, h4⟩, h5⟩ := h
  have h0 : L < ops.size := by simpa using h0
  have hq : q < L := by simpa using hq
  have lt : ∀ k o, ops[k]? = some o → k < ops.size := fun k o ho => (Array.getElem?_eq_some_iff.1 ho).1
  rw [Bool.and_eq_true] at h4
  refine ⟨h0, hq, fun o ho => by have := h4.1; rw [ho] at this; simpa using this, fun o ho => by have := h4.2; rw [ho] at this; simpa using this, fun o ho => by rw [ho] at h5; exact List.contains_iff_mem.1 h5, fun k o hk ho j b hg => ?_, fun k o ho j hj => ?_, fun j hj hjq => ?_, fun k o hk ho => ?_, fun j o hj ho => ?_⟩
  · have := h1 k (List.mem_range.2 (lt k o ho))
    rw [ho] at this
    simp only [Option.map_some, Option.getD_some, Bool.and_eq_true, Bool.or_eq_true, hg] at this
    rcases this.1 with h | h
    · simp at h; omega
    · exact List.contains_iff_mem.1 h
  · have := h1 k (List.mem_range.2 (lt k o ho))
    rw [ho] at this
    simp only [Option.map_some, Option.getD_some, Bool.and_eq_true] at this
    obtain ⟨e, he, rfl⟩ := List.mem_map.1 hj
    obtain ⟨he1, he2⟩ := List.mem_filter.1 he
    have := (Array.all_eq_true'.1 this.2) e (by simpa using he1)
    rw [he2] at this
    simpa using this
  · have := h2 j (List.mem_range.2 hj)
    rw [Bool.or_eq_true] at this
    rcases this with h | h
    · exact absurd (by simpa using h) hjq
    · rw [List.any_eq_true] at h
      obtain ⟨k, hk, hk'⟩ := h
      rw [Bool.and_eq_true, Bool.and_eq_true] at hk'
      have hk0 := List.mem_range.1 hk
      have hk1 : k < ops.size := by omega
      have e1 : j < k := by simpa using hk'.1.1
      have e2 : k ≠ q := by simpa using hk'.1.2
      exact ⟨k, ops[k], e1, by omega, e2, Array.getElem?_eq_getElem hk1, dep_of (Array.getElem?_eq_getElem hk1) hk'.2⟩
  · have := h2' k (List.mem_range.2 (lt k o ho))
    rw [Bool.or_eq_true] at this
    rcases this with h | h
    · simp at h; omega
    · exact dep_of ho h
  · have := h3 j (List.mem_range.2 hj)
    rw [ho] at this
    simp only [Option.bind_some] at this
    cases hd : o.dst with
    | none => rw [hd] at this; simp at this
    | some d =>
      rw [hd] at this
      simp only [Bool.and_eq_true] at this
      refine ⟨d, rfl, by simpa using this.1, fun k o' hk ho' hne e => ?_⟩
      have h5 := List.all_eq_true.1 this.2 k (List.mem_range.2 hk)
      rw [ho'] at h5
      simp [e, hne] at h5
theorem slot_putQ {L q n : Nat} (sh : ShapeQ ops L q n) {a : Act} {i j : Nat} {oi oj : Oper} (hn : a.tmps.size = n) (hi : i < L) (hj : j < L) (ho : ops[i]? = some oi) (hoj : ops[j]? = some oj) (v : Value) :
    slotOf (a.put oi.dst v) oj = if i = j then v else slotOf a oj := by
  obtain ⟨d, hd, hdn, hdd⟩ := sh.dst i oi hi ho
  obtain ⟨d', hd', hdn', _⟩ := sh.dst j oj hj hoj
  unfold slotOf Act.put
  rw [hd, hd']
  simp only
  rw [Array.getD_eq_getD_getElem?, Array.getElem?_setIfInBounds]
  by_cases h : i = j
  · subst h
    rw [ho] at hoj
    injection hoj with hoj
    subst hoj
    rw [hd] at hd'
    injection hd' with hd'
    subst hd'
    simp [hn, hdn]
  · have hne : d ≠ d' := fun e => hdd j oj hj hoj (fun e' => h e'.symm) (by rw [hd', e])
    rw [if_neg hne, if_neg h, Array.getD_eq_getD_getElem?]
theorem agree_putQ {L q n : Nat} (sh : ShapeQ ops L q n) {a0 a : Act} {i : Nat} {oi : Oper} (hi : i < L) (ho : ops[i]? = some oi) (h : Agree L n ops a0 a) (v : Value) : Agree L n ops a0 (a.put oi.dst v) := by
  obtain ⟨d, hd, hdn, hdd⟩ := sh.dst i oi hi ho
  refine ⟨?_, ?_, fun k hk => ?_⟩
  · rw [← h.size]; unfold Act.put; rw [hd]; simp
  · rw [← h.defers]; unfold Act.put; rw [hd]
  · have hk' := hk
    unfold keptL at hk
    rw [List.contains_iff_mem] at hk
    obtain ⟨_, hk2⟩ := List.mem_filter.1 hk
    have := List.all_eq_true.1 hk2 i (List.mem_range.2 hi)
    rw [ho] at this
    simp [hd] at this
    rw [← h.kept k hk']
    unfold Act.put
    rw [hd]
    simp only
    rw [Array.getD_eq_getD_getElem?, Array.getElem?_setIfInBounds, if_neg this, Array.getD_eq_getD_getElem?]
theorem any_tailQ {L q n : Nat} (sh : ShapeQ ops L q n) : ∀ (fuel t : Nat) (listed : Array Bool) (a : Act) (w : World), listed.size = ops.size → L ≤ t → t ≤ ops.size → ops.size ≤ t + fuel →
    (∀ j, j < ops.size → listed.getD j false = decide (j < t)) → wpList P ops Q (ops.toList.drop t) a w → wpAny P .any ops Q fuel listed a w := by
  intro fuel
  induction fuel with
  | zero =>
    intro t listed a w hs hL ht hf hl h
    obtain rfl : t = ops.size := by omega
    refine ⟨?_, ?_⟩
    · rw [List.eq_nil_iff_forall_not_mem]
      intro i hi
      obtain ⟨h1, h2, _⟩ := mem_ready'.1 hi
      rw [getD_tf (by omega), hl i h1] at h2
      simp at h2; omega
    · rw [List.drop_eq_nil_of_le (by simp)] at h; exact h
  | succ fuel ih =>
    intro t listed a w hs hL ht hf hl h
    by_cases hte : t = ops.size
    · subst hte
      have hr : Region.ready .any ops listed = [] := by
        rw [List.eq_nil_iff_forall_not_mem]
        intro i hi
        obtain ⟨h1, h2, _⟩ := mem_ready'.1 hi
        rw [getD_tf (by omega), hl i h1] at h2
        simp at h2; omega
      rw [List.drop_eq_nil_of_le (by simp)] at h
      exact ⟨fun _ => h, by rw [hr]; simp⟩
    · have hlt : t < ops.size := by omega
      have hto : ops[t]? = some ops[t] := Array.getElem?_eq_getElem hlt
      have hmem : t ∈ Region.ready .any ops listed := mem_ready'.2 ⟨hlt, by rw [getD_tf (by omega), hl t hlt]; simp, ops[t], hto, fun j hj => by
        have := sh.back t _ hto j hj
        rw [hl j (by omega)]; simp [this]⟩
      refine ⟨fun hr => by rw [hr] at hmem; simp at hmem, fun i hi => ?_⟩
      obtain ⟨h1, h2, o, ho, hd⟩ := mem_ready'.1 hi
      rw [getD_tf (by omega), hl i h1] at h2
      have hit : i = t := by
        rcases Nat.lt_trichotomy i t with hh | hh | hh
        · simp [hh] at h2
        · exact hh
        · have := hd _ (sh.tail i o (by omega) ho)
          rw [hl _ (by omega)] at this
          simp at this
          omega
      subst hit
      rw [hto] at ho
      injection ho with ho
      subst ho
      have hdrop : ops.toList.drop i = ops[i] :: ops.toList.drop (i + 1) := by
        rw [List.drop_eq_getElem_cons (by simpa using hlt)]; simp
      rw [hdrop] at h
      have hnext : ∀ a' w', wpList P ops Q (ops.toList.drop (i + 1)) a' w' → wpAny P .any ops Q fuel (listed.setIfInBounds i true) a' w' := fun a' w' h' =>
        ih (i + 1) _ a' w' (by simpa using hs) (by omega) (by omega) (by omega) (fun j hj => by
          rw [getD_set (by omega)]
          by_cases hij : i = j
          · subst hij; simp
          · rw [if_neg hij, hl j hj]; congr 1; simp; omega) h'
      unfold wpList at h
      unfold wpOp
      rw [hto]
      simp only
      split
      · rename_i hw
        rw [if_pos hw] at h
        exact h.imp (Oper.wp_mono hnext) id
      · rename_i hw
        rw [if_neg hw] at h
        exact hnext _ _ h
theorem pend_tail {L q n : Nat} (sh : ShapeQ ops L q n) {oq : Oper} (hoq : ops[q]? = some oq) (f : Nat) (listed : Array Bool) (a : Act) (w : World) (hs : listed.size = ops.size) (hf : ops.size ≤ L + 1 + f)
    (hl : ∀ j, j < ops.size → listed.getD j false = decide (j ≤ L ∧ j ≠ q)) (h : wpList P ops Q (oq :: ops.toList.drop (L + 1)) a w) : wpAny P .any ops Q (f + 1) listed a w := by
  have hpos := sh.pos
  have hql := sh.ql
  have hqs : q < ops.size := by omega
  have e : ops[q] = oq := by have := (Array.getElem?_eq_getElem hqs).symm.trans hoq; simpa using this
  refine any_stepQ q hqs hs (by rw [hl q hqs]; simp) (fun j hj => by
    rw [e] at hj
    have hjq := sh.back q oq hoq j hj
    rw [hl j (by omega)]
    simp; omega) (fun k hk1 hk2 hk3 => ?_)
  rw [hl k hk1] at hk2
  have hkq : k = q := by
    rcases Nat.lt_or_ge L k with hkL | hkL
    · exfalso
      by_cases hk : k = L + 1
      · subst hk
        have := hk3 q (sh.pend _ (Array.getElem?_eq_getElem hk1))
        rw [hl q hqs] at this
        simp at this
      · have := hk3 (k - 1) (sh.tail k _ hkL (Array.getElem?_eq_getElem hk1))
        rw [hl (k - 1) (by omega)] at this
        simp at this
        omega
    · exact Classical.byContradiction fun hn => by simp [hkL, hn] at hk2
  subst hkq
  refine wpOp_listQ hoq (sh.gq oq hoq) h (fun a' w' h' => any_tailQ sh f (L + 1) _ a' w' (by simpa using hs) (by omega) (by omega) hf (fun j hj => ?_) h')
  rw [getD_set (by omega)]
  by_cases hj2 : k = j
  · subst hj2; rw [if_pos rfl]; simp; omega
  · rw [if_neg hj2, hl j hj]
    congr 1
    simp only [eq_iff_iff]
    omega
theorem region_pend {id n : Nat} {a0 : Act} {w0 : World} (L q : Nat) (hm : P.follows .mixedOrders = true) (hn : a0.tmps.size = n) (hsh : shapeQB ops L q n = true) (G : Nat → Bool) (J : World → Prop) (cl : Nat → Nat) (p : Nat → Value → (Nat → Nat) → World → Prop) (hJ0 : J w0.drew)
    (hgd : ∀ (i : Nat) (o : Oper), i < L → ops[i]? = some o → ∀ j b, o.guard = some (j, b) → ∀ v gh w, p j v gh w → v = .bool (G j))
    (hst : ∀ (i : Nat) (v : Value) (gh gh' : Nat → Nat) (w w' : World), p i v gh w → J w → Below w.heap.size w w' → (∀ b, b < w.heap.size → gh' b = gh b) → p i v gh' w')
    (hstep : StepsG L n P ops a0 G J cl p L 0 ops.toList)
    (hlast : ∀ (a : Act) (gh : Nat → Nat) (w : World), Agree L n ops a0 a → J w → (∀ j, (List.range L).contains j = true → ∀ oj, ops[j]? = some oj → p j (slotOf a oj) gh w) →
      wpList P ops Q (ops.toList.drop L) a w)
    (hlast2 : ∀ (a : Act) (gh : Nat → Nat) (w : World), Agree L n ops a0 a → J w → (∀ j, (List.range L).contains j = true → j ≠ q → ∀ oj, ops[j]? = some oj → p j (slotOf a oj) gh w) →
      ∀ oL oq, ops[L]? = some oL → ops[q]? = some oq → wpList P ops Q (oL :: oq :: ops.toList.drop (L + 1)) a w) : (Code.region id ops true).wp P Q a0 w0 := by
  have sh := shapeQ_of hsh
  have hpos := sh.pos
  refine wp_region_any hm ?_
  have key : ∀ (fuel : Nat) (listed : Array Bool) (a : Act) (w : World), listed.size = ops.size → listed.toList.count false ≤ fuel →
      (∀ i o, ops[i]? = some o → listed.getD i false = true → ∀ j ∈ depsOf o, listed.getD j false = true) →
      listed.getD L false = false → Agree L n ops a0 a → J w → (∃ gh : Nat → Nat, ∀ i o, i < L → ops[i]? = some o → listed.getD i false = true → p i (slotOf a o) gh w) →
      wpAny P .any ops Q fuel listed a w := by
    intro fuel
    induction fuel with
    | zero =>
      intro listed a w hs hc hcl hL _ _ _
      exfalso
      have hLs : L < listed.size := by omega
      rw [Array.getD_eq_getD_getElem?, Array.getElem?_eq_getElem hLs] at hL
      have hm : false ∈ listed.toList := by
        rw [show false = listed[L] from by simpa using hL.symm]
        simp
      have := List.count_pos_iff.2 hm
      omega
    | succ fuel ih =>
      intro listed a w hs hc hcl hL hag hJ hps
      -- whoever stands behind L has not come up
      have hbeyond : ∀ k, L ≤ k → k < ops.size → listed.getD k false = false := by
        intro k
        induction k with
        | zero => intro h1 _; obtain rfl : L = 0 := by omega
                  exact hL
        | succ k ihk =>
          intro h1 h2
          by_cases hk : L = k + 1
          · rw [← hk]; exact hL
          · rcases Bool.eq_false_or_eq_true (listed.getD (k + 1) false) with h | h
            · have h3 := hcl (k + 1) _ (Array.getElem?_eq_getElem h2) h _ (sh.tail (k + 1) _ (by omega) (Array.getElem?_eq_getElem h2))
              rw [show k + 1 - 1 = k by omega, ihk (by omega) (by omega)] at h3
              cases h3
            · exact h
      by_cases hall : ∀ j, j < L → listed.getD j false = true
      · obtain ⟨gh, hps⟩ := hps
        refine any_tailQ sh (fuel + 1) L listed a w hs (Nat.le_refl _) (by omega) ?_ (fun j hj => ?_) (hlast a gh w hag hJ (fun j hj oj hoj => ?_))
        · -- the fuel suffices
          have h1 : listed.toList.drop L = List.replicate (ops.size - L) false := by
            apply List.ext_getElem
            · simp [hs]
            · intro i h1 h2
              simp at h1
              have := hbeyond (L + i) (by omega) (by omega)
              rw [Array.getD_eq_getD_getElem?, Array.getElem?_eq_getElem (by omega)] at this
              simpa using this
          have h2 : (listed.toList.drop L).count false ≤ listed.toList.count false := List.Sublist.count_le _ (List.drop_sublist _ _)
          rw [h1, List.count_replicate_self] at h2
          omega
        · by_cases hjL : j < L
          · rw [hall j hjL]; simp [hjL]
          · rw [hbeyond j (by omega) hj]; simp [hjL]
        · have hj' := List.mem_range.1 (List.contains_iff_mem.1 hj)
          exact hps j oj hj' hoj (hall j hj')
      · -- the least that has not come up may come up
        have hready : ∀ i, i ∈ Region.ready .any ops listed → i < L ∨ (i = L ∧ ∀ j, j < L → j ≠ q → listed.getD j false = true) := by
          intro i hi
          obtain ⟨h1, h2, o, ho, hdep⟩ := mem_ready'.1 hi
          rcases Nat.lt_or_ge i L with h | h
          · exact .inl h
          · right
            by_cases hiL : i = L
            · subst hiL
              refine ⟨rfl, ?_⟩
              have : ∀ m j, i - j ≤ m → j < i → j ≠ q → listed.getD j false = true := by
                intro m
                induction m with
                | zero => intro j h1 h2; omega
                | succ m ihm =>
                  intro j h1 h2 hjq
                  obtain ⟨k, ok, hjk, hkL, hkq, hok, hmem⟩ := sh.chain j h2 hjq
                  by_cases hkl : k = i
                  · subst hkl
                    rw [ho] at hok
                    injection hok with hok
                    subst hok
                    exact hdep j hmem
                  · exact hcl k ok hok (ihm k (by omega) (by omega) hkq) j hmem
              exact fun j hj hjq => this _ j (Nat.le_refl _) hj hjq
            · exfalso
              have := hdep _ (sh.tail i o (by omega) ho)
              rw [hbeyond _ (by omega) (by omega)] at this
              cases this
        refine ⟨fun hr => ?_, fun i hi => ?_⟩
        · exfalso
          have hex : ∀ m, m < ops.size → (∀ j, j < m → listed.getD j false = true) → listed.getD m false = false → False := by
            intro m hm hlow hmf
            have : m ∈ Region.ready .any ops listed := mem_ready'.2 ⟨hm, by
              rw [getD_tf (by omega)]; exact hmf, ops[m], Array.getElem?_eq_getElem hm, fun j hj => hlow j (sh.back m _ (Array.getElem?_eq_getElem hm) j hj)⟩
            rw [hr] at this
            simp at this
          have hall2 : ∀ m, ∀ j, j < m → j < ops.size → listed.getD j false = true := by
            intro m
            induction m with
            | zero => intro j hj; omega
            | succ m ihm =>
              intro j hj hjs
              by_cases hjm : j < m
              · exact ihm j hjm hjs
              · obtain rfl : j = m := by omega
                rcases Bool.eq_false_or_eq_true (listed.getD j false) with h' | h'
                · exact h'
                · exact (hex j hjs (fun k hk => ihm k hk (by omega)) h').elim
          exact hall (fun j hj => hall2 (j + 1) j (by omega) (by omega))
        · have hql := sh.ql
          rcases hready i hi with hiL | ⟨rfl, hpend⟩
          rotate_left
          · -- L comes ahead of q
            have hqf : listed.getD q false = false := by
              rcases Bool.eq_false_or_eq_true (listed.getD q false) with h | h
              · exact absurd (fun j hj => by
                  by_cases hjq : j = q
                  · rw [hjq]; exact h
                  · exact hpend j hj hjq) hall
              · exact h
            obtain ⟨gh, hps⟩ := hps
            have hoL : ops[i]? = some ops[i] := Array.getElem?_eq_getElem hpos
            have hoq : ops[q]? = some (ops[q]'(by omega)) := Array.getElem?_eq_getElem (by omega)
            have hl2 := hlast2 a gh w hag hJ (fun j hj hjq oj hoj => hps j oj (List.mem_range.1 (List.contains_iff_mem.1 hj)) hoj (hpend j (List.mem_range.1 (List.contains_iff_mem.1 hj)) hjq)) _ _ hoL hoq
            have hcount : ops.size - i + 1 ≤ fuel + 1 := by
              have h1 : listed.toList.drop i = List.replicate (ops.size - i) false := by
                apply List.ext_getElem
                · simp [hs]
                · intro j h1 h2
                  simp at h1
                  have := hbeyond (i + j) (by omega) (by omega)
                  rw [Array.getD_eq_getD_getElem?, Array.getElem?_eq_getElem (by omega)] at this
                  simpa using this
              have h2 : listed.toList.count false = (listed.toList.take i).count false + (listed.toList.drop i).count false := by rw [← List.count_append, List.take_append_drop]
              rw [h1, List.count_replicate_self] at h2
              have h3 : 0 < (listed.toList.take i).count false := List.count_pos_iff.2 (by
                have hqs : q < listed.size := by omega
                rw [Array.getD_eq_getD_getElem?, Array.getElem?_eq_getElem hqs] at hqf
                rw [show false = listed[q] from by simpa using hqf.symm]
                rw [List.mem_take_iff_getElem]
                exact ⟨q, by simp; omega, by simp⟩)
              omega
            obtain ⟨f, rfl⟩ : ∃ f, fuel = f + 1 := ⟨fuel - 1, by omega⟩
            refine wpOp_listQ hoL (sh.gL _ hoL) hl2 (fun a' w' h' => pend_tail sh hoq f _ a' w' (by simpa using hs) (by omega) (fun j hj => ?_) h')
            rw [getD_set (by omega)]
            by_cases hij : i = j
            · subst hij; rw [if_pos rfl]; simp; omega
            · rw [if_neg hij]
              by_cases hjL : j < i
              · by_cases hjq : j = q
                · subst hjq; rw [hqf]; simp
                · rw [hpend j hjL hjq]; simp [hjq]; omega
              · rw [hbeyond j (by omega) hj]; simp; omega
          obtain ⟨h1, h2, o, ho, hdep⟩ := mem_ready'.1 hi
          have his : i < listed.size := by omega
          have hcnt : (listed.setIfInBounds i true).toList.count false ≤ fuel := by
            rw [Array.toList_setIfInBounds, List.count_set (by simpa using his)]
            have hb : listed.toList[i]'(by simpa using his) = false := by
              rw [Array.getD_eq_getD_getElem?, Array.getElem?_eq_getElem his] at h2
              simpa using h2
            rw [hb]
            have : 0 < listed.toList.count false := List.count_pos_iff.2 (by rw [← hb]; exact List.getElem_mem _)
            simp only [show (false == false) = true from rfl, show (true == false) = false from rfl, if_true, Bool.false_eq_true, if_false]
            omega
          have hcl' : ∀ k ok, ops[k]? = some ok → (listed.setIfInBounds i true).getD k false = true → ∀ j ∈ depsOf ok, (listed.setIfInBounds i true).getD j false = true := by
            intro k ok hok hk j hj
            rw [getD_set his] at hk ⊢
            split
            · rfl
            · by_cases hik : i = k
              · subst hik
                rw [ho] at hok
                injection hok with hok
                subst hok
                exact hdep j hj
              · rw [if_neg hik] at hk
                exact hcl k ok hok hk j hj
          obtain ⟨gh, hps⟩ := hps
          have hwant : Region.wanted o (yielded ops a.tmps) = runsB G o := by
            unfold Region.wanted runsB
            cases hgu : o.guard with
            | none => rfl
            | some q =>
              obtain ⟨j, b⟩ := q
              have hjd := sh.guard i o hiL ho j b hgu
              have hji := sh.back i o ho j hjd
              have hjo : ops[j]? = some (ops[j]'(by omega)) := Array.getElem?_eq_getElem (by omega)
              obtain ⟨d, hd, _⟩ := sh.dst j _ (by omega) hjo
              have hv := hgd i o hiL ho j b hgu _ _ _ (hps j _ (by omega) hjo (hdep j hjd))
              simp only
              rw [yielded_of hjo hd hv]
              rfl
          have hst' := StepsG.at_ L ops.toList 0 hstep i o hiL (by simpa using ho)
          rw [Nat.zero_add] at hst'
          unfold StepG at hst'
          have hset : ∀ (v : Value) (w' : World) (gh' : Nat → Nat), p i v gh' w' → J w' → Below w.heap.size w w' → (∀ b, b < w.heap.size → gh' b = gh b) → wpAny P .any ops Q fuel (listed.setIfInBounds i true) (a.put o.dst v) w' := fun v w' gh' hpv hJ' hb hgh => by
            refine ih _ _ w' (by simpa using hs) hcnt hcl' ?_ (agree_putQ sh hiL ho hag v) hJ' ⟨gh', fun j oj hj hoj hlj => ?_⟩
            · rw [getD_set his, if_neg (by omega)]; exact hL
            · rw [slot_putQ sh hag.size hiL hj ho hoj]
              by_cases hij : i = j
              · subst hij; rw [if_pos rfl]; exact hpv
              · rw [if_neg hij]
                rw [getD_set his, if_neg hij] at hlj
                exact hst j _ gh _ w w' (hps j oj hj hoj hlj) hJ hb hgh
          unfold wpOp
          rw [ho]
          simp only
          cases hr : runsB G o with
          | true =>
            rw [hr] at hst' hwant
            simp only at hst'
            rw [if_pos hwant]
            left
            have hw1 := hst' a gh w hag hJ (fun j hj oj hoj => hps j oj (by have := sh.back i o ho j (List.contains_iff_mem.1 hj); omega) hoj (hdep j (List.contains_iff_mem.1 hj)))
            refine wp_bare (Oper.wp_mono (fun a' w' hk => ?_) (wp_calm (Q := Q) (o := bareO o) rfl hw1))
            obtain ⟨v, rfl, hpv, hJ', hb⟩ := hk
            exact hset v w' _ hpv hJ' hb (fun b hb => if_pos hb)
          | false =>
            rw [hr] at hst' hwant
            simp only at hst'
            rw [if_neg (by rw [hwant]; simp)]
            exact hset undef w gh (hst' gh w) hJ (Below.refl _ _) (fun _ _ => rfl)
  have hf : ∀ i, (Array.replicate ops.size false).getD i false = false := fun i => by
    rw [Array.getD_eq_getD_getElem?, Array.getElem?_replicate]
    split <;> rfl
  refine key ops.size _ a0 _ (by simp) (by simp) (fun i o _ h => ?_) (hf L) ⟨hn, rfl, fun _ _ => rfl⟩ hJ0 ⟨fun _ => 0, fun i o _ _ h => ?_⟩
  · rw [hf i] at h; cases h
  · rw [hf i] at h; cases h
theorem region_pendL {id n : Nat} {a0 : Act} {w0 : World} (L q : Nat) (hm : P.follows .mixedOrders = true) (hn : a0.tmps.size = n) (hsh : shapeQB ops L q n = true) (Gs : List Nat) (hGs : guardsB ops L Gs = true) (G : Nat → Bool) (J : World → Prop) (cl : Nat → Nat) (p : Nat → Value → (Nat → Nat) → World → Prop)
    (hgd : AllP (fun j => ∀ v gh w, p j v gh w → v = .bool (G j)) Gs) (hJ0 : J w0.drew)
    (hst : ∀ (i : Nat) (v : Value) (gh gh' : Nat → Nat) (w w' : World), p i v gh w → J w → Below w.heap.size w w' → (∀ b, b < w.heap.size → gh' b = gh b) → p i v gh' w')
    (hstep : StepsG L n P ops a0 G J cl p L 0 ops.toList)
    (hlast : ∀ (a : Act) (gh : Nat → Nat) (w : World), Agree L n ops a0 a → J w → (∀ j, (List.range L).contains j = true → ∀ oj, ops[j]? = some oj → p j (slotOf a oj) gh w) →
      wpList P ops Q (ops.toList.drop L) a w)
    (hlast2 : ∀ (a : Act) (gh : Nat → Nat) (w : World), Agree L n ops a0 a → J w → (∀ j, (List.range L).contains j = true → j ≠ q → ∀ oj, ops[j]? = some oj → p j (slotOf a oj) gh w) →
      wpList P ops Q (ops.getD L default :: ops.getD q default :: ops.toList.drop (L + 1)) a w) : (Code.region id ops true).wp P Q a0 w0 := by
  refine region_pend L q hm hn hsh G J cl p hJ0 (fun i o hi ho j b hg v gh w hp => AllP.mem hgd j ?_ v gh w hp) hst hstep hlast (fun a gh w hag hJ hp oL oq hL hq => by
    have := hlast2 a gh w hag hJ hp
    rwa [Array.getD_eq_getD_getElem?, Array.getD_eq_getD_getElem?, hL, hq] at this)
  unfold guardsB at hGs
  have := List.all_eq_true.1 hGs i (List.mem_range.2 hi)
  rw [ho] at this
  simp only [Option.bind_some, hg] at this
  exact List.contains_iff_mem.1 this
end
end Go.Proofs.YteidpejjjphecaaGreatDoor

namespace Go.Proofs.YteidpejjjphecaaGreatDoor
theorem act_eq (n : Nat) {a : Act} (h : a.tmps.size = n) (hd : a.defers = []) : a = ⟨List.toArray ((List.range n).map fun i => a.tmps.getD i undef), []⟩ := by
 obtain ⟨⟨l⟩, d⟩ := a
 subst hd
 have h0 : l.length = n := h
 subst h0
 congr 1
 congr 1
 apply List.ext_getElem
 ·simp
 ·intro i h1 h2
  simp [Array.getD, h1]
open Go.RowKit
section
variable {P : Program} {ops : Array Oper} {Q : Exit → Act → World → Prop}
def needB (ops : Array Oper) (L : Nat) (before need : Nat → List Nat) (needT : List Nat) : Bool :=
 ((List.range L).all (fun m => match ops[m]? with | some o => (need m).all (fun i => (depsOf o).contains i) && (before m).all (fun i => (depsOf o).contains i || (depsOf o).any (fun j => (before j).contains i)) | none => false)) && needT.all (fun i => decide (i < L))
def aliveB (L : Nat) (before need : Nat → List Nat) (needT : List Nat) (i k : Nat) : Bool :=
 (!(k == i) && !(before i).contains k) && ((List.range L).any (fun m => (!(m == k) && !(before k).contains m) && (need m).contains i) || needT.contains i)
theorem need_of {L : Nat} {before need : Nat → List Nat} {needT : List Nat} (h : needB ops L before need needT = true) :
  (∀ (m : Nat) (o : Oper), m < L → ops[m]? = some o → ∀ i ∈ need m, i ∈ depsOf o) ∧ (∀ i ∈ needT, i < L) ∧
  (∀ (m : Nat) (o : Oper), m < L → ops[m]? = some o → ∀ i ∈ before m, i ∈ depsOf o ∨ ∃ j ∈ depsOf o, i ∈ before j) := by
 unfold needB at h
 rw [Bool.and_eq_true, List.all_eq_true, List.all_eq_true] at h
 refine ⟨fun m o hm ho i hi => ?_, fun i hi => by simpa using h.2 i hi, fun m o hm ho i hi => ?_⟩
 ·have := h.1 m (List.mem_range.2 hm)
  rw [ho] at this
  rw [Bool.and_eq_true] at this
  exact List.contains_iff_mem.1 (List.all_eq_true.1 this.1 i hi)
 ·have := h.1 m (List.mem_range.2 hm)
  rw [ho] at this
  rw [Bool.and_eq_true] at this
  have h2 := List.all_eq_true.1 this.2 i hi
  rw [Bool.or_eq_true, List.any_eq_true] at h2
  rcases h2 with h2 | ⟨j, h2, h3⟩
  ·exact .inl (List.contains_iff_mem.1 h2)
  ·exact .inr ⟨j, h2, List.contains_iff_mem.1 h3⟩
theorem alive_of {L : Nat} {before need : Nat → List Nat} {needT : List Nat} {i k : Nat} (h1 : k ≠ i) (h2 : k ∉ before i) (h : (∃ m, m < L ∧ m ≠ k ∧ m ∉ before k ∧ i ∈ need m) ∨ i ∈ needT) : aliveB L before need needT i k = true := by
 unfold aliveB
 rw [Bool.and_eq_true, Bool.and_eq_true, Bool.or_eq_true]
 refine ⟨⟨by simpa using h1, by simpa using h2⟩, ?_⟩
 rcases h with ⟨m, h1, h2, h3, h4⟩ | h
 ·left
  rw [List.any_eq_true]
  exact ⟨m, List.mem_range.2 h1, by rw [Bool.and_eq_true, Bool.and_eq_true]; exact ⟨⟨by simpa using h2, by simpa using h3⟩, List.contains_iff_mem.2 h4⟩⟩
 ·exact .inr (List.contains_iff_mem.2 h)
theorem before_listed {L n : Nat} (sh : Shape ops L n) {before : Nat → List Nat} (hbf : ∀ (m : Nat) (o : Oper), m < L → ops[m]? = some o → ∀ i ∈ before m, i ∈ depsOf o ∨ ∃ j ∈ depsOf o, i ∈ before j)
  {listed : Array Bool} (hcl : ∀ i o, ops[i]? = some o → listed.getD i false = true → ∀ j ∈ depsOf o, listed.getD j false = true) :
  ∀ (k : Nat) (o : Oper), k < L → ops[k]? = some o → (∀ j ∈ depsOf o, listed.getD j false = true) → ∀ i ∈ before k, listed.getD i false = true := by
 intro k
 induction k using Nat.strongRecOn with
 | ind k ih =>
  intro o hk ho hd i hi
  rcases hbf k o hk ho i hi with h | ⟨j, hj, hij⟩
  ·exact hd i h
  ·have hjk := sh.back k o ho j hj
   have hpos := sh.pos
   have hjo : ops[j]? = some (ops[j]'(by omega)) := Array.getElem?_eq_getElem (by omega)
   exact ih j hjk _ (by omega) hjo (hcl j _ hjo (hd j hj)) i hij
def GrownPost (a : Act) (dst : Option Tmp) (J : World → Prop) (q : Value → World → Prop) (r : World → Prop) (e : Exit) (a' : Act) (w' : World) : Prop := e = .normal ∧ ∃ v, a' = a.put dst v ∧ q v w' ∧ J w' ∧ r w'
def GrowAt (L n : Nat) (P : Program) (ops : Array Oper) (a0 : Act) (need : Nat → List Nat) (R : Nat → (Nat → Nat) → World → World → Prop) (J : World → Prop) (cl : Nat → Nat) (p : Nat → Value → (Nat → Nat) → World → Prop) (i : Nat) (o : Oper) : Prop :=
 ∀ (a : Act) (gh : Nat → Nat) (w : World), Agree L n ops a0 a → J w → (∀ j, (need i).contains j = true → ∀ oj, ops[j]? = some oj → p j (slotOf a oj) gh w) →
  wpList P #[o] (GrownPost a o.dst J (fun v w' => p i v (ghNew gh w.heap.size (cl i)) w') (R i gh w)) [o] a w
def GrowsFrom (L n : Nat) (P : Program) (ops : Array Oper) (a0 : Act) (need : Nat → List Nat) (R : Nat → (Nat → Nat) → World → World → Prop) (J : World → Prop) (cl : Nat → Nat) (p : Nat → Value → (Nat → Nat) → World → Prop) : Nat → Nat → List Oper → Prop
 | 0, _, _ => True
 | _ + 1, _, [] => True
 | m + 1, i, o :: l => GrowAt L n P ops a0 need R J cl p i o ∧ GrowsFrom L n P ops a0 need R J cl p m (i + 1) l
theorem GrowsFrom.at_ {L n : Nat} {a0 : Act} {need : Nat → List Nat} {R : Nat → (Nat → Nat) → World → World → Prop} {J : World → Prop} {cl : Nat → Nat} {p : Nat → Value → (Nat → Nat) → World → Prop} (m : Nat) : ∀ (l : List Oper) (k : Nat), GrowsFrom L n P ops a0 need R J cl p m k l → ∀ (i : Nat) (o : Oper), i < m → l[i]? = some o → GrowAt L n P ops a0 need R J cl p (k + i) o := by
 induction m with
 | zero => intro l k _ i o h; omega
 | succ m ih =>
  intro l k h i o hi ho
  match l, h with
  | [], _ => simp at ho
  | x :: l, h =>
   cases i with
   | zero => simp at ho; subst ho; exact h.1
   | succ i =>
    have := ih l (k + 1) h.2 i o (by omega) (by simpa using ho)
    rwa [show k + 1 + i = k + (i + 1) by omega] at this
end
open Go.RowKit
section
variable {P : Program} {ops : Array Oper} {Q : Exit → Act → World → Prop}
def setD (d : Nat → Bool) (i : Nat) : Nat → Bool := fun j => if i = j then true else d j
theorem setD_self (d : Nat → Bool) (i : Nat) : setD d i i = true := if_pos rfl
theorem setD_ne {d : Nat → Bool} {i j : Nat} (h : i ≠ j) : setD d i j = d j := if_neg h
def ClosedD (ops : Array Oper) (d : Nat → Bool) : Prop := ∀ k, d k = true → ∀ ok, ops[k]? = some ok → ∀ j ∈ depsOf ok, d j = true
theorem ClosedD.not {d : Nat → Bool} (h : ClosedD ops d) {i k : Nat} (hi : d i = false) {ok : Oper} (hk : ops[k]? = some ok) (hd : (depsOf ok).contains i = true) : d k = false := by
  cases e : d k
  · rfl
  · have := h k e ok hk i (List.contains_iff_mem.1 hd)
    rw [hi] at this; cases this
theorem setD_listed {listed : Array Bool} {i : Nat} (hi : i < listed.size) : (fun j => (listed.setIfInBounds i true).getD j false) = setD (fun j => listed.getD j false) i := by
  funext j
  rw [getD_set hi]; rfl
def StateAt (L n : Nat) (P : Program) (ops : Array Oper) (a0 : Act) (need : Nat → List Nat) (R : Nat → (Nat → Nat) → World → World → Prop) (J : (Nat → Bool) → World → Prop) (cl : Nat → Nat) (p : Nat → Value → (Nat → Nat) → World → Prop) (i : Nat) (o : Oper) : Prop :=
  ∀ (a : Act) (gh : Nat → Nat) (w : World) (d : Nat → Bool), Agree L n ops a0 a → d i = false → ClosedD ops d → J d w → (∀ j, (need i).contains j = true → ∀ oj, ops[j]? = some oj → p j (slotOf a oj) gh w) →
    wpList P #[o] (GrownPost a o.dst (J (setD d i)) (fun v w' => p i v (ghNew gh w.heap.size (cl i)) w') (R i gh w)) [o] a w
def StatesFrom (L n : Nat) (P : Program) (ops : Array Oper) (a0 : Act) (need : Nat → List Nat) (R : Nat → (Nat → Nat) → World → World → Prop) (J : (Nat → Bool) → World → Prop) (cl : Nat → Nat) (p : Nat → Value → (Nat → Nat) → World → Prop) : Nat → Nat → List Oper → Prop
  | 0, _, _ => True
  | _ + 1, _, [] => True
  | m + 1, i, o :: l => StateAt L n P ops a0 need R J cl p i o ∧ StatesFrom L n P ops a0 need R J cl p m (i + 1) l
theorem StatesFrom.at_ {L n : Nat} {a0 : Act} {need : Nat → List Nat} {R : Nat → (Nat → Nat) → World → World → Prop} {J : (Nat → Bool) → World → Prop} {cl : Nat → Nat} {p : Nat → Value → (Nat → Nat) → World → Prop} (m : Nat) : ∀ (l : List Oper) (k : Nat), StatesFrom L n P ops a0 need R J cl p m k l → ∀ (i : Nat) (o : Oper), i < m → l[i]? = some o → StateAt L n P ops a0 need R J cl p (k + i) o := by
  induction m with
  | zero => intro l k _ i o h; omega
  | succ m ih =>
    intro l k h i o hi ho
    match l, h with
    | [], _ => simp at ho
    | x :: l, h =>
      cases i with
      | zero => simp at ho; subst ho; exact h.1
      | succ i =>
        have := ih l (k + 1) h.2 i o (by omega) (by simpa using ho)
        rwa [show k + 1 + i = k + (i + 1) by omega] at this
theorem region_state {id n : Nat} {a0 : Act} {w0 : World} (L : Nat) (hm : P.follows .mixedOrders = true) (hn : a0.tmps.size = n) (hsh : shapeB ops L n = true) (before need : Nat → List Nat) (needT : List Nat) (hneed : needB ops L before need needT = true) (R : Nat → (Nat → Nat) → World → World → Prop) (J : (Nat → Bool) → World → Prop) (cl : Nat → Nat) (p : Nat → Value → (Nat → Nat) → World → Prop) (hJ0 : J (fun _ => false) w0.drew)
    (hst : ∀ (i k : Nat) (v : Value) (gh gh' : Nat → Nat) (w w' : World), aliveB L before need needT i k = true → p i v gh w → (∃ d, J d w) → R k gh w w' → (∀ b, b < w.heap.size → gh' b = gh b) → p i v gh' w')
    (hstep : StatesFrom L n P ops a0 need R J cl p L 0 ops.toList)
    (hlast : ∀ (a : Act) (gh : Nat → Nat) (w : World) (d : Nat → Bool), Agree L n ops a0 a → (∀ j, j < L → d j = true) → J d w → (∀ j, needT.contains j = true → ∀ oj, ops[j]? = some oj → p j (slotOf a oj) gh w) →
      wpList P ops Q (ops.toList.drop L) a w) : (Code.region id ops true).wp P Q a0 w0 := by
  have sh := shape_of hsh
  obtain ⟨hnd, hnT, hbf⟩ := need_of hneed
  have hpos := sh.pos
  refine wp_region_any hm ?_
  have key : ∀ (fuel : Nat) (listed : Array Bool) (a : Act) (w : World), listed.size = ops.size → listed.toList.count false ≤ fuel →
      (∀ i o, ops[i]? = some o → listed.getD i false = true → ∀ j ∈ depsOf o, listed.getD j false = true) →
      listed.getD L false = false → Agree L n ops a0 a → J (fun i => listed.getD i false) w → (∃ gh : Nat → Nat, ∀ i o, i < L → ops[i]? = some o → listed.getD i false = true → ((∃ m, m < L ∧ listed.getD m false = false ∧ i ∈ need m) ∨ i ∈ needT) → p i (slotOf a o) gh w) →
      wpAny P .any ops Q fuel listed a w := by
    intro fuel
    induction fuel with
    | zero =>
      intro listed a w hs hc hcl hL _ _ _
      exfalso
      have hLs : L < listed.size := by omega
      rw [Array.getD_eq_getD_getElem?, Array.getElem?_eq_getElem hLs] at hL
      have hm : false ∈ listed.toList := by
        rw [show false = listed[L] from by simpa using hL.symm]
        simp
      have := List.count_pos_iff.2 hm
      omega
    | succ fuel ih =>
      intro listed a w hs hc hcl hL hag hJ hps
      -- whoever stands behind L has not come up
      have hbeyond : ∀ k, L ≤ k → k < ops.size → listed.getD k false = false := by
        intro k
        induction k with
        | zero => intro h1 _; obtain rfl : L = 0 := by omega
                  exact hL
        | succ k ihk =>
          intro h1 h2
          by_cases hk : L = k + 1
          · rw [← hk]; exact hL
          · rcases Bool.eq_false_or_eq_true (listed.getD (k + 1) false) with h | h
            · have h3 := hcl (k + 1) _ (Array.getElem?_eq_getElem h2) h _ (sh.tail (k + 1) _ (by omega) (Array.getElem?_eq_getElem h2))
              rw [show k + 1 - 1 = k by omega, ihk (by omega) (by omega)] at h3
              cases h3
            · exact h
      by_cases hall : ∀ j, j < L → listed.getD j false = true
      · obtain ⟨gh, hps⟩ := hps
        refine any_tail sh (fuel + 1) L listed a w hs (Nat.le_refl _) (by omega) ?_ (fun j hj => ?_) (hlast a gh w _ hag hall hJ (fun j hj oj hoj => ?_))
        · -- the fuel suffices
          have h1 : listed.toList.drop L = List.replicate (ops.size - L) false := by
            apply List.ext_getElem
            · simp [hs]
            · intro i h1 h2
              simp at h1
              have := hbeyond (L + i) (by omega) (by omega)
              rw [Array.getD_eq_getD_getElem?, Array.getElem?_eq_getElem (by omega)] at this
              simpa using this
          have h2 : (listed.toList.drop L).count false ≤ listed.toList.count false := List.Sublist.count_le _ (List.drop_sublist _ _)
          rw [h1, List.count_replicate_self] at h2
          omega
        · by_cases hjL : j < L
          · rw [hall j hjL]; simp [hjL]
          · rw [hbeyond j (by omega) hj]; simp [hjL]
        · have hj0 := List.contains_iff_mem.1 hj
          have hj' := hnT j hj0
          exact hps j oj hj' hoj (hall j hj') (.inr hj0)
      · -- the least that has not come up may come up
        have hready : ∀ i, i ∈ Region.ready .any ops listed → i < L := by
          intro i hi
          obtain ⟨h1, h2, o, ho, hdep⟩ := mem_ready'.1 hi
          rcases Nat.lt_or_ge i L with h | h
          · exact h
          · exfalso
            by_cases hiL : i = L
            · subst hiL
              apply hall
              have : ∀ m j, i - j ≤ m → j < i → listed.getD j false = true := by
                intro m
                induction m with
                | zero => intro j h1 h2; omega
                | succ m ihm =>
                  intro j h1 h2
                  obtain ⟨k, ok, hjk, hkL, hok, hmem⟩ := sh.chain j h2
                  by_cases hkl : k = i
                  · subst hkl
                    rw [ho] at hok
                    injection hok with hok
                    subst hok
                    exact hdep j hmem
                  · exact hcl k ok hok (ihm k (by omega) (by omega)) j hmem
              exact fun j hj => this _ j (Nat.le_refl _) hj
            · have := hdep _ (sh.tail i o (by omega) ho)
              rw [hbeyond _ (by omega) (by omega)] at this
              cases this
        refine ⟨fun hr => ?_, fun i hi => ?_⟩
        · exfalso
          have hex : ∀ m, m < ops.size → (∀ j, j < m → listed.getD j false = true) → listed.getD m false = false → False := by
            intro m hm hlow hmf
            have : m ∈ Region.ready .any ops listed := mem_ready'.2 ⟨hm, by
              rw [getD_tf (by omega)]; exact hmf, ops[m], Array.getElem?_eq_getElem hm, fun j hj => hlow j (sh.back m _ (Array.getElem?_eq_getElem hm) j hj)⟩
            rw [hr] at this
            simp at this
          have hall2 : ∀ m, ∀ j, j < m → j < ops.size → listed.getD j false = true := by
            intro m
            induction m with
            | zero => intro j hj; omega
            | succ m ihm =>
              intro j hj hjs
              by_cases hjm : j < m
              · exact ihm j hjm hjs
              · obtain rfl : j = m := by omega
                rcases Bool.eq_false_or_eq_true (listed.getD j false) with h' | h'
                · exact h'
                · exact (hex j hjs (fun k hk => ihm k hk (by omega)) h').elim
          exact hall (fun j hj => hall2 (j + 1) j (by omega) (by omega))
        · have hiL := hready i hi
          obtain ⟨h1, h2, o, ho, hdep⟩ := mem_ready'.1 hi
          have his : i < listed.size := by omega
          have hcnt : (listed.setIfInBounds i true).toList.count false ≤ fuel := by
            rw [Array.toList_setIfInBounds, List.count_set (by simpa using his)]
            have hb : listed.toList[i]'(by simpa using his) = false := by
              rw [Array.getD_eq_getD_getElem?, Array.getElem?_eq_getElem his] at h2
              simpa using h2
            rw [hb]
            have : 0 < listed.toList.count false := List.count_pos_iff.2 (by rw [← hb]; exact List.getElem_mem _)
            simp only [show (false == false) = true from rfl, show (true == false) = false from rfl, if_true, Bool.false_eq_true, if_false]
            omega
          have hcl' : ∀ k ok, ops[k]? = some ok → (listed.setIfInBounds i true).getD k false = true → ∀ j ∈ depsOf ok, (listed.setIfInBounds i true).getD j false = true := by
            intro k ok hok hk j hj
            rw [getD_set his] at hk ⊢
            split
            · rfl
            · by_cases hik : i = k
              · subst hik
                rw [ho] at hok
                injection hok with hok
                subst hok
                exact hdep j hj
              · rw [if_neg hik] at hk
                exact hcl k ok hok hk j hj
          have hg := sh.guard i o hiL ho
          have hw : Region.wanted o (yielded ops a.tmps) = true := by simp [Region.wanted, hg]
          obtain ⟨gh, hps⟩ := hps
          unfold wpOp
          rw [ho]
          simp only [hw, if_true]
          left
          have hst' := StatesFrom.at_ L ops.toList 0 hstep i o hiL (by simpa using ho)
          rw [Nat.zero_add] at hst'
          have hw1 := hst' a gh w _ hag (by rw [← getD_tf his]; exact h2) (fun k hk ok hok j hj => hcl k ok hok hk j hj) hJ (fun j hj oj hoj => hps j oj (by have := sh.back i o ho j (hnd i o hiL ho j (List.contains_iff_mem.1 hj)); omega) hoj (hdep j (hnd i o hiL ho j (List.contains_iff_mem.1 hj))) (.inl ⟨i, hiL, by rw [← getD_tf his]; exact h2, List.contains_iff_mem.1 hj⟩))
          refine Oper.wp_mono (fun a' w' hk => ?_) (wp_calm (Q := Q) hg hw1)
          obtain ⟨v, rfl, hpv, hJ', hb⟩ := hk
          refine ih _ _ w' (by simpa using hs) hcnt hcl' ?_ (agree_put sh hiL ho hag v) (by rw [setD_listed his]; exact hJ') ⟨ghNew gh w.heap.size (cl i), fun j oj hj hoj hlj hal => ?_⟩
          · rw [getD_set his, if_neg (by omega)]; exact hL
          · rw [slot_put sh hag.size hiL hj ho hoj]
            by_cases hij : i = j
            · subst hij; rw [if_pos rfl]; exact hpv
            · rw [if_neg hij]
              rw [getD_set his, if_neg hij] at hlj
              have hbl := before_listed sh hbf hcl i o hiL ho hdep
              have h2f : listed.getD i false = false := by rw [← getD_tf his]; exact h2
              have hnb : i ∉ before j := fun hm => by
                have := before_listed sh hbf hcl j oj hj hoj (hcl j oj hoj hlj) i hm
                rw [h2f] at this; cases this
              have hal' : ((∃ m, m < L ∧ listed.getD m false = false ∧ j ∈ need m) ∨ j ∈ needT) ∧ aliveB L before need needT j i = true := by
                rcases hal with ⟨m, hm1, hm2, hm3⟩ | hT
                · rw [getD_set his] at hm2
                  by_cases him : i = m
                  · rw [if_pos him] at hm2; cases hm2
                  · rw [if_neg him] at hm2
                    exact ⟨.inl ⟨m, hm1, hm2, hm3⟩, alive_of hij hnb (.inl ⟨m, hm1, fun e => him e.symm, (fun hm => by rw [hbl m hm] at hm2; cases hm2), hm3⟩)⟩
                · exact ⟨.inr hT, alive_of hij hnb (.inr hT)⟩
              exact hst j i _ gh _ w w' hal'.2 (hps j oj hj hoj hlj hal'.1) ⟨_, hJ⟩ hb (fun b hb => if_pos hb)
  have hf : ∀ i, (Array.replicate ops.size false).getD i false = false := fun i => by
    rw [Array.getD_eq_getD_getElem?, Array.getElem?_replicate]
    split <;> rfl
  refine key ops.size _ a0 _ (by simp) (by simp) (fun i o _ h => ?_) (hf L) ⟨hn, rfl, fun _ _ => rfl⟩ (by rw [show (fun i => (Array.replicate ops.size false).getD i false) = (fun _ => false) from funext hf]; exact hJ0) ⟨fun _ => 0, fun i o _ _ h => ?_⟩
  · rw [hf i] at h; cases h
  · rw [hf i] at h; cases h
end
open Go.RowKit
section
variable {P : Program} {ops : Array Oper} {Q : Exit → Act → World → Prop}
def guardedB (ops : Array Oper) (L : Nat) (need : Nat → List Nat) : Bool := (List.range L).all fun i => match (ops[i]?).bind (·.guard) with | some (j, _) => (need i).contains j | none => true
theorem guarded_of {L : Nat} {need : Nat → List Nat} (h : guardedB ops L need = true) (i : Nat) (o : Oper) (hi : i < L) (ho : ops[i]? = some o) (j : Nat) (b : Bool) (hg : o.guard = some (j, b)) : j ∈ need i := by
  unfold guardedB at h
  have := List.all_eq_true.1 h i (List.mem_range.2 hi)
  rw [ho] at this
  simp only [Option.bind_some, hg] at this
  exact List.contains_iff_mem.1 this
theorem before_listedG {L n : Nat} (sh : ShapeG ops L n) {before : Nat → List Nat} (hbf : ∀ (m : Nat) (o : Oper), m < L → ops[m]? = some o → ∀ i ∈ before m, i ∈ depsOf o ∨ ∃ j ∈ depsOf o, i ∈ before j)
    {listed : Array Bool} (hcl : ∀ i o, ops[i]? = some o → listed.getD i false = true → ∀ j ∈ depsOf o, listed.getD j false = true) :
    ∀ (k : Nat) (o : Oper), k < L → ops[k]? = some o → (∀ j ∈ depsOf o, listed.getD j false = true) → ∀ i ∈ before k, listed.getD i false = true := by
  intro k
  induction k using Nat.strongRecOn with
  | ind k ih =>
    intro o hk ho hd i hi
    rcases hbf k o hk ho i hi with h | ⟨j, hj, hij⟩
    · exact hd i h
    · have hjk := sh.back k o ho j hj
      have hpos := sh.pos
      have hjo : ops[j]? = some (ops[j]'(by omega)) := Array.getElem?_eq_getElem (by omega)
      exact ih j hjk _ (by omega) hjo (hcl j _ hjo (hd j hj)) i hij
def GrowAtG (L n : Nat) (P : Program) (ops : Array Oper) (a0 : Act) (need : Nat → List Nat) (R : Nat → (Nat → Nat) → World → World → Prop) (J : World → Prop) (cl : Nat → Nat) (p : Nat → Value → (Nat → Nat) → World → Prop) (i : Nat) (o : Oper) : Prop :=
  ∀ (a : Act) (gh : Nat → Nat) (w : World), Agree L n ops a0 a → J w → (∀ j, (need i).contains j = true → ∀ oj, ops[j]? = some oj → p j (slotOf a oj) gh w) →
    wpList P #[bareO o] (GrownPost a o.dst J (fun v w' => p i v (ghNew gh w.heap.size (cl i)) w') (R i gh w)) [bareO o] a w
def GrowsG (L n : Nat) (P : Program) (ops : Array Oper) (a0 : Act) (need : Nat → List Nat) (R : Nat → (Nat → Nat) → World → World → Prop) (J : World → Prop) (cl : Nat → Nat) (p : Nat → Value → (Nat → Nat) → World → Prop) : Nat → Nat → List Oper → Prop
  | 0, _, _ => True
  | _ + 1, _, [] => True
  | m + 1, i, o :: l => GrowAtG L n P ops a0 need R J cl p i o ∧ GrowsG L n P ops a0 need R J cl p m (i + 1) l
theorem GrowsG.at_ {L n : Nat} {a0 : Act} {need : Nat → List Nat} {R : Nat → (Nat → Nat) → World → World → Prop} {J : World → Prop} {cl : Nat → Nat} {p : Nat → Value → (Nat → Nat) → World → Prop} (m : Nat) : ∀ (l : List Oper) (k : Nat), GrowsG L n P ops a0 need R J cl p m k l → ∀ (i : Nat) (o : Oper), i < m → l[i]? = some o → GrowAtG L n P ops a0 need R J cl p (k + i) o := by
  induction m with
  | zero => intro l k _ i o h; omega
  | succ m ih =>
    intro l k h i o hi ho
    match l, h with
    | [], _ => simp at ho
    | x :: l, h =>
      cases i with
      | zero => simp at ho; subst ho; exact h.1
      | succ i =>
        have := ih l (k + 1) h.2 i o (by omega) (by simpa using ho)
        rwa [show k + 1 + i = k + (i + 1) by omega] at this
theorem region_grownG {id n : Nat} {a0 : Act} {w0 : World} (L : Nat) (hm : P.follows .mixedOrders = true) (hn : a0.tmps.size = n) (hsh : shapeGB ops L n = true) (before need : Nat → List Nat) (needT : List Nat) (hneed : needB ops L before need needT = true) (R : Nat → (Nat → Nat) → World → World → Prop) (J : World → Prop) (cl : Nat → Nat) (p : Nat → Value → (Nat → Nat) → World → Prop) (hJ0 : J w0.drew)
    (hst : ∀ (i k : Nat) (v : Value) (gh gh' : Nat → Nat) (w w' : World), aliveB L before need needT i k = true → p i v gh w → J w → R k gh w w' → (∀ b, b < w.heap.size → gh' b = gh b) → p i v gh' w')
    (hgd : guardedB ops L need = true) (hgv : ∀ (i : Nat) (o : Oper), i < L → ops[i]? = some o → ∀ j b, o.guard = some (j, b) → ∀ v gh w, p j v gh w → v = .bool b)
    (hstep : GrowsG L n P ops a0 need R J cl p L 0 ops.toList)
    (hlast : ∀ (a : Act) (gh : Nat → Nat) (w : World), Agree L n ops a0 a → J w → (∀ j, needT.contains j = true → ∀ oj, ops[j]? = some oj → p j (slotOf a oj) gh w) →
      wpList P ops Q (ops.toList.drop L) a w) : (Code.region id ops true).wp P Q a0 w0 := by
  have sh := shapeG_of hsh
  obtain ⟨hnd, hnT, hbf⟩ := need_of hneed
  have hpos := sh.pos
  refine wp_region_any hm ?_
  have key : ∀ (fuel : Nat) (listed : Array Bool) (a : Act) (w : World), listed.size = ops.size → listed.toList.count false ≤ fuel →
      (∀ i o, ops[i]? = some o → listed.getD i false = true → ∀ j ∈ depsOf o, listed.getD j false = true) →
      listed.getD L false = false → Agree L n ops a0 a → J w → (∃ gh : Nat → Nat, ∀ i o, i < L → ops[i]? = some o → listed.getD i false = true → ((∃ m, m < L ∧ listed.getD m false = false ∧ i ∈ need m) ∨ i ∈ needT) → p i (slotOf a o) gh w) →
      wpAny P .any ops Q fuel listed a w := by
    intro fuel
    induction fuel with
    | zero =>
      intro listed a w hs hc hcl hL _ _ _
      exfalso
      have hLs : L < listed.size := by omega
      rw [Array.getD_eq_getD_getElem?, Array.getElem?_eq_getElem hLs] at hL
      have hm : false ∈ listed.toList := by
        rw [show false = listed[L] from by simpa using hL.symm]
        simp
      have := List.count_pos_iff.2 hm
      omega
    | succ fuel ih =>
      intro listed a w hs hc hcl hL hag hJ hps
      -- whoever stands behind L has not come up
      have hbeyond : ∀ k, L ≤ k → k < ops.size → listed.getD k false = false := by
        intro k
        induction k with
        | zero => intro h1 _; obtain rfl : L = 0 := by omega
                  exact hL
        | succ k ihk =>
          intro h1 h2
          by_cases hk : L = k + 1
          · rw [← hk]; exact hL
          · rcases Bool.eq_false_or_eq_true (listed.getD (k + 1) false) with h | h
            · have h3 := hcl (k + 1) _ (Array.getElem?_eq_getElem h2) h _ (sh.tail (k + 1) _ (by omega) (Array.getElem?_eq_getElem h2))
              rw [show k + 1 - 1 = k by omega, ihk (by omega) (by omega)] at h3
              cases h3
            · exact h
      by_cases hall : ∀ j, j < L → listed.getD j false = true
      · obtain ⟨gh, hps⟩ := hps
        refine any_tailG sh (fuel + 1) L listed a w hs (Nat.le_refl _) (by omega) ?_ (fun j hj => ?_) (hlast a gh w hag hJ (fun j hj oj hoj => ?_))
        · -- the fuel suffices
          have h1 : listed.toList.drop L = List.replicate (ops.size - L) false := by
            apply List.ext_getElem
            · simp [hs]
            · intro i h1 h2
              simp at h1
              have := hbeyond (L + i) (by omega) (by omega)
              rw [Array.getD_eq_getD_getElem?, Array.getElem?_eq_getElem (by omega)] at this
              simpa using this
          have h2 : (listed.toList.drop L).count false ≤ listed.toList.count false := List.Sublist.count_le _ (List.drop_sublist _ _)
          rw [h1, List.count_replicate_self] at h2
          omega
        · by_cases hjL : j < L
          · rw [hall j hjL]; simp [hjL]
          · rw [hbeyond j (by omega) hj]; simp [hjL]
        · have hj0 := List.contains_iff_mem.1 hj
          have hj' := hnT j hj0
          exact hps j oj hj' hoj (hall j hj') (.inr hj0)
      · -- the least that has not come up may come up
        have hready : ∀ i, i ∈ Region.ready .any ops listed → i < L := by
          intro i hi
          obtain ⟨h1, h2, o, ho, hdep⟩ := mem_ready'.1 hi
          rcases Nat.lt_or_ge i L with h | h
          · exact h
          · exfalso
            by_cases hiL : i = L
            · subst hiL
              apply hall
              have : ∀ m j, i - j ≤ m → j < i → listed.getD j false = true := by
                intro m
                induction m with
                | zero => intro j h1 h2; omega
                | succ m ihm =>
                  intro j h1 h2
                  obtain ⟨k, ok, hjk, hkL, hok, hmem⟩ := sh.chain j h2
                  by_cases hkl : k = i
                  · subst hkl
                    rw [ho] at hok
                    injection hok with hok
                    subst hok
                    exact hdep j hmem
                  · exact hcl k ok hok (ihm k (by omega) (by omega)) j hmem
              exact fun j hj => this _ j (Nat.le_refl _) hj
            · have := hdep _ (sh.tail i o (by omega) ho)
              rw [hbeyond _ (by omega) (by omega)] at this
              cases this
        refine ⟨fun hr => ?_, fun i hi => ?_⟩
        · exfalso
          have hex : ∀ m, m < ops.size → (∀ j, j < m → listed.getD j false = true) → listed.getD m false = false → False := by
            intro m hm hlow hmf
            have : m ∈ Region.ready .any ops listed := mem_ready'.2 ⟨hm, by
              rw [getD_tf (by omega)]; exact hmf, ops[m], Array.getElem?_eq_getElem hm, fun j hj => hlow j (sh.back m _ (Array.getElem?_eq_getElem hm) j hj)⟩
            rw [hr] at this
            simp at this
          have hall2 : ∀ m, ∀ j, j < m → j < ops.size → listed.getD j false = true := by
            intro m
            induction m with
            | zero => intro j hj; omega
            | succ m ihm =>
              intro j hj hjs
              by_cases hjm : j < m
              · exact ihm j hjm hjs
              · obtain rfl : j = m := by omega
                rcases Bool.eq_false_or_eq_true (listed.getD j false) with h' | h'
                · exact h'
                · exact (hex j hjs (fun k hk => ihm k hk (by omega)) h').elim
          exact hall (fun j hj => hall2 (j + 1) j (by omega) (by omega))
        · have hiL := hready i hi
          obtain ⟨h1, h2, o, ho, hdep⟩ := mem_ready'.1 hi
          have his : i < listed.size := by omega
          have hcnt : (listed.setIfInBounds i true).toList.count false ≤ fuel := by
            rw [Array.toList_setIfInBounds, List.count_set (by simpa using his)]
            have hb : listed.toList[i]'(by simpa using his) = false := by
              rw [Array.getD_eq_getD_getElem?, Array.getElem?_eq_getElem his] at h2
              simpa using h2
            rw [hb]
            have : 0 < listed.toList.count false := List.count_pos_iff.2 (by rw [← hb]; exact List.getElem_mem _)
            simp only [show (false == false) = true from rfl, show (true == false) = false from rfl, if_true, Bool.false_eq_true, if_false]
            omega
          have hcl' : ∀ k ok, ops[k]? = some ok → (listed.setIfInBounds i true).getD k false = true → ∀ j ∈ depsOf ok, (listed.setIfInBounds i true).getD j false = true := by
            intro k ok hok hk j hj
            rw [getD_set his] at hk ⊢
            split
            · rfl
            · by_cases hik : i = k
              · subst hik
                rw [ho] at hok
                injection hok with hok
                subst hok
                exact hdep j hj
              · rw [if_neg hik] at hk
                exact hcl k ok hok hk j hj
          obtain ⟨gh, hps⟩ := hps
          have hnd' := guarded_of hgd i o hiL ho
          have hw : Region.wanted o (yielded ops a.tmps) = true := by
            unfold Region.wanted
            cases hgu : o.guard with
            | none => rfl
            | some q =>
              obtain ⟨j, b⟩ := q
              have hjd := sh.guard i o hiL ho j b hgu
              have hji := sh.back i o ho j hjd
              have hjo : ops[j]? = some (ops[j]'(by omega)) := Array.getElem?_eq_getElem (by omega)
              obtain ⟨d, hd, _⟩ := sh.dst j _ (by omega) hjo
              have hv := hgv i o hiL ho j b hgu _ _ _ (hps j _ (by omega) hjo (hdep j hjd) (.inl ⟨i, hiL, by rw [← getD_tf his]; exact h2, hnd' j b hgu⟩))
              simp only
              rw [yielded_of hjo hd hv]
              simp
          unfold wpOp
          rw [ho]
          simp only [hw, if_true]
          left
          have hst' := GrowsG.at_ L ops.toList 0 hstep i o hiL (by simpa using ho)
          rw [Nat.zero_add] at hst'
          have hw1 := hst' a gh w hag hJ (fun j hj oj hoj => hps j oj (by have := sh.back i o ho j (hnd i o hiL ho j (List.contains_iff_mem.1 hj)); omega) hoj (hdep j (hnd i o hiL ho j (List.contains_iff_mem.1 hj))) (.inl ⟨i, hiL, by rw [← getD_tf his]; exact h2, List.contains_iff_mem.1 hj⟩))
          refine wp_bare (Oper.wp_mono (fun a' w' hk => ?_) (wp_calm (Q := Q) (o := bareO o) rfl hw1))
          obtain ⟨v, rfl, hpv, hJ', hb⟩ := hk
          refine ih _ _ w' (by simpa using hs) hcnt hcl' ?_ (agree_putG sh hiL ho hag v) hJ' ⟨ghNew gh w.heap.size (cl i), fun j oj hj hoj hlj hal => ?_⟩
          · rw [getD_set his, if_neg (by omega)]; exact hL
          · rw [slot_putG sh hag.size hiL hj ho hoj]
            by_cases hij : i = j
            · subst hij; rw [if_pos rfl]; exact hpv
            · rw [if_neg hij]
              rw [getD_set his, if_neg hij] at hlj
              have hbl := before_listedG sh hbf hcl i o hiL ho hdep
              have h2f : listed.getD i false = false := by rw [← getD_tf his]; exact h2
              have hnb : i ∉ before j := fun hm => by
                have := before_listedG sh hbf hcl j oj hj hoj (hcl j oj hoj hlj) i hm
                rw [h2f] at this; cases this
              have hal' : ((∃ m, m < L ∧ listed.getD m false = false ∧ j ∈ need m) ∨ j ∈ needT) ∧ aliveB L before need needT j i = true := by
                rcases hal with ⟨m, hm1, hm2, hm3⟩ | hT
                · rw [getD_set his] at hm2
                  by_cases him : i = m
                  · rw [if_pos him] at hm2; cases hm2
                  · rw [if_neg him] at hm2
                    exact ⟨.inl ⟨m, hm1, hm2, hm3⟩, alive_of hij hnb (.inl ⟨m, hm1, fun e => him e.symm, (fun hm => by rw [hbl m hm] at hm2; cases hm2), hm3⟩)⟩
                · exact ⟨.inr hT, alive_of hij hnb (.inr hT)⟩
              exact hst j i _ gh _ w w' hal'.2 (hps j oj hj hoj hlj hal'.1) hJ hb (fun b hb => if_pos hb)
  have hf : ∀ i, (Array.replicate ops.size false).getD i false = false := fun i => by
    rw [Array.getD_eq_getD_getElem?, Array.getElem?_replicate]
    split <;> rfl
  refine key ops.size _ a0 _ (by simp) (by simp) (fun i o _ h => ?_) (hf L) ⟨hn, rfl, fun _ _ => rfl⟩ hJ0 ⟨fun _ => 0, fun i o _ _ h => ?_⟩
  · rw [hf i] at h; cases h
  · rw [hf i] at h; cases h
def guardsLB (ops : Array Oper) (L : Nat) (Gs : List (Nat × Bool)) : Bool := (List.range L).all fun i => match (ops[i]?).bind (·.guard) with | some (j, b) => Gs.any (fun q => q.1 == j && q.2 == b) | none => true
theorem region_grownGL {id n : Nat} {a0 : Act} {w0 : World} (L : Nat) (hm : P.follows .mixedOrders = true) (hn : a0.tmps.size = n) (hsh : shapeGB ops L n = true) (before need : Nat → List Nat) (needT : List Nat) (hneed : needB ops L before need needT = true) (Gs : List (Nat × Bool)) (hgd : guardedB ops L need = true) (hGs : guardsLB ops L Gs = true) (R : Nat → (Nat → Nat) → World → World → Prop) (J : World → Prop) (cl : Nat → Nat) (p : Nat → Value → (Nat → Nat) → World → Prop) (hJ0 : J w0.drew)
    (hgv : AllP (fun q => ∀ v gh w, p q.1 v gh w → v = .bool q.2) Gs)
    (hst : ∀ (i k : Nat) (v : Value) (gh gh' : Nat → Nat) (w w' : World), aliveB L before need needT i k = true → p i v gh w → J w → R k gh w w' → (∀ b, b < w.heap.size → gh' b = gh b) → p i v gh' w')
    (hstep : GrowsG L n P ops a0 need R J cl p L 0 ops.toList)
    (hlast : ∀ (a : Act) (gh : Nat → Nat) (w : World), Agree L n ops a0 a → J w → (∀ j, needT.contains j = true → ∀ oj, ops[j]? = some oj → p j (slotOf a oj) gh w) →
      wpList P ops Q (ops.toList.drop L) a w) : (Code.region id ops true).wp P Q a0 w0 := by
  refine region_grownG L hm hn hsh before need needT hneed R J cl p hJ0 hst hgd (fun i o hi ho j b hg v gh w hp => ?_) hstep hlast
  unfold guardsLB at hGs
  have := List.all_eq_true.1 hGs i (List.mem_range.2 hi)
  rw [ho] at this
  simp only [Option.bind_some, hg] at this
  obtain ⟨q, hq, hq2⟩ := List.any_eq_true.1 this
  rw [Bool.and_eq_true, beq_iff_eq, beq_iff_eq] at hq2
  obtain ⟨rfl, rfl⟩ := hq2
  exact AllP.mem hgv q hq v gh w hp
end
end Go.Proofs.YteidpejjjphecaaGreatDoor
