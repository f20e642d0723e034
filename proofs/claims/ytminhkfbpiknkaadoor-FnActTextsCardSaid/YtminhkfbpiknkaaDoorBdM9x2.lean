/- Several texts in one: A law for regions that draw their order, whose operations make memory and change what is their own (append onto an own row). Over any program. The law of M9 for regions whose state depends on which operations have come (a row of the call's own that one of them appends to). Over any program. -/
import Derived.Test.YtminhkfbpiknkaaDoorBdM5x2
namespace Go.Proofs.YtminhkfbpiknkaaDoor
open Go.RowKit
section
variable {P : Program} {ops : Array Oper} {Q : Exit → Act → World → Prop}
def needB (ops : Array Oper) (L : Nat) (before need : Nat → List Nat) (needT : List Nat) : Bool :=
 ((List.range L).all (fun m => match ops[m]? with | some o => (need m).all (fun i => (depsOf o).contains i) && (before m).all (fun i => (depsOf o).contains i || (depsOf o).any (fun j => (before j).contains i)) | none => false)) && needT.all (fun i => decide (i < L))
def aliveB (L : Nat) (before need : Nat → List Nat) (needT : List Nat) (i k : Nat) : Bool :=
 (!(k == i) && !(before i).contains k) && ((List.range L).any (fun m => (!(m == k) && !(before k).contains m) && (need m).contains i) || needT.contains i)
theorem need_of {L : Nat} {before need : Nat → List Nat} {needT : List Nat} (h : needB ops L before need needT = true) :
  (∀ (m : Nat) (o : Oper), m < L → ops[m]? = some o → ∀ i ∈ need m, i ∈ depsOf o) ∧ (∀ i ∈ needT, i < L) ∧
  (∀ (m : Nat) (o : Oper), m < L → ops[m]? = some o → ∀ i ∈ before m, i ∈ depsOf o ∨ ∃ j ∈ depsOf o, i ∈ before j) := by
 unfold needB at h
 rw [Bool.and_eq_true, List.all_eq_true, List.all_eq_true] at h
 refine ⟨fun m o hm ho i hi => ?_, fun i hi => by simpa using h.2 i hi, fun m o hm ho i hi => ?_⟩
 ·have := h.1 m (List.mem_range.2 hm)
  rw [ho] at this
  rw [Bool.and_eq_true] at this
  exact List.contains_iff_mem.1 (List.all_eq_true.1 this.1 i hi)
 ·have := h.1 m (List.mem_range.2 hm)
  rw [ho] at this
  rw [Bool.and_eq_true] at this
  have h2 := List.all_eq_true.1 this.2 i hi
  rw [Bool.or_eq_true, List.any_eq_true] at h2
  rcases h2 with h2 | ⟨j, h2, h3⟩
  ·exact .inl (List.contains_iff_mem.1 h2)
  ·exact .inr ⟨j, h2, List.contains_iff_mem.1 h3⟩
theorem alive_of {L : Nat} {before need : Nat → List Nat} {needT : List Nat} {i k : Nat} (h1 : k ≠ i) (h2 : k ∉ before i) (h : (∃ m, m < L ∧ m ≠ k ∧ m ∉ before k ∧ i ∈ need m) ∨ i ∈ needT) : aliveB L before need needT i k = true := by
 unfold aliveB
 rw [Bool.and_eq_true, Bool.and_eq_true, Bool.or_eq_true]
 refine ⟨⟨by simpa using h1, by simpa using h2⟩, ?_⟩
 rcases h with ⟨m, h1, h2, h3, h4⟩ | h
 ·left
  rw [List.any_eq_true]
  exact ⟨m, List.mem_range.2 h1, by rw [Bool.and_eq_true, Bool.and_eq_true]; exact ⟨⟨by simpa using h2, by simpa using h3⟩, List.contains_iff_mem.2 h4⟩⟩
 ·exact .inr (List.contains_iff_mem.2 h)
theorem before_listed {L n : Nat} (sh : Shape ops L n) {before : Nat → List Nat} (hbf : ∀ (m : Nat) (o : Oper), m < L → ops[m]? = some o → ∀ i ∈ before m, i ∈ depsOf o ∨ ∃ j ∈ depsOf o, i ∈ before j)
  {listed : Array Bool} (hcl : ∀ i o, ops[i]? = some o → listed.getD i false = true → ∀ j ∈ depsOf o, listed.getD j false = true) :
  ∀ (k : Nat) (o : Oper), k < L → ops[k]? = some o → (∀ j ∈ depsOf o, listed.getD j false = true) → ∀ i ∈ before k, listed.getD i false = true := by
 intro k
 induction k using Nat.strongRecOn with
 | ind k ih =>
  intro o hk ho hd i hi
  rcases hbf k o hk ho i hi with h | ⟨j, hj, hij⟩
  ·exact hd i h
  ·have hjk := sh.back k o ho j hj
   have hpos := sh.pos
   have hjo : ops[j]? = some (ops[j]'(by omega)) := Array.getElem?_eq_getElem (by omega)
   exact ih j hjk _ (by omega) hjo (hcl j _ hjo (hd j hj)) i hij
def GrownPost (a : Act) (dst : Option Tmp) (J : World → Prop) (q : Value → World → Prop) (r : World → Prop) (e : Exit) (a' : Act) (w' : World) : Prop := e = .normal ∧ ∃ v, a' = a.put dst v ∧ q v w' ∧ J w' ∧ r w'
def GrowAt (L n : Nat) (P : Program) (ops : Array Oper) (a0 : Act) (need : Nat → List Nat) (R : Nat → (Nat → Nat) → World → World → Prop) (J : World → Prop) (cl : Nat → Nat) (p : Nat → Value → (Nat → Nat) → World → Prop) (i : Nat) (o : Oper) : Prop :=
 ∀ (a : Act) (gh : Nat → Nat) (w : World), Agree L n ops a0 a → J w → (∀ j, (need i).contains j = true → ∀ oj, ops[j]? = some oj → p j (slotOf a oj) gh w) →
  wpList P #[o] (GrownPost a o.dst J (fun v w' => p i v (ghNew gh w.heap.size (cl i)) w') (R i gh w)) [o] a w
def GrowsFrom (L n : Nat) (P : Program) (ops : Array Oper) (a0 : Act) (need : Nat → List Nat) (R : Nat → (Nat → Nat) → World → World → Prop) (J : World → Prop) (cl : Nat → Nat) (p : Nat → Value → (Nat → Nat) → World → Prop) : Nat → Nat → List Oper → Prop
 | 0, _, _ => True
 | _ + 1, _, [] => True
 | m + 1, i, o :: l => GrowAt L n P ops a0 need R J cl p i o ∧ GrowsFrom L n P ops a0 need R J cl p m (i + 1) l
theorem GrowsFrom.at_ {L n : Nat} {a0 : Act} {need : Nat → List Nat} {R : Nat → (Nat → Nat) → World → World → Prop} {J : World → Prop} {cl : Nat → Nat} {p : Nat → Value → (Nat → Nat) → World → Prop} (m : Nat) : ∀ (l : List Oper) (k : Nat), GrowsFrom L n P ops a0 need R J cl p m k l → ∀ (i : Nat) (o : Oper), i < m → l[i]? = some o → GrowAt L n P ops a0 need R J cl p (k + i) o := by
 induction m with
 | zero => intro l k _ i o h; omega
 | succ m ih =>
  intro l k h i o hi ho
  match l, h with
  | [], _ => simp at ho
  | x :: l, h =>
   cases i with
   | zero => simp at ho; subst ho; exact h.1
   | succ i =>
    have := ih l (k + 1) h.2 i o (by omega) (by simpa using ho)
    rwa [show k + 1 + i = k + (i + 1) by omega] at this
end
open Go.RowKit
section
variable {P : Program} {ops : Array Oper} {Q : Exit → Act → World → Prop}
def setD (d : Nat → Bool) (i : Nat) : Nat → Bool := fun j => if i = j then true else d j
theorem setD_self (d : Nat → Bool) (i : Nat) : setD d i i = true := if_pos rfl
theorem setD_ne {d : Nat → Bool} {i j : Nat} (h : i ≠ j) : setD d i j = d j := if_neg h
def ClosedD (ops : Array Oper) (d : Nat → Bool) : Prop := ∀ k, d k = true → ∀ ok, ops[k]? = some ok → ∀ j ∈ depsOf ok, d j = true
theorem ClosedD.not {d : Nat → Bool} (h : ClosedD ops d) {i k : Nat} (hi : d i = false) {ok : Oper} (hk : ops[k]? = some ok) (hd : (depsOf ok).contains i = true) : d k = false := by
  cases e : d k
  · rfl
  · have := h k e ok hk i (List.contains_iff_mem.1 hd)
    rw [hi] at this; cases this
theorem setD_listed {listed : Array Bool} {i : Nat} (hi : i < listed.size) : (fun j => (listed.setIfInBounds i true).getD j false) = setD (fun j => listed.getD j false) i := by
  funext j
  rw [getD_set hi]; rfl
def StateAt (L n : Nat) (P : Program) (ops : Array Oper) (a0 : Act) (need : Nat → List Nat) (R : Nat → (Nat → Nat) → World → World → Prop) (J : (Nat → Bool) → World → Prop) (cl : Nat → Nat) (p : Nat → Value → (Nat → Nat) → World → Prop) (i : Nat) (o : Oper) : Prop :=
  ∀ (a : Act) (gh : Nat → Nat) (w : World) (d : Nat → Bool), Agree L n ops a0 a → d i = false → ClosedD ops d → J d w → (∀ j, (need i).contains j = true → ∀ oj, ops[j]? = some oj → p j (slotOf a oj) gh w) →
    wpList P #[o] (GrownPost a o.dst (J (setD d i)) (fun v w' => p i v (ghNew gh w.heap.size (cl i)) w') (R i gh w)) [o] a w
def StatesFrom (L n : Nat) (P : Program) (ops : Array Oper) (a0 : Act) (need : Nat → List Nat) (R : Nat → (Nat → Nat) → World → World → Prop) (J : (Nat → Bool) → World → Prop) (cl : Nat → Nat) (p : Nat → Value → (Nat → Nat) → World → Prop) : Nat → Nat → List Oper → Prop
  | 0, _, _ => True
  | _ + 1, _, [] => True
  | m + 1, i, o :: l => StateAt L n P ops a0 need R J cl p i o ∧ StatesFrom L n P ops a0 need R J cl p m (i + 1) l
theorem StatesFrom.at_ {L n : Nat} {a0 : Act} {need : Nat → List Nat} {R : Nat → (Nat → Nat) → World → World → Prop} {J : (Nat → Bool) → World → Prop} {cl : Nat → Nat} {p : Nat → Value → (Nat → Nat) → World → Prop} (m : Nat) : ∀ (l : List Oper) (k : Nat), StatesFrom L n P ops a0 need R J cl p m k l → ∀ (i : Nat) (o : Oper), i < m → l[i]? = some o → StateAt L n P ops a0 need R J cl p (k + i) o := by
  induction m with
  | zero => intro l k _ i o h; omega
  | succ m ih =>
    intro l k h i o hi ho
    match l, h with
    | [], _ => simp at ho
    | x :: l, h =>
      cases i with
      | zero => simp at ho; subst ho; exact h.1
      | succ i =>
        have := ih l (k + 1) h.2 i o (by omega) (by simpa using ho)
        rwa [show k + 1 + i = k + (i + 1) by omega] at this
theorem region_state {id n : Nat} {a0 : Act} {w0 : World} (L : Nat) (hm : P.follows .mixedOrders = true) (hn : a0.tmps.size = n) (hsh : shapeB ops L n = true) (before need : Nat → List Nat) (needT : List Nat) (hneed : needB ops L before need needT = true) (R : Nat → (Nat → Nat) → World → World → Prop) (J : (Nat → Bool) → World → Prop) (cl : Nat → Nat) (p : Nat → Value → (Nat → Nat) → World → Prop) (hJ0 : J (fun _ => false) w0.drew)
    (hst : ∀ (i k : Nat) (v : Value) (gh gh' : Nat → Nat) (w w' : World), aliveB L before need needT i k = true → p i v gh w → (∃ d, J d w) → R k gh w w' → (∀ b, b < w.heap.size → gh' b = gh b) → p i v gh' w')
    (hstep : StatesFrom L n P ops a0 need R J cl p L 0 ops.toList)
    (hlast : ∀ (a : Act) (gh : Nat → Nat) (w : World) (d : Nat → Bool), Agree L n ops a0 a → (∀ j, j < L → d j = true) → J d w → (∀ j, needT.contains j = true → ∀ oj, ops[j]? = some oj → p j (slotOf a oj) gh w) →
      wpList P ops Q (ops.toList.drop L) a w) : (Code.region id ops true).wp P Q a0 w0 := by
  have sh := shape_of hsh
  obtain ⟨hnd, hnT, hbf⟩ := need_of hneed
  have hpos := sh.pos
  refine wp_region_any hm ?_
  have key : ∀ (fuel : Nat) (listed : Array Bool) (a : Act) (w : World), listed.size = ops.size → listed.toList.count false ≤ fuel →
      (∀ i o, ops[i]? = some o → listed.getD i false = true → ∀ j ∈ depsOf o, listed.getD j false = true) →
      listed.getD L false = false → Agree L n ops a0 a → J (fun i => listed.getD i false) w → (∃ gh : Nat → Nat, ∀ i o, i < L → ops[i]? = some o → listed.getD i false = true → ((∃ m, m < L ∧ listed.getD m false = false ∧ i ∈ need m) ∨ i ∈ needT) → p i (slotOf a o) gh w) →
      wpAny P .any ops Q fuel listed a w := by
    intro fuel
    induction fuel with
    | zero =>
      intro listed a w hs hc hcl hL _ _ _
      exfalso
      have hLs : L < listed.size := by omega
      rw [Array.getD_eq_getD_getElem?, Array.getElem?_eq_getElem hLs] at hL
      have hm : false ∈ listed.toList := by
        rw [show false = listed[L] from by simpa using hL.symm]
        simp
      have := List.count_pos_iff.2 hm
      omega
    | succ fuel ih =>
      intro listed a w hs hc hcl hL hag hJ hps
      -- whoever stands behind L has not come up
      have hbeyond : ∀ k, L ≤ k → k < ops.size → listed.getD k false = false := by
        intro k
        induction k with
        | zero => intro h1 _; obtain rfl : L = 0 := by omega
                  exact hL
        | succ k ihk =>
          intro h1 h2
          by_cases hk : L = k + 1
          · rw [← hk]; exact hL
          · rcases Bool.eq_false_or_eq_true (listed.getD (k + 1) false) with h | h
            · have h3 := hcl (k + 1) _ (Array.getElem?_eq_getElem h2) h _ (sh.tail (k + 1) _ (by omega) (Array.getElem?_eq_getElem h2))
              rw [show k + 1 - 1 = k by omega, ihk (by omega) (by omega)] at h3
              cases h3
            · exact h
      by_cases hall : ∀ j, j < L → listed.getD j false = true
      · obtain ⟨gh, hps⟩ := hps
        refine any_tail sh (fuel + 1) L listed a w hs (Nat.le_refl _) (by omega) ?_ (fun j hj => ?_) (hlast a gh w _ hag hall hJ (fun j hj oj hoj => ?_))
        · -- the fuel suffices
          have h1 : listed.toList.drop L = List.replicate (ops.size - L) false := by
            apply List.ext_getElem
            · simp [hs]
            · intro i h1 h2
              simp at h1
              have := hbeyond (L + i) (by omega) (by omega)
              rw [Array.getD_eq_getD_getElem?, Array.getElem?_eq_getElem (by omega)] at this
              simpa using this
          have h2 : (listed.toList.drop L).count false ≤ listed.toList.count false := List.Sublist.count_le _ (List.drop_sublist _ _)
          rw [h1, List.count_replicate_self] at h2
          omega
        · by_cases hjL : j < L
          · rw [hall j hjL]; simp [hjL]
          · rw [hbeyond j (by omega) hj]; simp [hjL]
        · have hj0 := List.contains_iff_mem.1 hj
          have hj' := hnT j hj0
          exact hps j oj hj' hoj (hall j hj') (.inr hj0)
      · -- the least that has not come up may come up
        have hready : ∀ i, i ∈ Region.ready .any ops listed → i < L := by
          intro i hi
          obtain ⟨h1, h2, o, ho, hdep⟩ := mem_ready'.1 hi
          rcases Nat.lt_or_ge i L with h | h
          · exact h
          · exfalso
            by_cases hiL : i = L
            · subst hiL
              apply hall
              have : ∀ m j, i - j ≤ m → j < i → listed.getD j false = true := by
                intro m
                induction m with
                | zero => intro j h1 h2; omega
                | succ m ihm =>
                  intro j h1 h2
                  obtain ⟨k, ok, hjk, hkL, hok, hmem⟩ := sh.chain j h2
                  by_cases hkl : k = i
                  · subst hkl
                    rw [ho] at hok
                    injection hok with hok
                    subst hok
                    exact hdep j hmem
                  · exact hcl k ok hok (ihm k (by omega) (by omega)) j hmem
              exact fun j hj => this _ j (Nat.le_refl _) hj
            · have := hdep _ (sh.tail i o (by omega) ho)
              rw [hbeyond _ (by omega) (by omega)] at this
              cases this
        refine ⟨fun hr => ?_, fun i hi => ?_⟩
        · exfalso
          have hex : ∀ m, m < ops.size → (∀ j, j < m → listed.getD j false = true) → listed.getD m false = false → False := by
            intro m hm hlow hmf
            have : m ∈ Region.ready .any ops listed := mem_ready'.2 ⟨hm, by
              rw [getD_tf (by omega)]; exact hmf, ops[m], Array.getElem?_eq_getElem hm, fun j hj => hlow j (sh.back m _ (Array.getElem?_eq_getElem hm) j hj)⟩
            rw [hr] at this
            simp at this
          have hall2 : ∀ m, ∀ j, j < m → j < ops.size → listed.getD j false = true := by
            intro m
            induction m with
            | zero => intro j hj; omega
            | succ m ihm =>
              intro j hj hjs
              by_cases hjm : j < m
              · exact ihm j hjm hjs
              · obtain rfl : j = m := by omega
                rcases Bool.eq_false_or_eq_true (listed.getD j false) with h' | h'
                · exact h'
                · exact (hex j hjs (fun k hk => ihm k hk (by omega)) h').elim
          exact hall (fun j hj => hall2 (j + 1) j (by omega) (by omega))
        · have hiL := hready i hi
          obtain ⟨h1, h2, o, ho, hdep⟩ := mem_ready'.1 hi
          have his : i < listed.size := by omega
          have hcnt : (listed.setIfInBounds i true).toList.count false ≤ fuel := by
            rw [Array.toList_setIfInBounds, List.count_set (by simpa using his)]
            have hb : listed.toList[i]'(by simpa using his) = false := by
              rw [Array.getD_eq_getD_getElem?, Array.getElem?_eq_getElem his] at h2
              simpa using h2
            rw [hb]
            have : 0 < listed.toList.count false := List.count_pos_iff.2 (by rw [← hb]; exact List.getElem_mem _)
            simp only [show (false == false) = true from rfl, show (true == false) = false from rfl, if_true, Bool.false_eq_true, if_false]
            omega
          have hcl' : ∀ k ok, ops[k]? = some ok → (listed.setIfInBounds i true).getD k false = true → ∀ j ∈ depsOf ok, (listed.setIfInBounds i true).getD j false = true := by
            intro k ok hok hk j hj
            rw [getD_set his] at hk ⊢
            split
            · rfl
            · by_cases hik : i = k
              · subst hik
                rw [ho] at hok
                injection hok with hok
                subst hok
                exact hdep j hj
              · rw [if_neg hik] at hk
                exact hcl k ok hok hk j hj
          have hg := sh.guard i o hiL ho
          have hw : Region.wanted o (yielded ops a.tmps) = true := by simp [Region.wanted, hg]
          obtain ⟨gh, hps⟩ := hps
          unfold wpOp
          rw [ho]
          simp only [hw, if_true]
          left
          have hst' := StatesFrom.at_ L ops.toList 0 hstep i o hiL (by simpa using ho)
          rw [Nat.zero_add] at hst'
          have hw1 := hst' a gh w _ hag (by rw [← getD_tf his]; exact h2) (fun k hk ok hok j hj => hcl k ok hok hk j hj) hJ (fun j hj oj hoj => hps j oj (by have := sh.back i o ho j (hnd i o hiL ho j (List.contains_iff_mem.1 hj)); omega) hoj (hdep j (hnd i o hiL ho j (List.contains_iff_mem.1 hj))) (.inl ⟨i, hiL, by rw [← getD_tf his]; exact h2, List.contains_iff_mem.1 hj⟩))
          refine Oper.wp_mono (fun a' w' hk => ?_) (wp_calm (Q := Q) hg hw1)
          obtain ⟨v, rfl, hpv, hJ', hb⟩ := hk
          refine ih _ _ w' (by simpa using hs) hcnt hcl' ?_ (agree_put sh hiL ho hag v) (by rw [setD_listed his]; exact hJ') ⟨ghNew gh w.heap.size (cl i), fun j oj hj hoj hlj hal => ?_⟩
          · rw [getD_set his, if_neg (by omega)]; exact hL
          · rw [slot_put sh hag.size hiL hj ho hoj]
            by_cases hij : i = j
            · subst hij; rw [if_pos rfl]; exact hpv
            · rw [if_neg hij]
              rw [getD_set his, if_neg hij] at hlj
              have hbl := before_listed sh hbf hcl i o hiL ho hdep
              have h2f : listed.getD i false = false := by rw [← getD_tf his]; exact h2
              have hnb : i ∉ before j := fun hm => by
                have := before_listed sh hbf hcl j oj hj hoj (hcl j oj hoj hlj) i hm
                rw [h2f] at this; cases this
              have hal' : ((∃ m, m < L ∧ listed.getD m false = false ∧ j ∈ need m) ∨ j ∈ needT) ∧ aliveB L before need needT j i = true := by
                rcases hal with ⟨m, hm1, hm2, hm3⟩ | hT
                · rw [getD_set his] at hm2
                  by_cases him : i = m
                  · rw [if_pos him] at hm2; cases hm2
                  · rw [if_neg him] at hm2
                    exact ⟨.inl ⟨m, hm1, hm2, hm3⟩, alive_of hij hnb (.inl ⟨m, hm1, fun e => him e.symm, (fun hm => by rw [hbl m hm] at hm2; cases hm2), hm3⟩)⟩
                · exact ⟨.inr hT, alive_of hij hnb (.inr hT)⟩
              exact hst j i _ gh _ w w' hal'.2 (hps j oj hj hoj hlj hal'.1) ⟨_, hJ⟩ hb (fun b hb => if_pos hb)
  have hf : ∀ i, (Array.replicate ops.size false).getD i false = false := fun i => by
    rw [Array.getD_eq_getD_getElem?, Array.getElem?_replicate]
    split <;> rfl
  refine key ops.size _ a0 _ (by simp) (by simp) (fun i o _ h => ?_) (hf L) ⟨hn, rfl, fun _ _ => rfl⟩ (by rw [show (fun i => (Array.replicate ops.size false).getD i false) = (fun _ => false) from funext hf]; exact hJ0) ⟨fun _ => 0, fun i o _ _ h => ?_⟩
  · rw [hf i] at h; cases h
  · rw [hf i] at h; cases h
end
end Go.Proofs.YtminhkfbpiknkaaDoor
