/- Several texts in one: Contracts: LiftControl. Written by a program (gen_k1.py). Contracts: TiltArm. Written by a program (gen_k12.py). Controls in plain words: pulls, joints held, lifting and tilting. No program in sight. -/
import Derived.Deep.DeepCutAuto
import Derived.Test.YtomghkfkbpkbdaaBdCPBodyx2
import Derived.Test.YtomghkfkbpkbdaaBdC1x8
namespace Go.Proofs.Ytomghkfkbpkbdaa
open Go.RowKit
def liftB (ht b : Int) : Bool := (inB ht (-500) 500 && inB b (-500) 500) && inB (ht + b) 0 500
def liftH (ht b : Int) : Int := if liftB ht b = true then ht + b else ht
theorem lift_f1 {ht b : Int} (h : inB ht (-500) 500 = false) : liftB ht b = false := by rw [liftB, h]; rfl
theorem lift_f2 {ht b : Int} (h : inB b (-500) 500 = false) : liftB ht b = false := by rw [liftB, h, Bool.and_false]; rfl
theorem lift_f3 {ht b : Int} (h : inB (ht + b) 0 500 = false) : liftB ht b = false := by rw [liftB, h, Bool.and_false]
theorem lift_t {ht b : Int} (h1 : inB ht (-500) 500 = true) (h2 : inB b (-500) 500 = true) (h3 : inB (ht + b) 0 500 = true) : liftB ht b = true := by rw [liftB, h1, h2, h3]; rfl
end Go.Proofs.Ytomghkfkbpkbdaa

namespace Go.Proofs.Ytomghkfkbpkbdaa
open Go.RowKit
def tiltOk (d : List Int) (a b : Int) : Bool := ((inB a 0 (d.length - 1) && inB b (-50) 50) && decide (d.length ≤ 8)) && allB (-50) 50 d
def tiltN (d : List Int) (i : Nat) (b : Int) : List Int := (d.set i (d.getD i 0 + b)).set (d.length - 1 - i) (d.getD (d.length - 1 - i) 0 - b)
def tiltF (d : List Int) (a b : Int) : List Int × Bool :=
  if tiltOk d a b = true then (if d.length - 1 - a.toNat = a.toNat then (d, true) else if allB (-50) 50 (tiltN d a.toNat b) = true then (tiltN d a.toNat b, true) else (d, false)) else (d, false)
theorem tilt_ok {d : List Int} {a b : Int} (h : tiltOk d a b = true) : inB a 0 (d.length - 1) = true ∧ inB b (-50) 50 = true ∧ d.length ≤ 8 ∧ allB (-50) 50 d = true := by
  rw [tiltOk, Bool.and_eq_true, Bool.and_eq_true, Bool.and_eq_true, decide_eq_true_iff] at h
  exact ⟨h.1.1.1, h.1.1.2, h.1.2, h.2⟩
theorem tilt_f1 {d : List Int} {a b : Int} (h : inB a 0 (d.length - 1) = false) : tiltOk d a b = false := by rw [tiltOk, h]; rfl
theorem tilt_f2 {d : List Int} {a b : Int} (h : inB b (-50) 50 = false) : tiltOk d a b = false := by rw [tiltOk, h, Bool.and_false]; rfl
theorem tilt_f3 {d : List Int} {a b : Int} (h : ¬ d.length ≤ 8) : tiltOk d a b = false := by rw [tiltOk, decide_eq_false h, Bool.and_false]; rfl
theorem tilt_f4 {d : List Int} {a b : Int} (h : allB (-50) 50 d = false) : tiltOk d a b = false := by rw [tiltOk, h, Bool.and_false]
theorem tilt_all {d : List Int} {a b : Int} (h1 : inB a 0 (d.length - 1) = true) (h2 : inB b (-50) 50 = true) (h3 : d.length ≤ 8) (h4 : allB (-50) 50 d = true) : tiltOk d a b = true := by rw [tiltOk, h1, h2, h4, decide_eq_true h3]; rfl
theorem tiltN_len (d : List Int) (i : Nat) (b : Int) : (tiltN d i b).length = d.length := by simp [tiltN]
theorem allB_at {a b : Int} {l : List Int} (h : allB a b l = true) {k : Nat} (hk : k < l.length) : a ≤ l[k] ∧ l[k] ≤ b := inB_iff.1 (List.all_eq_true.1 h _ (List.getElem_mem hk))
theorem flat_setI (l : List Int) (k : Nat) (x : Int) : (l.flatMap cInt).set k (.int .i64 x) = (l.set k x).flatMap cInt := by
  induction l generalizing k with
  | nil => rfl
  | cons a l ih =>
    cases k with
    | zero => rfl
    | succ k =>
      rw [List.flatMap_cons, List.set_cons_succ, List.flatMap_cons]
      show (Value.int .i64 a :: (l.flatMap cInt)).set (k + 1) _ = Value.int .i64 a :: ((l.set k x).flatMap cInt)
      rw [List.set_cons_succ, ih]
/-- a row of numbers after a store -/
theorem own_setI {w : World} {B g c : Nat} {l : List Int} (h : w.ownsRow B 3 1 (.slice (some ⟨g, 0, none⟩) l.length c) l.length (l.flatMap cInt)) (k : Nat) (x : Int) :
    (w.setCell ⟨g, k, none⟩ (.int .i64 x)).ownsRow B 3 1 (.slice (some ⟨g, 0, none⟩) (l.set k x).length c) (l.set k x).length ((l.set k x).flatMap cInt) := by
  have := (h.stored k (.int .i64 x)).1
  rw [flat_setI] at this
  rw [List.length_set]
  exact this
theorem getD_at {l : List Int} {k : Nat} (h : k < l.length) : l.getD k 0 = l[k] := by rw [List.getD_eq_getElem?_getD, List.getElem?_eq_getElem h]; rfl
theorem flat_getI (l : List Int) (k : Nat) (h : k < l.length) : (l.flatMap cInt)[k]? = some (.int .i64 l[k]) := by
  have := get_flat cInt_len l k h 0 (by omega)
  rw [Nat.mul_one, Nat.add_zero] at this
  exact this
theorem within_t {n a b : Int} {w : World} (h : inB n a b = true) : Calls Try.prog 33 #[.int .i64 n, .int .i64 a, .int .i64 b] w fun e w' => e = .returned (.bool true) ∧ w = w' := h ▸ within_any n a b w
theorem allWithin_t {v : Value} {l : List Int} {a b : Int} {w : World} (hr : RdL cInt 1 w v l) (h : allB a b l = true) : Calls Try.prog 91 #[v, .int .i64 a, .int .i64 b] w fun e w' => e = .returned (.bool true) ∧ w = w' := h ▸ allWithin_any v l a b w hr
end Go.Proofs.Ytomghkfkbpkbdaa

namespace Go.Proofs.Ytomghkfkbpkbdaa
open Go.RowKit
/-- A control as it is drawn, for n joints: all numbers are small. -/
structure CtlOk (n : Nat) (ht : Int) (d1 : List Int) (d2 : List RCord) : Prop where
  ht : 20 ≤ ht ∧ ht ≤ 99
  arms : 1 ≤ d1.length ∧ d1.length ≤ 5
  arm : ∀ x ∈ d1, -10 ≤ x ∧ x ≤ 10
  len : d2.length ≤ 12
  cord : ∀ t ∈ d2, (0 ≤ t.1 ∧ t.1 < d1.length) ∧ (0 ≤ t.2.1 ∧ t.2.1 < n) ∧ 0 ≤ t.2.2 ∧ t.2.2 ≤ 59
  once : d2.Pairwise (fun a b => a.2.1 ≠ b.2.1)
def pullV (ht : Int) (d1 : List Int) (t : RCord) : Int := if ht + d1.getD t.1.toNat 0 - t.2.2 < 0 then 0 else ht + d1.getD t.1.toNat 0 - t.2.2
def pullTo (ht : Int) (d1 : List Int) (d2 : List RCord) (j : Nat) : Int := d2.foldl (fun x t => if t.2.1 = (j : Int) then pullV ht d1 t else x) (-1)
def pullsL (ht : Int) (d1 : List Int) (d2 : List RCord) (n : Nat) : List Int := (List.range n).map (fun j => pullTo ht d1 d2 j)
theorem pullsL_len (ht : Int) (d1 : List Int) (d2 : List RCord) (n : Nat) : (pullsL ht d1 d2 n).length = n := by simp [pullsL]
theorem pullsL_get {ht : Int} {d1 : List Int} {d2 : List RCord} {n : Nat} {j : Nat} (h : j < (pullsL ht d1 d2 n).length) : (pullsL ht d1 d2 n)[j] = pullTo ht d1 d2 j := by simp [pullsL]
theorem pullsL_nil (ht : Int) (d1 : List Int) (n : Nat) : pullsL ht d1 [] n = List.replicate n (-1) := by
  apply List.ext_getElem
  · simp [pullsL]
  · intro i h1 h2; rw [pullsL_get h1]; simp [pullTo]
theorem pullsL_snoc {ht : Int} {d1 : List Int} {d2 : List RCord} {n k j : Nat} (hk : k < d2.length) (hj : d2[k].2.1 = (j : Int)) :
    (pullsL ht d1 (d2.take k) n).set j (pullV ht d1 d2[k]) = pullsL ht d1 (d2.take (k + 1)) n := by
  apply List.ext_getElem
  · simp [pullsL]
  · intro i h1 h2
    rw [List.getElem_set, pullsL_get h2, pullTo, foldl_take_succ _ _ _ hk]
    by_cases e : j = i
    · subst e; rw [if_pos rfl, if_pos hj]
    · rw [if_neg e, if_neg (by omega), pullsL_get (by simpa [pullsL] using h2)]; rfl
def heldB (d2 : List RCord) (j : Nat) : Bool := d2.any (fun t => decide (t.2.1 = (j : Int)))
def heldL (d2 : List RCord) (m : Nat) : List Int := ((List.range m).filter (fun j => heldB d2 j)).map (fun j : Nat => (j : Int))
theorem heldL_t {d2 : List RCord} {m : Nat} (h : heldB d2 m = true) : heldL d2 (m + 1) = heldL d2 m ++ [(m : Int)] := by
  unfold heldL; rw [List.range_succ, List.filter_append, List.map_append]; simp [h]
theorem heldL_f {d2 : List RCord} {m : Nat} (h : heldB d2 m = false) : heldL d2 (m + 1) = heldL d2 m := by
  unfold heldL; rw [List.range_succ, List.filter_append, List.map_append]; simp [h]
theorem heldL_le (d2 : List RCord) (m : Nat) : (heldL d2 m).length ≤ m := by
  unfold heldL; rw [List.length_map]; exact Nat.le_trans (List.length_filter_le _ _) (by simp)
theorem heldL_mem {d2 : List RCord} {m j : Nat} (hj : j < m) : (j : Int) ∈ heldL d2 m ↔ heldB d2 j = true := by
  unfold heldL
  rw [List.mem_map]
  constructor
  · rintro ⟨i, hi, e⟩
    obtain rfl : i = j := by omega
    exact (List.mem_filter.1 hi).2
  · intro h; exact ⟨j, List.mem_filter.2 ⟨List.mem_range.2 hj, h⟩, rfl⟩
theorem heldL_len {n m : Nat} {ht : Int} {d1 : List Int} {d2 : List RCord} (h : CtlOk n ht d1 d2) (hn : n ≤ m) : (heldL d2 m).length = d2.length := by
  have hp : ((List.range m).filter (fun j => heldB d2 j)).Perm (d2.map (fun t => t.2.1.toNat)) := by
    have hd : (d2.map (fun t => t.2.1.toNat)).Nodup := by
      rw [List.nodup_iff_pairwise_ne, List.pairwise_map]
      refine List.Pairwise.imp_of_mem ?_ h.once
      intro a b ha hb hab e
      have := (h.cord a ha).2.1
      have := (h.cord b hb).2.1
      omega
    rw [List.perm_ext_iff_of_nodup (List.nodup_iff_pairwise_ne.2 (List.Pairwise.filter _ (List.nodup_iff_pairwise_ne.1 List.nodup_range))) hd]
    intro j
    rw [List.mem_filter, List.mem_map, List.mem_range]
    unfold heldB
    rw [List.any_eq_true]
    constructor
    · rintro ⟨_, t, ht', e⟩
      have e := of_decide_eq_true e
      exact ⟨t, ht', by omega⟩
    · rintro ⟨t, ht', rfl⟩
      have := (h.cord t ht').2.1
      exact ⟨by omega, t, ht', decide_eq_true (by omega)⟩
  unfold heldL
  rw [List.length_map, hp.length_eq, List.length_map]
theorem pullV_bd {n : Nat} {ht : Int} {d1 : List Int} {d2 : List RCord} (h : CtlOk n ht d1 d2) {t : RCord} (ht' : t ∈ d2) :
    0 ≤ pullV ht d1 t ∧ pullV ht d1 t ≤ 200 ∧ ∀ b : Int, 0 ≤ b → pullV ht d1 t ≤ pullV (ht + b) d1 t ∧ pullV (ht + b) d1 t ≤ pullV ht d1 t + b ∧ (0 < pullV ht d1 t → pullV (ht + b) d1 t = pullV ht d1 t + b) := by
  have hc := h.cord t ht'
  have hi : t.1.toNat < d1.length := by omega
  have ha := h.arm _ (List.getElem_mem hi)
  have hh := h.ht
  unfold pullV
  rw [getD_at hi]
  generalize d1[t.1.toNat] = a at *
  refine ⟨?_, ?_, fun b hb => ?_⟩
  · split <;> omega
  · split <;> omega
  · split <;> split <;> omega
/-- The pull of a joint: held or not, before and behind a lift. -/
theorem pull_law {n : Nat} {ht : Int} {d1 : List Int} {d2 : List RCord} (h : CtlOk n ht d1 d2) (j : Nat) (b : Int) (hb : 0 ≤ b) (m : Nat) (hm : m ≤ d2.length) :
    (pullTo ht d1 (d2.take m) j = -1 ∧ pullTo (ht + b) d1 (d2.take m) j = -1 ∧ heldB (d2.take m) j = false) ∨
    (0 ≤ pullTo ht d1 (d2.take m) j ∧ pullTo ht d1 (d2.take m) j ≤ 200 ∧ pullTo ht d1 (d2.take m) j ≤ pullTo (ht + b) d1 (d2.take m) j ∧ pullTo (ht + b) d1 (d2.take m) j ≤ pullTo ht d1 (d2.take m) j + b ∧ (0 < pullTo ht d1 (d2.take m) j → pullTo (ht + b) d1 (d2.take m) j = pullTo ht d1 (d2.take m) j + b) ∧ heldB (d2.take m) j = true) := by
  induction m with
  | zero => exact .inl ⟨rfl, rfl, rfl⟩
  | succ m ih =>
    have hlt : m < d2.length := by omega
    have ih := ih (by omega)
    have e : ∀ x : Int, pullTo x d1 (d2.take (m + 1)) j = if d2[m].2.1 = (j : Int) then pullV x d1 d2[m] else pullTo x d1 (d2.take m) j := fun x => by
      unfold pullTo; rw [foldl_take_succ _ _ _ hlt]
    have e2 : heldB (d2.take (m + 1)) j = (heldB (d2.take m) j || decide (d2[m].2.1 = (j : Int))) := by
      unfold heldB; rw [take_snoc_l d2 hlt, List.any_append]; simp
    have hv := pullV_bd h (List.getElem_mem hlt)
    rw [e, e, e2]
    by_cases hj : d2[m].2.1 = (j : Int)
    · rw [if_pos hj, if_pos hj, decide_eq_true hj, Bool.or_true]
      have := hv.2.2 b hb
      exact .inr ⟨hv.1, hv.2.1, this.1, this.2.1, this.2.2, rfl⟩
    · rw [if_neg hj, if_neg hj, decide_eq_false hj, Bool.or_false]
      exact ih
theorem ctl_lift {n : Nat} {ht : Int} {d1 : List Int} {d2 : List RCord} (h : CtlOk n ht d1 d2) {b : Int} (hb : 0 ≤ b ∧ b ≤ 19) : liftB ht b = true ∧ liftH ht b = ht + b := by
  have hh := h.ht
  have h1 : liftB ht b = true := lift_t (inB_iff.2 ⟨by omega, by omega⟩) (inB_iff.2 ⟨by omega, by omega⟩) (inB_iff.2 ⟨by omega, by omega⟩)
  exact ⟨h1, by rw [liftH, h1]; rfl⟩
theorem sum_set {l : List Int} {i : Nat} (x : Int) (h : i < l.length) : (l.set i x).sum = l.sum - l[i] + x := by
  induction l generalizing i with
  | nil => simp at h
  | cons a l ih =>
    cases i with
    | zero => simp; omega
    | succ i =>
      have := ih (i := i) (by simpa using h)
      simp only [List.set_cons_succ, List.sum_cons, List.getElem_cons_succ, this]
      omega
theorem getD_set0 (l : List Int) (k : Nat) (x : Int) (hk : k < l.length) (j : Nat) : (l.set k x).getD j 0 = if k = j then x else l.getD j 0 := by
  by_cases e : k = j
  · subst e; rw [if_pos rfl, List.getD_eq_getElem?_getD, List.getElem?_set_self hk]; rfl
  · rw [if_neg e, List.getD_eq_getElem?_getD, List.getElem?_set_ne e, List.getD_eq_getElem?_getD]
theorem ext_getD {a b : List Int} (hl : a.length = b.length) (h : ∀ k, k < a.length → a.getD k 0 = b.getD k 0) : a = b := by
  apply List.ext_getElem hl
  intro k h1 h2
  rw [← getD_at h1, ← getD_at h2]; exact h k h1
theorem tiltN_getD {d : List Int} {i : Nat} {b : Int} (hi : i < d.length) (k : Nat) :
    (tiltN d i b).getD k 0 = if d.length - 1 - i = k then d.getD k 0 - b else if i = k then d.getD k 0 + b else d.getD k 0 := by
  unfold tiltN
  rw [getD_set0 _ _ _ (by rw [List.length_set]; omega), getD_set0 _ _ _ hi]
  by_cases h1 : d.length - 1 - i = k
  · rw [if_pos h1, if_pos h1, h1]
  · rw [if_neg h1, if_neg h1]
    by_cases h2 : i = k
    · rw [if_pos h2, if_pos h2, h2]
    · rw [if_neg h2, if_neg h2]
theorem sum_setD {l : List Int} {i : Nat} (x : Int) (h : i < l.length) : (l.set i x).sum = l.sum - l.getD i 0 + x := by rw [sum_set x h, getD_at h]
theorem tiltN_sum {d : List Int} {i : Nat} {b : Int} (hi : i < d.length) (hne : d.length - 1 - i ≠ i) : (tiltN d i b).sum = d.sum := by
  unfold tiltN
  rw [sum_setD _ (by rw [List.length_set]; omega), sum_setD _ hi, getD_set0 _ _ _ hi, if_neg (fun e => hne e.symm)]
  omega
theorem tiltN_back {d : List Int} {i : Nat} {b : Int} (hi : i < d.length) (hne : d.length - 1 - i ≠ i) : tiltN (tiltN d i b) i (-b) = d := by
  refine ext_getD (by rw [tiltN_len, tiltN_len]) (fun k _ => ?_)
  rw [tiltN_getD (by rw [tiltN_len]; exact hi), tiltN_len, tiltN_getD hi]
  split
  · omega
  · split <;> omega
theorem allB_of {a b : Int} {l : List Int} (h : ∀ x ∈ l, a ≤ x ∧ x ≤ b) : allB a b l = true := List.all_eq_true.2 (fun x hx => inB_iff.2 (h x hx))
theorem tiltN_all {d : List Int} {i : Nat} {b : Int} (h : ∀ x ∈ d, -10 ≤ x ∧ x ≤ 10) (hb : -3 ≤ b ∧ b ≤ 3) (hi : i < d.length) (hne : d.length - 1 - i ≠ i) : ∀ x ∈ tiltN d i b, -13 ≤ x ∧ x ≤ 13 := by
  intro x hx
  obtain ⟨k, hk, rfl⟩ := List.mem_iff_getElem.1 hx
  have hk' : k < d.length := by rwa [tiltN_len] at hk
  rw [← getD_at hk, tiltN_getD hi, getD_at hk']
  have := h _ (List.getElem_mem hk')
  split
  · omega
  · split <;> omega
/-- Tilting there and back: nothing is lost, the sum stays. -/
theorem tilt_law {n : Nat} {ht : Int} {d1 : List Int} {d2 : List RCord} (h : CtlOk n ht d1 d2) {a : Nat} (ha : a < d1.length) :
    ∃ d' : List Int, tiltF d1 a 3 = (d', true) ∧ d'.length = d1.length ∧ d'.sum = d1.sum ∧ (∀ x ∈ d', -13 ≤ x ∧ x ≤ 13) ∧ tiltF d' a (-3) = (d1, true) := by
  have hl := h.arms
  have hin : ∀ m : Nat, m = d1.length → inB a 0 ((m : Int) - 1) = true := fun m hm => inB_iff.2 ⟨by omega, by omega⟩
  have hb : inB 3 (-50) 50 = true := rfl
  have hb' : inB (-3) (-50) 50 = true := rfl
  have hok : tiltOk d1 a 3 = true := tilt_all (hin _ rfl) hb (by omega) (allB_of (fun x hx => by have := h.arm x hx; omega))
  by_cases hne : d1.length - 1 - a = a
  · refine ⟨d1, ?_, rfl, rfl, fun x hx => by have := h.arm x hx; omega, ?_⟩
    · rw [tiltF, if_pos hok, show ((a : Int)).toNat = a from rfl, if_pos hne]
    · have hok2 : tiltOk d1 a (-3) = true := tilt_all (hin _ rfl) hb' (by omega) (allB_of (fun x hx => by have := h.arm x hx; omega))
      rw [tiltF, if_pos hok2, show ((a : Int)).toNat = a from rfl, if_pos hne]
  · have hN := tiltN_all (b := 3) h.arm (by omega) ha hne
    have hlen := tiltN_len d1 a 3
    have hback : tiltN (tiltN d1 a 3) a (-3) = d1 := tiltN_back (b := 3) ha hne
    refine ⟨tiltN d1 a 3, ?_, hlen, tiltN_sum ha hne, hN, ?_⟩
    · rw [tiltF, if_pos hok, show ((a : Int)).toNat = a from rfl, if_neg hne, if_pos (allB_of (fun x hx => by have := hN x hx; omega))]
    · have hok2 : tiltOk (tiltN d1 a 3) a (-3) = true := tilt_all (hin _ hlen) hb' (by omega) (allB_of (fun x hx => by have := hN x hx; omega))
      rw [tiltF, if_pos hok2, show ((a : Int)).toNat = a from rfl, if_neg (by rw [hlen]; exact hne), hback, if_pos (allB_of (fun x hx => by have := h.arm x hx; omega))]
end Go.Proofs.Ytomghkfkbpkbdaa
