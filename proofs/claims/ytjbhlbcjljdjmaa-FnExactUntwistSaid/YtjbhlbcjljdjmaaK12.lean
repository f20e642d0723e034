/- Contracts: TiltArm. Written by a program (gen_k12.py). -/
import Derived.Test.YtjbhlbcjljdjmaaK1
import Derived.Test.YtjbhlbcjljdjmaaI3
import Derived.Deep.DeepCutAuto
namespace Go.Proofs.Ytjbhlbcjljdjmaa
open Go.RowKit
def tiltOk (d : List Int) (a b : Int) : Bool := ((inB a 0 (d.length - 1) && inB b (-50) 50) && decide (d.length ≤ 8)) && allB (-50) 50 d
def tiltN (d : List Int) (i : Nat) (b : Int) : List Int := (d.set i (d.getD i 0 + b)).set (d.length - 1 - i) (d.getD (d.length - 1 - i) 0 - b)
def tiltF (d : List Int) (a b : Int) : List Int × Bool :=
  if tiltOk d a b = true then (if d.length - 1 - a.toNat = a.toNat then (d, true) else if allB (-50) 50 (tiltN d a.toNat b) = true then (tiltN d a.toNat b, true) else (d, false)) else (d, false)
theorem tilt_ok {d : List Int} {a b : Int} (h : tiltOk d a b = true) : inB a 0 (d.length - 1) = true ∧ inB b (-50) 50 = true ∧ d.length ≤ 8 ∧ allB (-50) 50 d = true := by
  rw [tiltOk, Bool.and_eq_true, Bool.and_eq_true, Bool.and_eq_true, decide_eq_true_iff] at h
  exact ⟨h.1.1.1, h.1.1.2, h.1.2, h.2⟩
theorem tilt_f1 {d : List Int} {a b : Int} (h : inB a 0 (d.length - 1) = false) : tiltOk d a b = false := by rw [tiltOk, h]; rfl
theorem tilt_f2 {d : List Int} {a b : Int} (h : inB b (-50) 50 = false) : tiltOk d a b = false := by rw [tiltOk, h, Bool.and_false]; rfl
theorem tilt_f3 {d : List Int} {a b : Int} (h : ¬ d.length ≤ 8) : tiltOk d a b = false := by rw [tiltOk, decide_eq_false h, Bool.and_false]; rfl
theorem tilt_f4 {d : List Int} {a b : Int} (h : allB (-50) 50 d = false) : tiltOk d a b = false := by rw [tiltOk, h, Bool.and_false]
theorem tilt_all {d : List Int} {a b : Int} (h1 : inB a 0 (d.length - 1) = true) (h2 : inB b (-50) 50 = true) (h3 : d.length ≤ 8) (h4 : allB (-50) 50 d = true) : tiltOk d a b = true := by rw [tiltOk, h1, h2, h4, decide_eq_true h3]; rfl
theorem tiltN_len (d : List Int) (i : Nat) (b : Int) : (tiltN d i b).length = d.length := by simp [tiltN]
theorem allB_at {a b : Int} {l : List Int} (h : allB a b l = true) {k : Nat} (hk : k < l.length) : a ≤ l[k] ∧ l[k] ≤ b := inB_iff.1 (List.all_eq_true.1 h _ (List.getElem_mem hk))
theorem flat_setI (l : List Int) (k : Nat) (x : Int) : (l.flatMap cInt).set k (.int .i64 x) = (l.set k x).flatMap cInt := by
  induction l generalizing k with
  | nil => rfl
  | cons a l ih =>
    cases k with
    | zero => rfl
    | succ k =>
      rw [List.flatMap_cons, List.set_cons_succ, List.flatMap_cons]
      show (Value.int .i64 a :: (l.flatMap cInt)).set (k + 1) _ = Value.int .i64 a :: ((l.set k x).flatMap cInt)
      rw [List.set_cons_succ, ih]
/-- a row of numbers after a store -/
theorem own_setI {w : World} {B g c : Nat} {l : List Int} (h : w.ownsRow B 3 1 (.slice (some ⟨g, 0, none⟩) l.length c) l.length (l.flatMap cInt)) (k : Nat) (x : Int) :
    (w.setCell ⟨g, k, none⟩ (.int .i64 x)).ownsRow B 3 1 (.slice (some ⟨g, 0, none⟩) (l.set k x).length c) (l.set k x).length ((l.set k x).flatMap cInt) := by
  have := (h.stored k (.int .i64 x)).1
  rw [flat_setI] at this
  rw [List.length_set]
  exact this
theorem getD_at {l : List Int} {k : Nat} (h : k < l.length) : l.getD k 0 = l[k] := by rw [List.getD_eq_getElem?_getD, List.getElem?_eq_getElem h]; rfl
theorem flat_getI (l : List Int) (k : Nat) (h : k < l.length) : (l.flatMap cInt)[k]? = some (.int .i64 l[k]) := by
  have := get_flat cInt_len l k h 0 (by omega)
  rw [Nat.mul_one, Nat.add_zero] at this
  exact this
theorem within_t {n a b : Int} {w : World} (h : inB n a b = true) : Calls Try.prog 53 #[.int .i64 n, .int .i64 a, .int .i64 b] w fun e w' => e = .returned (.bool true) ∧ w = w' := h ▸ within_any n a b w
theorem allWithin_t {v : Value} {l : List Int} {a b : Int} {w : World} (hr : RdL cInt 1 w v l) (h : allB a b l = true) : Calls Try.prog 153 #[v, .int .i64 a, .int .i64 b] w fun e w' => e = .returned (.bool true) ∧ w = w' := h ▸ allWithin_any v l a b w hr
end Go.Proofs.Ytjbhlbcjljdjmaa
