/- Contracts: PullThread, toThread, eqThread. -/
import Derived.Test.YtghjjaijmlkbdaaA2
import Derived.Test.YtghjjaijmlkbdaaRThread
namespace Go.Proofs.Ytghjjaijmlkbdaa
open Go.RowKit

theorem thrB_iff {s u : Int} : thrB s u = true ↔ (1 ≤ s ∧ s ≤ 10000) ∧ 0 ≤ u ∧ u ≤ s := by
  rw [thrB, Bool.and_eq_true, inB_iff, inB_iff]
def pullB (s u m : Int) : Bool := thrB s u && inB m 0 (s - u)
theorem pullB_iff {s u m : Int} : pullB s u m = true ↔ thrB s u = true ∧ 0 ≤ m ∧ m ≤ s - u := by
  rw [pullB, Bool.and_eq_true, inB_iff]
theorem pullB_false {s u m : Int} : pullB s u m = false ↔ ¬ (thrB s u = true ∧ 0 ≤ m ∧ m ≤ s - u) := by rw [← pullB_iff]; simp
def pullV (s u m : Int) : Value := .tuple #[.agg #[.int .i64 s, .int .i64 (if pullB s u m = true then u + m else u)], .bool (pullB s u m)]
theorem pullV_t {s u m : Int} (h : pullB s u m = true) : Ending.returned (.tuple #[.agg #[.int .i64 s, .int .i64 (u + m)], .bool true]) = .returned (pullV s u m) := by rw [pullV, if_pos h, h]
theorem pullV_f {s u m : Int} (h : pullB s u m = false) : Ending.returned (.tuple #[.agg #[.int .i64 s, .int .i64 u], .bool false]) = .returned (pullV s u m) := by rw [pullV, h]; rfl

set_option maxHeartbeats 1000000 in
theorem implPullThread_any (s u m : Int) (w : World) :
    Calls Try.prog 16 #[.agg #[.int .i64 s, .int .i64 u], .int .i64 m] w fun e w' => e = .returned (pullV s u m) ∧ Below w.heap.size w w' := by
  go_enter Try.func16, Try.ntmps16
  go_wp2_with (first
    | (go_at_call 58; refine two (within_any _ _ _ _) (fun hc => ?_) (fun hc => ?_); have hm := inB_iff.1 hc.out; rotate_left; skip)
    | (go_at_call 35; refine twoB (implThreadOk_any _ _ _) (fun w' ht hb => ?_) (fun w' ht hb => ?_) <;> obtain ⟨hcl, hfr⟩ := bcell hb <;> have hz := hb.size <;> simp at hz <;> have k0 := (hcl w.heap.size 0 (by simp <;> omega)).trans (by simp [go_sem] : _ = some (.int .i64 s)) <;> have k1 := (hcl w.heap.size 1 (by simp <;> omega)).trans (by simp [go_sem] : _ = some (.int .i64 u)) <;> have k2 := (hcl (w.heap.size + 1) 0 (by simp <;> omega)).trans (by simp [go_sem] : _ = some (.int .i64 0)) <;> have k3 := (hcl (w.heap.size + 1) 1 (by simp <;> omega)).trans (by simp [go_sem] : _ = some (.int .i64 0)); have hq := thrB_iff.1 ht.out; rotate_left; skip))
  · refine bodyPost_ret (v := .tuple #[.agg #[.int .i64 s, .int .i64 u], .bool false]) (by simp [results, Try.results16, go_sem, k0, k1, k2, k3]) rfl ⟨pullV_f (pullB_false.2 (fun h => by simp [ht.out] at h)), by (repeat' (first | exact Below.refl _ _ | (refine Below.setCell ?_ (by first | omega | (simp; omega) | (simp; done)) _) | (refine Below.alloc ?_ (by first | omega | (simp; omega) | (simp; done)) _) | (refine Below.drew ?_) | (refine below_drewN ?_ _) | (refine Below.trans ?_ (Below.mono (by assumption) (by first | omega | (simp; omega) | (simp; done))))))⟩
  · refine bodyPost_ret (v := .tuple #[.agg #[.int .i64 s, .int .i64 u], .bool false]) (by simp [results, Try.results16, go_sem, k0, k1, k2, k3]) rfl ⟨pullV_f (pullB_false.2 (fun h => inB_false.1 hc.out (by omega))), by (repeat' (first | exact Below.refl _ _ | (refine Below.setCell ?_ (by first | omega | (simp; omega) | (simp; done)) _) | (refine Below.alloc ?_ (by first | omega | (simp; omega) | (simp; done)) _) | (refine Below.drew ?_) | (refine below_drewN ?_ _) | (refine Below.trans ?_ (Below.mono (by assumption) (by first | omega | (simp; omega) | (simp; done))))))⟩
  · refine bodyPost_ret (v := .tuple #[.agg #[.int .i64 s, .int .i64 u], .bool false]) (by simp [results, Try.results16, go_sem, k0, k1, k2, k3]) rfl ⟨pullV_f (pullB_false.2 (fun h => by omega)), by (repeat' (first | exact Below.refl _ _ | (refine Below.setCell ?_ (by first | omega | (simp; omega) | (simp; done)) _) | (refine Below.alloc ?_ (by first | omega | (simp; omega) | (simp; done)) _) | (refine Below.drew ?_) | (refine below_drewN ?_ _) | (refine Below.trans ?_ (Below.mono (by assumption) (by first | omega | (simp; omega) | (simp; done))))))⟩
  · refine bodyPost_ret (v := .tuple #[.agg #[.int .i64 s, .int .i64 (u + m)], .bool true]) (by simp [results, Try.results16, go_sem, k0, k1, k2, k3]) rfl ⟨pullV_t (pullB_iff.2 ⟨ht.out, by omega⟩), by (repeat' (first | exact Below.refl _ _ | (refine Below.setCell ?_ (by first | omega | (simp; omega) | (simp; done)) _) | (refine Below.alloc ?_ (by first | omega | (simp; omega) | (simp; done)) _) | (refine Below.drew ?_) | (refine below_drewN ?_ _) | (refine Below.trans ?_ (Below.mono (by assumption) (by first | omega | (simp; omega) | (simp; done))))))⟩

set_option maxHeartbeats 1000000 in
theorem specPullThread_any (s u m : Int) (w : World) :
    Calls Try.prog 14 #[.agg #[.int .i64 s, .int .i64 u], .int .i64 m] w fun e w' => e = .returned (pullV s u m) ∧ Below w.heap.size w w' := by
  go_enter Try.func14, Try.ntmps14
  go_wp2_with (first
    | (go_at_call 57; refine two (l01In_any _ _ _ _) (fun hc => ?_) (fun hc => ?_); have hm := inB_iff.1 hc.out; rotate_left; skip)
    | (go_at_call 56; refine twoB (specThreadOk_any _ _ _) (fun w' ht hb => ?_) (fun w' ht hb => ?_) <;> obtain ⟨hcl, hfr⟩ := bcell hb <;> have hz := hb.size <;> simp at hz <;> have k0 := (hcl (w.heap.size) 0 (by simp <;> omega)).trans (by simp [go_sem] : _ = some (.int .i64 s)) <;> have k1 := (hcl (w.heap.size) 1 (by simp <;> omega)).trans (by simp [go_sem] : _ = some (.int .i64 u)) <;> have k2 := (hcl (w.heap.size + 1) 0 (by simp <;> omega)).trans (by simp [go_sem] : _ = some (.int .i64 0)) <;> have k3 := (hcl (w.heap.size + 1) 1 (by simp <;> omega)).trans (by simp [go_sem] : _ = some (.int .i64 0)); have hq := thrB_iff.1 ht.out; rotate_left; skip))
  · refine bodyPost_ret (v := .tuple #[.agg #[.int .i64 s, .int .i64 u], .bool false]) (by simp [results, Try.results14, go_sem, k0, k1, k2, k3]) rfl ⟨pullV_f (pullB_false.2 (fun h => by simp [ht.out] at h)), by (repeat' (first | exact Below.refl _ _ | (refine Below.setCell ?_ (by first | omega | (simp; omega) | (simp; done)) _) | (refine Below.alloc ?_ (by first | omega | (simp; omega) | (simp; done)) _) | (refine Below.drew ?_) | (refine below_drewN ?_ _) | (refine Below.trans ?_ (Below.mono (by assumption) (by first | omega | (simp; omega) | (simp; done))))))⟩
  · refine bodyPost_ret (v := .tuple #[.agg #[.int .i64 s, .int .i64 u], .bool false]) (by simp [results, Try.results14, go_sem, k0, k1, k2, k3]) rfl ⟨pullV_f (pullB_false.2 (fun h => inB_false.1 hc.out (by omega))), by (repeat' (first | exact Below.refl _ _ | (refine Below.setCell ?_ (by first | omega | (simp; omega) | (simp; done)) _) | (refine Below.alloc ?_ (by first | omega | (simp; omega) | (simp; done)) _) | (refine Below.drew ?_) | (refine below_drewN ?_ _) | (refine Below.trans ?_ (Below.mono (by assumption) (by first | omega | (simp; omega) | (simp; done))))))⟩
  · refine bodyPost_ret (v := .tuple #[.agg #[.int .i64 s, .int .i64 (u + m)], .bool true]) (by simp [results, Try.results14, go_sem, k0, k1, k2, k3]) rfl ⟨pullV_t (pullB_iff.2 ⟨ht.out, by omega⟩), by (repeat' (first | exact Below.refl _ _ | (refine Below.setCell ?_ (by first | omega | (simp; omega) | (simp; done)) _) | (refine Below.alloc ?_ (by first | omega | (simp; omega) | (simp; done)) _) | (refine Below.drew ?_) | (refine below_drewN ?_ _) | (refine Below.trans ?_ (Below.mono (by assumption) (by first | omega | (simp; omega) | (simp; done))))))⟩

end Go.Proofs.Ytghjjaijmlkbdaa
