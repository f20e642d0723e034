/- FnExactWeakestThread: for every input the program's WeakestThread returns what the reference's returns. No condition. -/
import Derived.Test.YtghjjaijmlkbdaaA6
import Derived.Test.YtghjjaijmlkbdaaO2
import Derived.OpenShut
namespace Go.Proofs.Ytghjjaijmlkbdaa
open Go.ChangeShapes Go.WideShapes Go.ChangeAt Go.RowKit
set_option maxHeartbeats 2000000 in
theorem lawWeakestThread_any (v : Value) (l : List (Int × Int)) (w : World) (h : RdL cPair 2 w v l) :
    Calls Try.prog 6 #[v] w fun e w' => e = .returned (.bool true) ∧ Below w.heap.size w w' := by
  have hsz := szThreadS_any v l 1048576 w h (by omega)
  obtain ⟨m, hm⟩ : ∃ m : Int, m = szLen 1048576 l.length := ⟨_, rfl⟩
  rw [← hm] at hsz
  have Hm := Lib.hid hm
  clear hm
  have Hs := Lib.hid hsz
  clear hsz
  by_cases hneg : m < 0
  · go_enter Try.func6, Try.ntmps6
    go_wp2_with (go_at_call 26; refine Hs.out.mono ?_; rintro e w' ⟨rfl, rfl⟩)
    go_ret
    exact ⟨rfl, by (repeat' (first | exact Below.refl _ _ | (refine Below.setCell ?_ (by first | omega | (simp; omega) | (simp; done)) _) | (refine Below.alloc ?_ (by first | omega | (simp; omega) | (simp; done)) _) | (refine Below.drew ?_) | (refine below_drewN ?_ _) | (refine Below.trans ?_ (Below.mono (by assumption) (by first | omega | (simp; omega) | (simp; done))))))⟩
  · have hlen : l.length ≤ 1048576 := (szLen_le (Int.le_refl _) (by rw [← Hm.out]; exact hneg)).1
    go_enter Try.func6, Try.ntmps6
    go_wp2_with (go_at_call 26; refine Hs.out.mono ?_; rintro e w' ⟨rfl, rfl⟩)
    refine (toThreadS_any v l _ h hlen).mono ?_
    rintro e w1 ⟨v1, rfl, ho1, hb1⟩
    go_wp2_with fail
    refine (specWeakestThread_any v1 l _ (RdS.of_own ho1)).mono ?_
    rintro e w2 ⟨rfl, hb2⟩
    have hb2' := bl_trans hb1 hb2
    go_wp2_with fail
    refine (toThreadS_any v l _ (h.below hb2') hlen).mono ?_
    rintro e w3 ⟨v3, rfl, ho3, hb3⟩
    go_wp2_with fail
    refine (implWeakestThread_any v3 l _ (RdS.of_own ho3)).mono ?_
    rintro e w4 ⟨rfl, hb4⟩
    have hb4' := bl_trans (bl_trans hb2' hb3) hb4
    go_wp2_with fail
    refine (toThreadS_any v l _ (h.below hb4') hlen).mono ?_
    rintro e w5 ⟨v5, rfl, ho5, hb5⟩
    go_wp2_with fail
    refine (eqThreadS_any v3 v5 l _ (((RdS.of_own ho3).below hb4).below hb5) (RdS.of_own ho5)).mono ?_
    rintro e w6 ⟨rfl, hb6⟩
    have hb6' := bl_trans (bl_trans hb4' hb5) hb6
    go_wp2_with fail
    go_ret
    exact ⟨rfl, hb6'⟩

set_option maxRecDepth 100000 in
set_option maxHeartbeats 1000000 in
theorem fnExactWeakestThread_lifted (os : Os) (started : os.Started) (H : Type) (enc : TypeId × Value → H) :
    ReturnsInHanded {} Try.checked os 6 .any (Rows.fnExactWeakestThreadSpec.pre6 enc Try.prog Try.f6 Rows.fnExactWeakestThreadRow.domain false) (Rows.fnExactWeakestThreadSpec.post enc Try.prog Try.f6 false true false false) := by
  refine returnsInHanded_of_change (C := Try.checked) tryOwn started (by kernel_rfl) Try.func6
    (ChangeSpec.witness6 (enc := enc) (C := Try.checked) false ⟨#[], #[.slice none 0 0], []⟩ 12 (by kernel_rfl) (by kernel_rfl) (by kernel_rfl) (by kernel_rfl)) ?_
  intro W base args ds gs before hval0 hW hcnd _
  have hval : ∀ (j : Nat) t v, Try.f6.params[j]? = some t → args[j]? = some v → Value.okWide Try.prog W .any base t v := hval0
  have hW' := hW
  obtain ⟨p, q, hA0, hV, rfl, hfz, hnd⟩ := hW
  have hA : DataW.TrodAll enc Try.prog W 0 (fun _ => true) true Try.f6.params.toList args.toList ds p := hA0
  rw [Try.params6] at hA hval
  obtain ⟨v0, vs0, d0, ds0, p0, q0, hargs, rfl, rfl, h0, r0⟩ := trodAll_cons hA
  obtain ⟨rfl, rfl, rfl⟩ := trodAll_nil r0
  obtain rfl : args = #[v0] := by cases args; simp_all
  obtain ⟨rfl, rfl⟩ := trodVars_none hV
  have e0 := h0
  have lt0 : ∀ x ∈ p0, x.block < W.heap.size := by obtain ⟨m, hm⟩ := e0; exact DataW.trod_lt m _ _ _ hm
  have ok0 := hval 0 42 v0 rfl rfl
  clear hA0 hval0 hval
  obtain ⟨l, hl, _⟩ := arg_slice Try.underlying42 ok0 h0 (opens_slice (size := 2) Try.underlying42 (by kernel_rfl) (by omega) cPair_len opens_lawsThread)
  refine (lawWeakestThread_any v0 l W hl).mono fun e W' ⟨he, bel⟩ => ?_
  subst he
  exact ⟨_, rfl, _, _, _, [], _, [], hW', trodAll_mk1 (shut_bool Try.underlying4 _), (trodAll_cons_mk (Below.trod tryLaid (by kernel_rfl) (of_decide_eq_true (by kernel_rfl)) e0 bel lt0) trodAll_mk0), rfl, bel.frame _, fun h => by cases h⟩

theorem fnExactWeakestThread_holds : Rows.FnExactWeakestThreadSaid :=
  OpenClaim.holds_of_wide 6 Try.f6 rfl rfl rfl rfl rfl rfl rfl ⟨rfl, rfl, rfl, rfl, rfl⟩ rfl rfl rfl rfl rfl (by kernel_rfl) Try.func6 (by kernel_rfl)
    (of_decide_eq_true (by kernel_rfl)) (by unfold Func.isWrapper; first | (rw [if_pos (by decide +kernel)]; kernel_rfl) | (rw [if_neg (by decide +kernel)]; exact ⟨rfl, rfl⟩))
    (fun os started H enc _ => fnExactWeakestThread_lifted os started H enc)
#print axioms fnExactWeakestThread_holds
end Go.Proofs.Ytghjjaijmlkbdaa
