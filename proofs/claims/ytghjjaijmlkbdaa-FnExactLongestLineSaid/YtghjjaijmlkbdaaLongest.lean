/- FnExactLongestLine: for every input the program's LongestLine returns what the reference's returns. No condition. -/
import Derived.Test.YtghjjaijmlkbdaaC1
import Derived.Test.YtghjjaijmlkbdaaO2
import Derived.OpenShut
namespace Go.Proofs.Ytghjjaijmlkbdaa
open Go.ChangeShapes Go.WideShapes Go.ChangeAt Go.RowKit
set_option maxHeartbeats 2000000 in
theorem lawLongestLine_any (v : Value) (l : List ByteArray) (w : World) (h : RdL cStr 1 w v l) (hs : ∀ s ∈ l, s.size ≤ 9223372036854775807) :
    Calls Try.prog 5 #[v] w fun e w' => e = .returned (.bool true) ∧ Below w.heap.size w w' := by
  have Hs := Lib.hid hs
  clear hs
  go_enter Try.func5, Try.ntmps5
  go_wp2_with fail
  refine (szStringS_any v l 1048576 w h Hs.out (by omega)).mono ?_
  rintro e w' ⟨r, rfl, rfl, hr1, hr2⟩
  have Hr := Lib.hid hr2
  clear hr2
  by_cases hneg : r < 0
  · go_wp2_with fail
    go_ret
    exact ⟨rfl, by (repeat' (first | exact Below.refl _ _ | (refine Below.setCell ?_ (by first | omega | (simp; omega) | (simp; done)) _) | (refine Below.alloc ?_ (by first | omega | (simp; omega) | (simp; done)) _) | (refine Below.drew ?_) | (refine below_drewN ?_ _) | (refine Below.trans ?_ (Below.mono (by assumption) (by first | omega | (simp; omega) | (simp; done))))))⟩
  · have hlen : l.length ≤ 1048576 := by have := Hr.out (by omega); unfold strsTot at this; omega
    go_wp2_with fail
    refine (toStringS_any v l _ h hlen).mono ?_
    rintro e w1 ⟨v1, rfl, ho1, hb1⟩
    go_wp2_with fail
    refine (specLongestLine_any v1 l _ (RdS.of_own ho1)).mono ?_
    rintro e w2 ⟨rfl, rfl⟩
    go_wp2_with fail
    refine (toStringS_any v l _ (h.below hb1) hlen).mono ?_
    rintro e w3 ⟨v3, rfl, ho3, hb3⟩
    go_wp2_with fail
    refine (implLongestLine_any v3 l _ (RdS.of_own ho3)).mono ?_
    rintro e w4 ⟨rfl, rfl⟩
    have hb4 := bl_trans hb1 hb3
    go_wp2_with fail
    refine (toStringS_any v l _ (h.below hb4) hlen).mono ?_
    rintro e w5 ⟨v5, rfl, ho5, hb5⟩
    go_wp2_with fail
    refine (eqStringS_any v3 v5 l _ ((RdS.of_own ho3).below hb5) (RdS.of_own ho5)).mono ?_
    rintro e w6 ⟨rfl, hb6⟩
    have hb6' := bl_trans (bl_trans hb4 hb5) hb6
    go_wp2_with fail
    go_ret
    exact ⟨rfl, hb6'⟩

set_option maxRecDepth 100000 in
set_option maxHeartbeats 1000000 in
theorem fnExactLongestLine_lifted (os : Os) (started : os.Started) (H : Type) (enc : TypeId × Value → H) :
    ReturnsInHanded {} Try.checked os 5 .any (Rows.fnExactLongestLineSpec.pre6 enc Try.prog Try.f5 Rows.fnExactLongestLineRow.domain false) (Rows.fnExactLongestLineSpec.post enc Try.prog Try.f5 false true false false) := by
  refine returnsInHanded_of_change (C := Try.checked) tryOwn started (by kernel_rfl) Try.func5
    (ChangeSpec.witness6 (enc := enc) (C := Try.checked) false ⟨#[], #[.slice none 0 0], []⟩ 12 (by kernel_rfl) (by kernel_rfl) (by kernel_rfl) (by kernel_rfl)) ?_
  intro W base args ds gs before hval0 hW hcnd _
  have hval : ∀ (j : Nat) t v, Try.f5.params[j]? = some t → args[j]? = some v → Value.okWide Try.prog W .any base t v := hval0
  have hW' := hW
  obtain ⟨p, q, hA0, hV, rfl, hfz, hnd⟩ := hW
  have hA : DataW.TrodAll enc Try.prog W 0 (fun _ => true) true Try.f5.params.toList args.toList ds p := hA0
  rw [Try.params5] at hA hval
  obtain ⟨v0, vs0, d0, ds0, p0, q0, hargs, rfl, rfl, h0, r0⟩ := trodAll_cons hA
  obtain ⟨rfl, rfl, rfl⟩ := trodAll_nil r0
  obtain rfl : args = #[v0] := by cases args; simp_all
  obtain ⟨rfl, rfl⟩ := trodVars_none hV
  have e0 := h0
  have lt0 : ∀ x ∈ p0, x.block < W.heap.size := by obtain ⟨m, hm⟩ := e0; exact DataW.trod_lt m _ _ _ hm
  have ok0 := hval 0 36 v0 rfl rfl
  clear hA0 hval0 hval
  obtain ⟨l, hl, hs⟩ := arg_slice Try.underlying36 ok0 h0 (opens_slice (size := 1) Try.underlying36 (by kernel_rfl) (by omega) cStr_len (opens_string Try.underlying9))
  refine (lawLongestLine_any v0 l W hl hs).mono fun e W' ⟨he, bel⟩ => ?_
  subst he
  exact ⟨_, rfl, _, _, _, [], _, [], hW', trodAll_mk1 (shut_bool Try.underlying4 _), (trodAll_cons_mk (Below.trod tryLaid (by kernel_rfl) (of_decide_eq_true (by kernel_rfl)) e0 bel lt0) trodAll_mk0), rfl, bel.frame _, fun h => by cases h⟩

theorem fnExactLongestLine_holds : Rows.FnExactLongestLineSaid :=
  OpenClaim.holds_of_wide 5 Try.f5 rfl rfl rfl rfl rfl rfl rfl ⟨rfl, rfl, rfl, rfl, rfl⟩ rfl rfl rfl rfl rfl (by kernel_rfl) Try.func5 (by kernel_rfl)
    (of_decide_eq_true (by kernel_rfl)) (by unfold Func.isWrapper; first | (rw [if_pos (by decide +kernel)]; kernel_rfl) | (rw [if_neg (by decide +kernel)]; exact ⟨rfl, rfl⟩))
    (fun os started H enc _ => fnExactLongestLine_lifted os started H enc)
#print axioms fnExactLongestLine_holds
end Go.Proofs.Ytghjjaijmlkbdaa
