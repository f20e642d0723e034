/- Contracts: copyOf. -/
import Derived.Test.YteidpejjjphecaaGreatDoorBdC1x9
import Derived.Test.YteidpejjjphecaaGreatDoorBdM5x8
namespace Go.Proofs.YteidpejjjphecaaGreatDoor
open Go.RowKit
set_option maxHeartbeats 1000000 in
theorem copyOf_any (v : Value) (l : List Int) (w : World) (h : RdL cInt 1 w v l) (hl : l.length ≤ 1048576) :
  Calls Tryz.prog 29 #[v] w fun e w' => ∃ v', e = .returned v' ∧ w'.ownsRow w.heap.size 3 1 v' l.length (l.flatMap cInt) ∧ Below w.heap.size w w' := by
 have h0 := h
 obtain ⟨A, c, rfl, h1, h2⟩ := h.form
 obtain ⟨i0, hi0, hz0, hz1, hz2⟩ := info_parts infoInt
 go_enter Tryz.func29, Tryz.ntmps29
 go_wp2_with (at_builtin; refine wpList_appendR _ rfl (.tmp 3) (.tmp 4) _ rfl w.heap.size 3 i0 _ 1 8 Tryz.underlying28 hi0 hz0 hz1 hz2 rfl (by omega) _ 0 [] rfl (World.ownsRow_made (size := 1) (e := 3) w #[] 0 (Nat.le_refl _) (by simp [maxLen]) rfl) _ l.length (l.flatMap cInt) rfl (h0.below ((Below.refl _ _).alloc (Nat.le_refl _) _)) (oneCell_flat cInt_one l) (by simp [maxLen]; omega) (by omega) (by simp) ?_; intro v2 w2 hown2 hgr2)
 have hb2 : Below w.heap.size (w.alloc (Obj.cells #[] 3)) w2 := below_own (World.ownsRow_made (size := 1) (e := 3) w #[] 0 (Nat.le_refl _) (by simp [maxLen]) rfl) hgr2 (by simp)
 go_wp2_with fail
 go_ret
 rw [Nat.zero_add, List.nil_append] at hown2
 exact ⟨_, rfl, hown2, ((Below.refl _ _).alloc (Nat.le_refl _) _).trans hb2⟩
end Go.Proofs.YteidpejjjphecaaGreatDoor
