/- Contracts: ScriptText of both. Condition: the library's table of powers of ten reads as its text lays it. -/
import Derived.Laws.BytesArg
import Derived.Test.YtdhmhgjjppeodaaGreatDoorBdH5x3
import Derived.Test.YtdhmhgjjppeodaaGreatDoorM18
namespace Go.Proofs.YtdhmhgjjppeodaaGreatDoor
open Go.RowKit
def nl1 : ByteArray := ⟨#[10]⟩
def scrStepS (s : ByteArray) (a : RA) : ByteArray := s ++ (actS a ++ nl1)
def scrS (l : List RA) : ByteArray := l.foldl scrStepS ByteArray.empty
def actOkB (a : RA) : Bool := actB a.1 a.2.1 a.2.2
def scrB (l : List RA) : Bool := decide (l.length ≤ 40) && l.all actOkB
def scrV (l : List RA) : ByteArray := if scrB l = true then scrS l else ByteArray.empty
theorem scrS_snoc (l : List RA) {k : Nat} (h : k < l.length) : scrS (l.take (k + 1)) = scrS (l.take k) ++ (actS l[k] ++ nl1) := foldl_take_succ _ _ l h
theorem scrS_size (l : List RA) : ∀ k, k ≤ l.length → (scrS (l.take k)).size ≤ 61 * k := by
 intro k
 induction k with
 | zero => intro _; exact Nat.zero_le _
 | succ k ih =>
  intro hk
  have h1 := ih (by omega)
  have h2 : (actS l[k]).size ≤ 60 := actS_size
  rw [scrS_snoc l (by omega), ByteArray.size_append, ByteArray.size_append]
  have : nl1.size = 1 := rfl
  omega
theorem scr_f {l : List RA} (h : scrB l = false) : Ending.returned (.tuple #[.string ByteArray.empty, .bool false]) = .returned (.tuple #[.string (scrV l), .bool (scrB l)]) := by unfold scrV; rw [h]; rfl
theorem scr_t {l : List RA} (h : scrB l = true) : Ending.returned (.tuple #[.string (scrS l), .bool true]) = .returned (.tuple #[.string (scrV l), .bool (scrB l)]) := by unfold scrV; rw [h]; rfl
theorem scr_f1 {l : List RA} (h : ¬ l.length ≤ 40) : scrB l = false := by unfold scrB; rw [decide_eq_false h]; rfl
theorem scr_f2 {l : List RA} {k : Nat} (hk : k < l.length) (h : actOkB l[k] = false) : scrB l = false := by unfold scrB; rw [all_false_at hk h, Bool.and_false]
theorem scr_all {l : List RA} (h : l.length ≤ 40) (h2 : l.all actOkB = true) : scrB l = true := by unfold scrB; rw [decide_eq_true h, h2]; rfl
set_option maxHeartbeats 2000000 in
set_option maxRecDepth 100000 in
theorem implScriptText_any (v : Value) (l : List RA) (w : World) (h : RdL cAct 3 w v l) (ht : TabOk w) :
  Calls Tryz.prog 27 #[v] w fun e w' => e = .returned (.tuple #[.string (scrV l), .bool (scrB l)]) ∧ Below w.heap.size w w' := by
 have h0 := h
 obtain ⟨A, c, rfl, h1, h2⟩ := h.form
 by_cases h40 : l.length ≤ 40
 ·go_enter Tryz.func27, Tryz.ntmps27
  go_wp2_with fail
  go_loopw [4, 14] (fun q i wr => ∃ k : Nat, k ≤ l.length ∧ i = .int .i64 k ∧ q = .string (scrS (l.take k)) ∧ Hid ((l.take k).all actOkB = true) ∧ Below w.heap.size w wr) (fun _ i _ => l.length - (intOf i).toNat)
  case atStart => exact ⟨0, Nat.zero_le _, rfl, rfl, rfl, Below.refl _ _⟩
  case round =>
   obtain ⟨k, hk, rfl, rfl, hall, hb⟩ := hrel
   have hz := hb.size
   by_cases hlt : k < l.length
   ·obtain ⟨g, off, rfl, hg, hc⟩ := (h0.below hb).cell cAct_len (by omega) hlt
    have k0 := hc 0 _ rfl
    have k1 := hc 1 _ rfl
    have k2 := hc 2 _ rfl
    simp only [Nat.add_zero] at k0 k1 k2
    clear hc
    have hsn := Lib.hid (scrS_snoc l hlt)
    have hs0 := scrS_size l k hk
    have hF := Lib.hid (fun W hW => implFormatAct_any l[k].1 l[k].2.1 l[k].2.2 W hW)
    have hf2 : Hid (actB l[k].1 l[k].2.1 l[k].2.2 = false → scrB l = false) := fun h => scr_f2 hlt h
    have ha2 : Hid (actB l[k].1 l[k].2.1 l[k].2.2 = true → (l.take (k + 1)).all actOkB = true) := fun h => all_take_succ hlt hall.out h
    have hsa : (actS (l[k].1, l[k].2.1, l[k].2.2)).size ≤ 60 := actS_size
    replace hsn : Hid (scrS (l.take (k + 1)) = scrS (l.take k) ++ (actS (l[k].1, l[k].2.1, l[k].2.2) ++ nl1)) := hsn.out
    generalize actS (l[k].1, l[k].2.1, l[k].2.2) = s at *
    obtain ⟨bb, hbb⟩ : ∃ bb, actB l[k].1 l[k].2.1 l[k].2.2 = bb := ⟨_, rfl⟩
    rw [hbb] at hF hf2 ha2
    clear hbb
    generalize l[k].1 = x0 at *
    generalize l[k].2.1 = x1 at *
    generalize l[k].2.2 = x2 at *
    obtain ⟨s0, hs0e⟩ : ∃ s0, scrS (l.take k) = s0 := ⟨_, rfl⟩
    rw [hs0e] at hsn hs0 ⊢
    clear hs0e
    have hs1 : (s ++ (⟨#[10]⟩ : ByteArray)).size = s.size + 1 := by rw [ByteArray.size_append]; rfl
    have hz1 : ¬ 9223372036854775807 < s.size + 1 := by omega
    have hz2 : ¬ 9223372036854775807 < s0.size + (s ++ (⟨#[10]⟩ : ByteArray)).size := by omega
    have HS1 := Lib.hid hs1
    clear hs1
    go_upto_region 7 with (fail)
    have hal : Below wr.heap.size wr (wr.alloc (.cells #[.int .i64 x0, .int .i64 x1, .int .i64 x2] 90)) := (Below.refl _ _).alloc (Nat.le_refl _) _
    have L : Loc (wr.alloc (.cells #[.int .i64 x0, .int .i64 x1, .int .i64 x2] 90)) wr.heap.size [.int .i64 x0, .int .i64 x1, .int .i64 x2] := Loc.new wr #[.int .i64 x0, .int .i64 x1, .int .i64 x2] 90
    have hbb := bl_trans hb hal
    generalize wr.alloc (.cells #[.int .i64 x0, .int .i64 x1, .int .i64 x2] 90) = W at *
    have b0 := (L 0 _ rfl).1
    have b1 := (L 1 _ rfl).1
    have b2 := (L 2 _ rfl).1
    clear k0 k1 k2 hal
    go_wp2_with fail
    refine (hF.out W (ht.below hbb)).mono ?_
    rintro e w1 ⟨rfl, hb1⟩
    have hb2 := bl_trans hbb hb1
    clear b0 b1 b2 L hb1 hF
    cases bb
    ·go_wp2_with fail
     go_ret2
     exact ⟨scr_f (hf2.out (by simp)), hb2⟩
    ·go_wp2_with fail
     go_roundw
     case rel => exact ⟨k + 1, by omega, by go_num, congrArg Value.string hsn.out.symm, ha2.out (by simp), hb2⟩
     case measure => simp [intOf]; omega
   ·obtain rfl : k = l.length := by omega
    have hok := Lib.hid (scr_all h40 (by have := hall.out; rwa [List.take_length] at this))
    rw [List.take_length]
    go_wp2_with fail
    go_ret2
    exact ⟨scr_t hok.out, hb⟩
 ·go_enter Tryz.func27, Tryz.ntmps27
  go_wp2_with fail
  go_ret2
  exact ⟨scr_f (scr_f1 h40), Below.refl _ _⟩
end Go.Proofs.YtdhmhgjjppeodaaGreatDoor
