/- Contracts: ScriptText of both. Condition: the library's table of powers of ten reads as its text lays it. -/
import Derived.Laws.BytesArg
import Derived.Test.YtolfclbcfddhpaaDoorBdH5x2
import Derived.Test.YtolfclbcfddhpaaDoorM18
namespace Go.Proofs.YtolfclbcfddhpaaDoor
open Go.RowKit
def nl1 : ByteArray := ⟨#[10]⟩
def scrStepS (s : ByteArray) (a : RA) : ByteArray := s ++ (actS a ++ nl1)
def scrS (l : List RA) : ByteArray := l.foldl scrStepS ByteArray.empty
def actOkB (a : RA) : Bool := actB a.1 a.2.1 a.2.2
def scrB (l : List RA) : Bool := decide (l.length ≤ 40) && l.all actOkB
def scrV (l : List RA) : ByteArray := if scrB l = true then scrS l else ByteArray.empty
theorem scrS_snoc (l : List RA) {k : Nat} (h : k < l.length) : scrS (l.take (k + 1)) = scrS (l.take k) ++ (actS l[k] ++ nl1) := foldl_take_succ _ _ l h
theorem scrS_size (l : List RA) : ∀ k, k ≤ l.length → (scrS (l.take k)).size ≤ 61 * k := by
 intro k
 induction k with
 | zero => intro _; exact Nat.zero_le _
 | succ k ih =>
  intro hk
  have h1 := ih (by omega)
  have h2 : (actS l[k]).size ≤ 60 := actS_size
  rw [scrS_snoc l (by omega), ByteArray.size_append, ByteArray.size_append]
  have : nl1.size = 1 := rfl
  omega
theorem scr_f {l : List RA} (h : scrB l = false) : Ending.returned (.tuple #[.string ByteArray.empty, .bool false]) = .returned (.tuple #[.string (scrV l), .bool (scrB l)]) := by unfold scrV; rw [h]; rfl
theorem scr_t {l : List RA} (h : scrB l = true) : Ending.returned (.tuple #[.string (scrS l), .bool true]) = .returned (.tuple #[.string (scrV l), .bool (scrB l)]) := by unfold scrV; rw [h]; rfl
theorem scr_f1 {l : List RA} (h : ¬ l.length ≤ 40) : scrB l = false := by unfold scrB; rw [decide_eq_false h]; rfl
theorem scr_f2 {l : List RA} {k : Nat} (hk : k < l.length) (h : actOkB l[k] = false) : scrB l = false := by unfold scrB; rw [all_false_at hk h, Bool.and_false]
theorem scr_all {l : List RA} (h : l.length ≤ 40) (h2 : l.all actOkB = true) : scrB l = true := by unfold scrB; rw [decide_eq_true h, h2]; rfl
theorem bytes_app (a b : ByteArray) : byteCells (a ++ b) = byteCells a ++ byteCells b := by simp [byteCells, ByteArray.data_append]
theorem conv_own {w : World} {base : Nat} {e : TypeId} {v : Value} {s : ByteArray} (h : w.ownsRow base e 1 v s.size (byteCells s)) : (convert 40 9 v).run Tryd.prog w = .ok (.string s) w := by
 rcases h.2 with ⟨rfl, h0⟩ | ⟨g, cap, cur, rfl, _⟩
 ·have hs : s = ByteArray.empty := ba_ext (by rw [List.eq_nil_of_length_eq_zero (show s.data.toList.length = 0 by simpa using h0)]; rfl)
  rw [hs]
  exact run_convert_bytes_nil w 40 5 Tryd.underlying40 Tryd.underlying5 0 0 9 Tryd.underlying9
 ·have hc := run_convert_bytes_back (P := Tryd.prog) w 40 9 5 ⟨g, 0, none⟩ cap s.data.toList Tryd.underlying40 Tryd.underlying5 Tryd.underlying9 (fun j hj => by
   refine h.cells (g := g) rfl j _ ?_
   unfold byteCells
   rw [List.getElem?_map, List.getElem?_eq_getElem hj]; rfl)
  rw [show s.data.toList.length = s.size by simp] at hc
  rw [hc]
theorem infoU8 : (Tryd.prog.info? 5).map (fun i => (i.zero, i.size, i.bytes)) = some (some (.int .u8 0), 1, 1) := by kernel_rfl
set_option maxHeartbeats 2000000 in
set_option maxRecDepth 100000 in
theorem implScriptText_any (v : Value) (l : List RA) (w : World) (h : RdL cAct 3 w v l) (ht : TabOk w) :
  Calls Tryd.prog 13 #[v] w fun e w' => e = .returned (.tuple #[.string (scrV l), .bool (scrB l)]) ∧ Below w.heap.size w w' := by
 have h0 := h
 obtain ⟨A, c, rfl, h1, h2⟩ := h.form
 by_cases h40 : l.length ≤ 40
 ·go_enter Tryd.func13, Tryd.ntmps13
  go_wp2_with fail
  go_loopw [4, 14] (fun q i wr => ∃ k : Nat, k ≤ l.length ∧ i = .int .i64 k ∧ q = .string (scrS (l.take k)) ∧ Hid ((l.take k).all actOkB = true) ∧ Below w.heap.size w wr) (fun _ i _ => l.length - (intOf i).toNat)
  case atStart => exact ⟨0, Nat.zero_le _, rfl, rfl, rfl, Below.refl _ _⟩
  case round =>
   obtain ⟨k, hk, rfl, rfl, hall, hb⟩ := hrel
   have hz := hb.size
   by_cases hlt : k < l.length
   ·obtain ⟨g, off, rfl, hg, hc⟩ := (h0.below hb).cell cAct_len (by omega) hlt
    have k0 := hc 0 _ rfl
    have k1 := hc 1 _ rfl
    have k2 := hc 2 _ rfl
    simp only [Nat.add_zero] at k0 k1 k2
    clear hc
    have hsn := Lib.hid (scrS_snoc l hlt)
    have hs0 := scrS_size l k hk
    have hF := Lib.hid (fun W hW => implFormatAct_any l[k].1 l[k].2.1 l[k].2.2 W hW)
    have hf2 : Hid (actB l[k].1 l[k].2.1 l[k].2.2 = false → scrB l = false) := fun h => scr_f2 hlt h
    have ha2 : Hid (actB l[k].1 l[k].2.1 l[k].2.2 = true → (l.take (k + 1)).all actOkB = true) := fun h => all_take_succ hlt hall.out h
    have hsa : (actS (l[k].1, l[k].2.1, l[k].2.2)).size ≤ 60 := actS_size
    replace hsn : Hid (scrS (l.take (k + 1)) = scrS (l.take k) ++ (actS (l[k].1, l[k].2.1, l[k].2.2) ++ nl1)) := hsn.out
    generalize actS (l[k].1, l[k].2.1, l[k].2.2) = s at *
    obtain ⟨bb, hbb⟩ : ∃ bb, actB l[k].1 l[k].2.1 l[k].2.2 = bb := ⟨_, rfl⟩
    rw [hbb] at hF hf2 ha2
    clear hbb
    generalize l[k].1 = x0 at *
    generalize l[k].2.1 = x1 at *
    generalize l[k].2.2 = x2 at *
    obtain ⟨s0, hs0e⟩ : ∃ s0, scrS (l.take k) = s0 := ⟨_, rfl⟩
    rw [hs0e] at hsn hs0 ⊢
    clear hs0e
    have hs1 : (s ++ (⟨#[10]⟩ : ByteArray)).size = s.size + 1 := by rw [ByteArray.size_append]; rfl
    have hz1 : ¬ 9223372036854775807 < s.size + 1 := by omega
    have hz2 : ¬ 9223372036854775807 < s0.size + (s ++ (⟨#[10]⟩ : ByteArray)).size := by omega
    have HS1 := Lib.hid hs1
    clear hs1
    go_upto_region 7 with (fail)
    have hal : Below wr.heap.size wr (wr.alloc (.cells #[.int .i64 x0, .int .i64 x1, .int .i64 x2] 26)) := (Below.refl _ _).alloc (Nat.le_refl _) _
    have L : Loc (wr.alloc (.cells #[.int .i64 x0, .int .i64 x1, .int .i64 x2] 26)) wr.heap.size [.int .i64 x0, .int .i64 x1, .int .i64 x2] := Loc.new wr #[.int .i64 x0, .int .i64 x1, .int .i64 x2] 26
    have hbb := bl_trans hb hal
    generalize wr.alloc (.cells #[.int .i64 x0, .int .i64 x1, .int .i64 x2] 26) = W at *
    have b0 := (L 0 _ rfl).1
    have b1 := (L 1 _ rfl).1
    have b2 := (L 2 _ rfl).1
    clear k0 k1 k2 hal
    go_wp2_with fail
    refine (hF.out W (ht.below hbb)).mono ?_
    rintro e w1 ⟨rfl, hb1⟩
    have hb2 := bl_trans hbb hb1
    clear b0 b1 b2 L hb1 hF
    cases bb
    ·go_wp2_with fail
     go_ret2
     exact ⟨scr_f (hf2.out (by simp)), hb2⟩
    ·go_wp2_with fail
     go_roundw
     case rel => exact ⟨k + 1, by omega, by go_num, congrArg Value.string hsn.out.symm, ha2.out (by simp), hb2⟩
     case measure => simp [intOf]; omega
   ·obtain rfl : k = l.length := by omega
    have hok := Lib.hid (scr_all h40 (by have := hall.out; rwa [List.take_length] at this))
    rw [List.take_length]
    go_wp2_with fail
    go_ret2
    exact ⟨scr_t hok.out, hb⟩
 ·go_enter Tryd.func13, Tryd.ntmps13
  go_wp2_with fail
  go_ret2
  exact ⟨scr_f (scr_f1 h40), Below.refl _ _⟩
set_option maxHeartbeats 2000000 in
set_option maxRecDepth 100000 in
theorem specScriptText_any (v : Value) (l : List RA) (w : World) (h : RdL cAct 3 w v l) (hl : l.length ≤ 1048576) :
  Calls Tryd.prog 11 #[v] w fun e w' => e = .returned (.tuple #[.string (scrV l), .bool (scrB l)]) ∧ Below w.heap.size w w' := by
 have h0 := h
 obtain ⟨A, c, rfl, h1, h2⟩ := h.form
 obtain ⟨i0, hi0, hz0, hz1', hz2⟩ := info_parts infoU8
 have hown0 := World.ownsRow_made (size := 1) (e := 5) w #[] 0 (Nat.le_refl _) (by simp [maxLen]) rfl
 have hb0 : Below w.heap.size w (w.alloc (.cells #[] 5)) := (Below.refl _ _).alloc (Nat.le_refl _) _
 go_enter Tryd.func11, Tryd.ntmps11
 go_wp2_with fail
 go_loopw [4, 5] (fun q i wr => ∃ k : Nat, k ≤ l.length ∧ i = .int .i64 k ∧ (l.length ≤ 40 ∨ k = 0) ∧ wr.ownsRow w.heap.size 5 1 q (scrS (l.take k)).size (byteCells (scrS (l.take k))) ∧ Hid ((l.take k).all actOkB = true) ∧ Below w.heap.size w wr) (fun _ i _ => l.length - (intOf i).toNat)
 case atStart => exact ⟨0, Nat.zero_le _, rfl, .inr rfl, hown0, rfl, hb0⟩
 case round =>
  obtain ⟨k, hk, rfl, h40, hown, hall, hb⟩ := hrel
  clear hown0 hb0
  have hz := hb.size
  by_cases hlt : k < l.length
  ·obtain ⟨g, off, rfl, hg, hc⟩ := (h0.below hb).cell cAct_len (by omega) hlt
   have k0 := hc 0 _ rfl
   have k1 := hc 1 _ rfl
   have k2 := hc 2 _ rfl
   simp only [Nat.add_zero] at k0 k1 k2
   clear hc
   have hs0 := scrS_size l k hk
   have hF := Lib.hid (fun W => specFormatAct_any l[k].1 l[k].2.1 l[k].2.2 W)
   have hf2 : Hid (actB l[k].1 l[k].2.1 l[k].2.2 = false → scrB l = false) := fun h => scr_f2 hlt h
   have ha2 : Hid (actB l[k].1 l[k].2.1 l[k].2.2 = true → (l.take (k + 1)).all actOkB = true) := fun h => all_take_succ hlt hall.out h
   have hsa : (actS (l[k].1, l[k].2.1, l[k].2.2)).size ≤ 60 := actS_size
   have hsn : Hid (scrS (l.take (k + 1)) = scrS (l.take k) ++ (actS (l[k].1, l[k].2.1, l[k].2.2) ++ nl1)) := scrS_snoc l hlt
   generalize actS (l[k].1, l[k].2.1, l[k].2.2) = s at *
   obtain ⟨bb, hbb⟩ : ∃ bb, actB l[k].1 l[k].2.1 l[k].2.2 = bb := ⟨_, rfl⟩
   rw [hbb] at hF hf2 ha2
   clear hbb
   generalize l[k].1 = x0 at *
   generalize l[k].2.1 = x1 at *
   generalize l[k].2.2 = x2 at *
   obtain ⟨s0, hs0e⟩ : ∃ s0, scrS (l.take k) = s0 := ⟨_, rfl⟩
   rw [hs0e] at hsn hs0 hown
   clear hs0e
   obtain ⟨Aq, cq, rfl, _, _⟩ := (RdS.of_own hown).form
   have hs1 : (s ++ (⟨#[10]⟩ : ByteArray)).size = s.size + 1 := by rw [ByteArray.size_append]; rfl
   have hz1 : ¬ 9223372036854775807 < s.size + 1 := by omega
   have hn1 : (s0 ++ (s ++ (⟨#[10]⟩ : ByteArray))).size = s0.size + (s ++ (⟨#[10]⟩ : ByteArray)).size := ByteArray.size_append
   have hz4 : s0.size + (s ++ (⟨#[10]⟩ : ByteArray)).size ≤ 140737488355328 := by omega
   have HN1 := Lib.hid hn1
   have HS1 := Lib.hid hs1
   clear hs1 hn1
   go_wp2_with fail
   refine (hF.out wr).mono ?_
   rintro e w1 ⟨rfl, hb1⟩
   have hb2 := bl_trans hb hb1
   have hown1 := own_below hown hb1
   have hz2w := hb2.size
   clear k0 k1 k2 hb1 hF hown
   cases bb
   ·go_wp2_with fail
    go_ret2
    exact ⟨scr_f (hf2.out (by simp)), hb2⟩
   ·by_cases h41 : l.length ≤ 40
    ·go_wp2_with (at_builtin; go_must (refine wpList_append_str _ rfl (.tmp 30) (.tmp 32) _ _ rfl w.heap.size 5 i0 _ Tryd.underlying40 Tryd.underlying9 hi0 hz0 hz1' hz2 rfl _ s0.size (byteCells s0) rfl hown1 (s ++ ⟨#[10]⟩) rfl hz4 hz2w ?_); intro v3 w3 hown3 hgr3)
     have hb3 : Below w.heap.size w w3 := hb2.trans (below_own hown1 hgr3 hz2w)
     go_wp2_with fail
     go_roundw
     case rel => exact ⟨k + 1, by omega, by go_num, .inl h41, by rw [hsn.out]; unfold nl1; rw [bytes_app, HN1.out]; exact hown3, ha2.out (by simp), hb3⟩
     case measure => simp [intOf]; omega
    ·go_wp2_with fail
     go_ret2
     exact ⟨scr_f (scr_f1 h41), hb2⟩
  ·obtain rfl : k = l.length := by omega
   rw [List.take_length] at hown hall
   have hok : Hid (scrB l = true) := scr_all (by omega) hall.out
   have hcv := conv_own hown
   obtain ⟨Aq, cq, rfl, _, _⟩ := (RdS.of_own hown).form
   clear hown
   go_wp2_with fail
   go_ret2
   exact ⟨scr_t hok.out, hb⟩
end Go.Proofs.YtolfclbcfddhpaaDoor
