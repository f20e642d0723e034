/- Plain: an act's own text, with spaces around it, is read as the act. No program in sight. -/
import Derived.Test.YtminhkfbpiknkaaDoorBdH3x2
namespace Go.Proofs.YtminhkfbpiknkaaDoor
theorem jn_mem {c x : UInt8} : ∀ {fs : List (List UInt8)}, x ∈ jn c fs → x = c ∨ ∃ f ∈ fs, x ∈ f := by
 intro fs
 induction fs with
 | nil => intro h; cases h
 | cons w fs ih =>
  intro h
  match fs with
  | [] => exact .inr ⟨w, List.mem_cons_self, h⟩
  | y :: r =>
   rw [jn_cons] at h
   rcases List.mem_append.1 h with h | h
   ·exact .inr ⟨w, List.mem_cons_self, h⟩
   ·rcases List.mem_cons.1 h with h | h
    ·exact .inl h
    ·rcases ih h with h | ⟨f, hf, h⟩
     ·exact .inl h
     ·exact .inr ⟨f, List.mem_cons_of_mem _ hf, h⟩
theorem word_bytes {k : Int} (h : k = 1 ∨ k = 2 ∨ k = 3 ∨ k = 4 ∨ k = 5 ∨ k = 6 ∨ k = 7) : (kWord k).data.toList.all (byteB 32 126) = true := by
 rcases h with rfl | rfl | rfl | rfl | rfl | rfl | rfl <;> decide
theorem act_bytes {t : RA} (h : actB t.1 t.2.1 t.2.2 = true) : ∀ x ∈ jn 32 (actTok t), byteB 32 126 x = true := by
 intro x hx
 rcases jn_mem hx with rfl | ⟨f, hf, hx⟩
 ·decide
 ·rcases List.mem_cons.1 hf with rfl | hf
  ·exact List.all_eq_true.1 (word_bytes (act_k h)) x hx
  ·obtain ⟨n, hn, rfl⟩ := List.mem_map.1 hf
   have hb := nums_bd h n hn
   obtain ⟨m, rfl⟩ := Int.eq_ofNat_of_zero_le hb.1
   rw [itoa_nat] at hx
   have := dec_digits m x hx
   exact byteB_t (by omega) (by omega)
theorem kNums_len (k a b : Int) : (kNums k a b).length ≤ 2 := by
 unfold kNums
 (repeat' split) <;> simp
def padS (s : ByteArray) : ByteArray := (⟨#[32, 32]⟩ : ByteArray) ++ s ++ (⟨#[32]⟩ : ByteArray)
theorem pad_read {t : RA} (h : actB t.1 t.2.1 t.2.2 = true) (hz : (actS t).size ≤ 60) : prsA (padS (actS t)) = (t, true) := by
 have el : (padS (actS t)).data.toList = [32, 32] ++ jn 32 (actTok t) ++ [32] := by
  unfold padS
  rw [ByteArray.data_append, ByteArray.data_append, Array.toList_append, Array.toList_append, actS_list h]
 have ht : tok (padS (actS t)).data.toList = actTok t := by rw [el]; exact tok_pad (actTok_flds h)
 have hs : (padS (actS t)).size = (actS t).size + 3 := by
  unfold padS
  rw [ByteArray.size_append, ByteArray.size_append]
  show 2 + _ + 1 = _
  omega
 have hby : bytesB (padS (actS t)) 32 126 = true := by
  unfold bytesB
  rw [el, List.all_eq_true]
  intro x hx
  rcases List.mem_append.1 hx with hx | hx
  ·rcases List.mem_append.1 hx with hx | hx
   ·simp at hx; subst hx; decide
   ·exact act_bytes h x hx
  ·simp at hx; subst hx; decide
 have hf : fldB (padS (actS t)) = true := by
  unfold fldB lineB
  rw [ht, hby, decide_eq_true (by omega), decide_eq_true]
  ·rfl
  ·have := kNums_len t.1 t.2.1 t.2.2
   simp [actTok]; omega
 unfold prsA
 rw [if_pos hf, ← read_same]
 unfold fldF
 rw [if_pos hf, ht]
 exact read_act h
end Go.Proofs.YtminhkfbpiknkaaDoor
