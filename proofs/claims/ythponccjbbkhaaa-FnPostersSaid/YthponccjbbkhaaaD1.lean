/- Contracts: words: areBytes, areWords, l36Ok. -/
import Derived.Test.YthponccjbbkhaaaC1
namespace Go.Proofs.Ythponccjbbkhaaa
open Go.RowKit

theorem str_isEmpty (s : ByteArray) : s.toList.isEmpty = decide (s.size = 0) := by
  rw [ByteArray.toList_eq]
  rw [Bool.eq_iff_iff, List.isEmpty_iff_length_eq_zero, Array.length_toList, decide_eq_true_iff]
  exact Iff.rfl
def byteB (a b : Int) (c : UInt8) : Bool := decide (a ≤ (c.toNat : Int)) && decide ((c.toNat : Int) ≤ b)
def bytesB (s : ByteArray) (a b : Int) : Bool := s.data.toList.all (byteB a b)
theorem str_get (s : ByteArray) (k : Nat) (h : k < s.size) : s.data.toList[k]'(by simpa using h) = s[k] := rfl
theorem byteB_t {a b : Int} {c : UInt8} (h1 : ¬ (c.toNat : Int) < a) (h2 : ¬ b < (c.toNat : Int)) : byteB a b c = true := by simp [byteB]; omega
theorem byteB_f1 {a b : Int} {c : UInt8} (h1 : (c.toNat : Int) < a) : byteB a b c = false := by simp [byteB]; omega
theorem byteB_f2 {a b : Int} {c : UInt8} (h1 : b < (c.toNat : Int)) : byteB a b c = false := by simp [byteB]; omega

set_option maxHeartbeats 1000000 in
theorem areBytes_any (s : ByteArray) (a b : Int) (w : World) (hs : s.size ≤ 9223372036854775807) (ha : 0 ≤ a ∧ a ≤ 255) (hb : 0 ≤ b ∧ b ≤ 255) :
    Calls Try.prog 105 #[.string s, .int .u8 a, .int .u8 b] w fun e w' => e = .returned (.bool (bytesB s a b)) ∧ w = w' := by
  go_enter Try.func105, Try.ntmps105
  go_wp2_with fail
  go_loop [10] (fun i => ∃ k : Nat, k ≤ s.size ∧ i = .int .i64 k ∧ Hid ((s.data.toList.take k).all (byteB a b) = true)) (fun i => s.size - (intOf i).toNat)
  case atStart => exact ⟨0, Nat.zero_le _, rfl, by rfl⟩
  case round =>
    obtain ⟨k, hk, rfl, hall⟩ := hrel
    by_cases hlt : k < s.size
    · have hl : k < s.data.toList.length := by simpa using hlt
      by_cases h1 : (s[k].toNat : Int) < a
      · go_wp2_with fail
        go_ret
        exact ⟨ret_bool (all_false_at hl (byteB_f1 h1)).symm, rfl⟩
      · by_cases h2 : b < (s[k].toNat : Int)
        · go_wp2_with fail
          go_ret
          exact ⟨ret_bool (all_false_at hl (byteB_f2 h2)).symm, rfl⟩
        · go_wp2_with fail
          go_round
          case rel => exact ⟨k + 1, by omega, by go_num, all_take_succ hl hall.out (byteB_t h1 h2)⟩
          case measure => simp [intOf]; omega
    · go_wp2_with fail
      go_ret
      exact ⟨ret_bool (all_take_end (l := s.data.toList) (by simpa using hlt) hall.out).symm, rfl⟩

def wordB (width : Int) (s : ByteArray) : Bool := inB s.size 1 width && bytesB s 33 126
def wordsB (width : Int) (l : List ByteArray) : Bool := (inB width 1 60 && decide (l.length ≤ 40)) && l.all (wordB width)
theorem wordsB_f1 {width : Int} {l : List ByteArray} (h : inB width 1 60 = false) : wordsB width l = false := by rw [wordsB, h]; rfl
theorem wordsB_f2 {width : Int} {l : List ByteArray} (h : 40 < l.length) : wordsB width l = false := by rw [wordsB, show decide (l.length ≤ 40) = false by simp; omega, Bool.and_false]; rfl
theorem wordsB_f3 {width : Int} {l : List ByteArray} (h : l.all (wordB width) = false) : wordsB width l = false := by rw [wordsB, h, Bool.and_false]
theorem wordsB_t {width : Int} {l : List ByteArray} (h1 : inB width 1 60 = true) (h2 : ¬ 40 < l.length) (h3 : l.all (wordB width) = true) : wordsB width l = true := by
  rw [wordsB, h1, h3, show decide (l.length ≤ 40) = true by simp; omega]; rfl
theorem wordB_t {width : Int} {s : ByteArray} (h1 : 1 ≤ s.size) (h2 : ¬ width < s.size) (h3 : bytesB s 33 126 = true) : wordB width s = true := by
  rw [wordB, h3, show inB s.size 1 width = true from inB_iff.2 (by omega)]; rfl
theorem wordB_f1 {width : Int} {s : ByteArray} (h : ¬ (1 ≤ s.size ∧ (s.size : Int) ≤ width)) : wordB width s = false := by
  rw [wordB, show inB s.size 1 width = false from inB_false.2 (by omega)]; rfl
theorem wordB_f2 {width : Int} {s : ByteArray} (h : bytesB s 33 126 = false) : wordB width s = false := by rw [wordB, h, Bool.and_false]

set_option maxHeartbeats 1000000 in
theorem areWords_any (v : Value) (l : List ByteArray) (m : Int) (w : World) (h : RdL cStr 1 w v l) (hs : ∀ s ∈ l, s.size ≤ 9223372036854775807) :
    Calls Try.prog 104 #[v, .int .i64 m] w fun e w' => e = .returned (.bool (wordsB m l)) ∧ w = w' := by
  obtain ⟨A, c, rfl, h1, h2⟩ := h.form
  have Hs := Lib.hid hs
  clear hs
  by_cases hlen : 40 < l.length
  · go_enter Try.func104, Try.ntmps104
    go_wp2_with (go_at_call 73; refine two (within_any _ _ _ _) (fun hc => ?_) (fun hc => ?_))
    all_goals
      go_ret
      exact ⟨ret_bool (wordsB_f2 hlen).symm, rfl⟩
  · go_enter Try.func104, Try.ntmps104
    go_wp2_with (go_at_call 73; refine two (within_any _ _ _ _) (fun hc => ?_) (fun hc => ?_))
    · go_loop [17] (fun i => ∃ k : Nat, k ≤ l.length ∧ i = .int .i64 k ∧ Hid ((l.take k).all (wordB m) = true)) (fun i => l.length - (intOf i).toNat)
      case atStart => exact ⟨0, Nat.zero_le _, rfl, by rfl⟩
      case round =>
        obtain ⟨k, hk, rfl, hall⟩ := hrel
        by_cases hlt : k < l.length
        · obtain ⟨g, off, rfl, hg, hc'⟩ := h.cell cStr_len (by omega) hlt
          have k0 := hc' 0 _ rfl
          simp only [Nat.add_zero, Nat.mul_one] at k0
          clear hc'
          have hsz := Hs.out l[k] (List.getElem_mem hlt)
          by_cases he : l[k].size = 0
          · have hee : l[k].toList.isEmpty = true := by rw [str_isEmpty, he]; rfl
            go_wp2_with fail
            go_ret
            exact ⟨ret_bool (wordsB_f3 (all_false_at hlt (wordB_f1 (by omega)))).symm, rfl⟩
          · have hee : l[k].toList.isEmpty = false := by rw [str_isEmpty]; simp [he]
            by_cases hw : m < l[k].size
            · go_wp2_with fail
              go_ret
              exact ⟨ret_bool (wordsB_f3 (all_false_at hlt (wordB_f1 (by omega)))).symm, rfl⟩
            · go_wp2_with (go_at_call 105; refine two (areBytes_any _ _ _ _ hsz (by omega) (by omega)) (fun hq => ?_) (fun hq => ?_))
              · go_round
                case rel => exact ⟨k + 1, by omega, by go_num, all_take_succ hlt hall.out (wordB_t (by omega) (by omega) hq.out)⟩
                case measure => simp [intOf]; omega
              · go_ret
                exact ⟨ret_bool (wordsB_f3 (all_false_at hlt (wordB_f2 hq.out))).symm, rfl⟩
        · go_wp2_with fail
          go_ret
          exact ⟨ret_bool (wordsB_t hc.out hlen (all_take_end hlt hall.out)).symm, rfl⟩
    · go_ret
      exact ⟨ret_bool (wordsB_f1 hc.out).symm, rfl⟩

end Go.Proofs.Ythponccjbbkhaaa
