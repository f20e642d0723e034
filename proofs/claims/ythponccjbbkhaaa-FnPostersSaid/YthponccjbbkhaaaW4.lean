/- The drawing of words. -/
import Derived.Test.YthponccjbbkhaaaW1
import Derived.Test.YthponccjbbkhaaaC1
import Derived.Test.YthponccjbbkhaaaM3
namespace Go.Proofs.Ythponccjbbkhaaa
open Go.RowKit

theorem Chg.alloc {S : List Nat} {w w' : World} (h : Chg S w w') (o : Obj) : Chg S w (w'.alloc o) := h.trans (Chg.of_below ((Below.refl _ _).alloc (Nat.le_refl _) o) S)
theorem chg_of_own {w w' wx : World} {S : List Nat} {e : TypeId} {size n : Nat} {v : Value} {xs : List Value} (hc : Chg S w wx) (hown : wx.ownsRow w.heap.size e size v n xs) (hg : wx.grownBy w' v.ownBlock) : Chg S w w' :=
  ⟨hg.os.trans hc.os, hg.tape.trans hc.tape, hg.output.trans hc.output, Nat.le_trans hc.size hg.size, fun k hk hn => (hg.block k (Nat.lt_of_lt_of_le hk hc.size) (fun e => by have := (hown.lt k e.symm).1; omega)).trans (hc.block k hk hn)⟩
theorem cur_own {w0 wx w' : World} {g B : Nat} {A : Option Addr} {c : Nat} {bs : List Int} {e : TypeId} {size n : Nat} {v : Value} {xs : List Value} (hc : Cur w0 wx g A c bs) (hown : wx.ownsRow B e size v n xs) (hg : wx.grownBy w' v.ownBlock) (hgB : g < B) (hw : w0.heap.size ≤ B) : Cur w0 w' g A c bs :=
  hc.chg (Chg.of_grown hg) (fun hm => by have := (hown.lt g (by simpa using hm)).1; omega) (fun b hb => by have := (hown.lt b (by simpa using hb)).1; omega)

def PickPost (l : List ByteArray) (w0 w : World) (g : Nat) (A : Option Addr) (c : Nat) (bs : List Int) (e : Ending) (w' : World) : Prop :=
  ∃ s ∈ l, e = .returned (.string s) ∧ Cur w0 w' g A c bs ∧ Chg [g] w w'
set_option maxHeartbeats 2000000 in
set_option maxRecDepth 100000 in
theorem l01Pick_any (b : Nat) (l : List ByteArray) (w0 w : World) (g : Nat) (A : Option Addr) (c : Nat) (bs : List Int) (hcur : Cur w0 w g A c bs)
    (hl : 0 < l.length ∧ l.length ≤ 256) (hb : b ≠ g) (hc : ∀ j (h : j < l.length), w.cell? ⟨b, j, none⟩ = some (.string l[j])) :
    Calls Try.prog 120 #[.pointer (some ⟨g, 0, none⟩), .slice (some ⟨b, 0, none⟩) l.length l.length] w (PickPost l w0 w g A c bs) := by
  have HC := Lib.hid hc
  clear hc
  go_enter Try.func120, Try.ntmps120
  go_wp2_with fail
  refine (l01Below_any l.length w0 _ g A c bs hcur (by omega) (by omega)).mono ?_
  rintro e w1 ⟨r, rfl, ⟨hr0, hr1⟩, hc1, hch1⟩
  obtain ⟨n, rfl⟩ := Int.eq_ofNat_of_zero_le hr0
  have hn : n < l.length := by omega
  have k0 := carryChg hch1 (HC.out n hn) (by simpa using hb)
  have hm := Lib.hid (List.getElem_mem hn)
  generalize l[n] = s at *
  go_wp2_with fail
  go_ret
  exact ⟨s, hm.out, rfl, hc1, hch1⟩
def wordsL : List ByteArray := [⟨#[116, 104, 101]⟩, ⟨#[70, 111, 120]⟩, ⟨#[97, 110, 100]⟩, ⟨#[97]⟩, ⟨#[67, 114, 111, 119]⟩, ⟨#[116, 111, 110, 105, 103, 104, 116, 33]⟩, ⟨#[80, 114, 105, 110, 99, 101, 115, 115]⟩, ⟨#[105, 110]⟩]
def WordsPost (w0 w : World) (g : Nat) (A : Option Addr) (c : Nat) (bs : List Int) (e : Ending) (w' : World) : Prop :=
  ∃ (v : Value) (l : List ByteArray), e = .returned v ∧ w'.ownsRow w.heap.size 9 1 v l.length (l.flatMap cStr) ∧ (∀ s ∈ l, s ∈ wordsL) ∧ l.length ≤ 8 ∧ Cur w0 w' g A c bs ∧ Chg [g] w w'
set_option maxHeartbeats 2000000 in
set_option maxRecDepth 100000 in
theorem l36Words_any (w0 w : World) (g : Nat) (A : Option Addr) (c : Nat) (bs : List Int) (hcur : Cur w0 w g A c bs) :
    Calls Try.prog 103 #[.pointer (some ⟨g, 0, none⟩)] w (WordsPost w0 w g A c bs) := by
  have hglt := hcur.lt
  have hw0 := hcur.below.size
  obtain ⟨i0, hi0, hz0, hz1, hz2⟩ := info_parts infoString
  go_enter Try.func103, Try.ntmps103
  go_wp2_with fail
  refine (l01Below_any 9 w0 _ g A c bs (hcur.keep ((Below.refl _ _).alloc (Nat.le_refl _) _)) (by omega) (by omega)).mono ?_
  rintro e w1 ⟨r, rfl, ⟨hr0, hr1⟩, hc1, hch1⟩
  obtain ⟨n, rfl⟩ := Int.eq_ofNat_of_zero_le hr0
  have hown0 := own_chg (World.ownsRow_made (size := 1) (e := 9) w #[] 0 (Nat.le_refl _) (by simp [maxLen]) rfl) hch1 (by simp [Value.ownBlock]; omega)
  go_wp2_with fail
  go_loopw [3, 4] (fun q i wr => ∃ (k : Nat) (l : List ByteArray), k ≤ n ∧ i = .int .i64 ((n - k : Nat) : Int) ∧ Hid (l.length = k) ∧ wr.ownsRow w.heap.size 9 1 q l.length (l.flatMap cStr) ∧ Hid (∀ t ∈ l, t ∈ wordsL) ∧ Cur w0 wr g A c bs ∧ Chg [g] w wr) (fun _ i _ => (intOf i).toNat)
  case atStart => exact ⟨0, [], Nat.zero_le _, rfl, rfl, hown0, by simp [Hid], hc1, ((Chg.refl [g] w).alloc _).trans hch1⟩
  case round =>
    obtain ⟨k, l, hk, rfl, hl, hown, hval, hc, hch⟩ := hrel
    have hzw := hch.size
    by_cases hlt : k < n
    · obtain ⟨m, hm⟩ : ∃ m, n - k = m + 1 := ⟨n - k - 1, by omega⟩
      rw [hm]
      have Hm := Lib.hid hm
      have hll := hl.out
      have hl6 : l.length ≤ 8 := by omega
      have hl' := Lib.hid hll
      have hm8 : m ≤ 8 := by omega
      clear hll hl hm
      go_wp2_with fail
      refine (l01Pick_any wr.heap.size wordsL w0 _ g A c bs (hc.keep ((Below.refl _ _).alloc (Nat.le_refl _) _)) (by decide) (by have := hc.lt; omega) (fun j hj => by
        rw [cell_of_row _ wr.heap.size j _ _ (0, 0) (heap_alloc_new wr _)]
        match j, hj with
        | 0, _ => rfl
        | 1, _ => rfl
        | 2, _ => rfl
        | 3, _ => rfl
        | 4, _ => rfl
        | 5, _ => rfl
        | 6, _ => rfl
        | 7, _ => rfl
        | n + 8, h => exact absurd h (by simp [wordsL]))).mono ?_
      rintro e w2 ⟨s, hs, rfl, hc2, hch2⟩
      have hs' := Lib.hid hs
      clear hs
      have hown2 := own_chg (hown.alloc (.cells #[.string ⟨#[116, 104, 101]⟩, .string ⟨#[70, 111, 120]⟩, .string ⟨#[97, 110, 100]⟩, .string ⟨#[97]⟩, .string ⟨#[67, 114, 111, 119]⟩, .string ⟨#[116, 111, 110, 105, 103, 104, 116, 33]⟩, .string ⟨#[80, 114, 105, 110, 99, 101, 115, 115]⟩, .string ⟨#[105, 110]⟩] 9)) hch2 (fun b hb => by have := (hown.lt b (by simpa using hb)).1; simp; omega)
      have hch' := (hch.alloc (.cells #[.string ⟨#[116, 104, 101]⟩, .string ⟨#[70, 111, 120]⟩, .string ⟨#[97, 110, 100]⟩, .string ⟨#[97]⟩, .string ⟨#[67, 114, 111, 119]⟩, .string ⟨#[116, 111, 110, 105, 103, 104, 116, 33]⟩, .string ⟨#[80, 114, 105, 110, 99, 101, 115, 115]⟩, .string ⟨#[105, 110]⟩] 9)).trans hch2
      have hz2' := hch2.size
      simp at hz2'
      go_wp2_with (at_builtin; refine wpList_appendR _ rfl (.tmp 16) (.tmp 18) _ rfl w.heap.size 9 i0 _ 1 16 Try.underlying78 hi0 hz0 hz1 hz2 rfl (by omega) _ l.length (l.flatMap cStr) rfl (hown2.alloc _) _ 1 [.string s] rfl (rdS_new w2 #[.string s] _ 1 1 rfl (by simp [maxLen])) (by simp [Value.oneCell']) (by simp [maxLen]; omega) (by omega) (by simp; omega) ?_; intro v3 w3 hown3 hgr3)
      have hch3 := chg_of_own (hch'.alloc (.cells #[.string s] 9)) (hown2.alloc _) hgr3
      have hc3 := cur_own (hc2.keep ((Below.refl _ _).alloc (Nat.le_refl _) (.cells #[.string s] 9))) (hown2.alloc _) hgr3 hglt hw0
      go_wp2_with fail
      go_roundw
      case rel =>
        refine ⟨k + 1, l ++ [s], by omega, int_eq (by have := Hm.out; omega), ?_, ?_, ?_, ?_, hch3⟩
        · show _ = _
          rw [List.length_append, hl'.out]; rfl
        · rw [List.length_append, List.flatMap_append]; exact hown3
        · intro t ht
          rcases List.mem_append.1 ht with ht | ht
          · exact hval.out t ht
          · simp at ht; subst ht; exact hs'.out
        · exact hc3
      case measure => simp [intOf]
    · have hm : n - k = 0 := by omega
      rw [hm]
      have Hm := Lib.hid hm
      clear hm
      go_wp2_with fail
      go_ret
      exact ⟨_, l, rfl, hown, hval.out, by have := hl.out; omega, hc, hch⟩
def DrawnWords (w : World) (e : Ending) (w' : World) : Prop :=
  ∃ (v : Value) (l : List ByteArray), e = .returned v ∧ w'.ownsRow w.heap.size 9 1 v l.length (l.flatMap cStr) ∧ (∀ s ∈ l, s ∈ wordsL) ∧ l.length ≤ 8 ∧ Below w.heap.size w w'
theorem drawWords_any (A : Option Addr) (c : Nat) (bs : List Int) (w : World) (h : RdL cU8 1 w (.slice A bs.length c) bs) (hby : ∀ x ∈ bs, 0 ≤ x ∧ x ≤ 255) (hlen : bs.length ≤ 1048576) :
    Calls Try.prog 65 #[.slice A bs.length c] w (DrawnWords w) := by
  go_enter Try.func65, Try.ntmps65
  go_wp2_with fail
  refine (l01New_any A c bs w h hby hlen).mono ?_
  rintro e w1 ⟨g, rfl, hc⟩
  go_wp2_with fail
  refine (l36Words_any w w1 g A c bs hc).mono ?_
  rintro e w2 ⟨v, l, rfl, hown, hval, hl, hc2, hch⟩
  have hz := hc.below.size
  go_wp2_with fail
  go_ret
  exact ⟨v, l, rfl, own_mono hown hz, hval, hl, hc2.below⟩
end Go.Proofs.Ythponccjbbkhaaa
