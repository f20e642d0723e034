/- The drawing of threads. -/
import Derived.Test.YtghjjaijmlkbdaaW1
import Derived.Test.YtghjjaijmlkbdaaRThread
import Derived.Test.YtghjjaijmlkbdaaA4
import Derived.Test.YtghjjaijmlkbdaaM3
namespace Go.Proofs.Ytghjjaijmlkbdaa
open Go.RowKit

def ThrPost (w0 w : World) (g : Nat) (A : Option Addr) (c : Nat) (bs : List Int) (e : Ending) (w' : World) : Prop :=
  ∃ s u : Int, e = .returned (.agg #[.int .i64 s, .int .i64 u]) ∧ (1 ≤ s ∧ s ≤ 100 ∧ 0 ≤ u ∧ u ≤ s) ∧ Cur w0 w' g A c bs ∧ Chg [g] w w'
theorem Chg.alloc {S : List Nat} {w w' : World} (h : Chg S w w') (o : Obj) : Chg S w (w'.alloc o) := h.trans (Chg.of_below ((Below.refl _ _).alloc (Nat.le_refl _) o) S)
set_option maxHeartbeats 2000000 in
set_option maxRecDepth 100000 in
theorem l34Thread_any (w0 w : World) (g : Nat) (A : Option Addr) (c : Nat) (bs : List Int) (hcur : Cur w0 w g A c bs) :
    Calls Try.prog 74 #[.pointer (some ⟨g, 0, none⟩)] w (ThrPost w0 w g A c bs) := by
  have hglt := hcur.lt
  go_enter Try.func74, Try.ntmps74
  go_wp2_with fail
  refine (l01Below_any 100 w0 _ g A c bs (hcur.keep ((Below.refl _ _).alloc (Nat.le_refl _) _)) (by omega) (by omega)).mono ?_
  rintro e w1 ⟨r, rfl, ⟨hr0, hr1⟩, hc1, hch1⟩
  have k0 := carryChg (b := w.heap.size) (o := 0) (v := .int .i64 0) hch1 (by simp [go_sem]) (by simp; omega)
  have k1 := carryChg (b := w.heap.size) (o := 1) (v := .int .i64 0) hch1 (by simp [go_sem]) (by simp; omega)
  have j0 := carryChgF (b := w.heap.size) (o := 0) (v := .int .i64 0) hch1 (by simp [go_sem]) (by simp [go_sem]) (by simp; omega)
  have j1 := carryChgF (b := w.heap.size) (o := 1) (v := .int .i64 0) hch1 (by simp [go_sem]) (by simp [go_sem]) (by simp; omega)
  go_wp2_with fail
  refine (l01Below_any (1 + r + 1) w0 _ g A c bs hc1 (by omega) (by omega)).mono ?_
  rintro e w2 ⟨u, rfl, ⟨hu0, hu1⟩, hc2, hch2⟩
  replace j0 := carryChgF hch2 k0 j0 (by simp; omega)
  replace j1 := carryChgF hch2 k1 j1 (by simp; omega)
  replace k0 := carryChg hch2 k0 (by simp; omega)
  replace k1 := carryChg hch2 k1 (by simp; omega)
  have z1 := hch1.size
  have z2 := hch2.size
  simp at z1
  go_wp2_with fail
  have hbx : Below w2.heap.size w2 w2 := Below.refl _ _
  refine bodyPost_ret (v := .agg #[.int .i64 (1 + r), .int .i64 u]) (by simp [results, Try.results74, go_sem, k0, k1]) rfl ?_
  have hch : Chg [g] w w2 := ((Chg.refl [g] w).alloc _).trans (hch1.trans hch2)
  have hset : Chg [w.heap.size] w2 ((w2.setCell ⟨w.heap.size, 0, none⟩ (.int .i64 (1 + r))).setCell ⟨w.heap.size, 1, none⟩ (.int .i64 u)) := chg_set (chg_set (Chg.refl _ _) (by simp)) (by simp)
  exact ⟨_, _, rfl, ⟨by omega, by omega, by omega, by omega⟩, hc2.chg hset (by simp; omega) (by have := hcur.below.size; simp; omega), ⟨hset.os.trans hch.os, hset.tape.trans hch.tape, hset.output.trans hch.output, Nat.le_trans hch.size hset.size, fun k hk hn => (hset.block k (by omega) (by simp; omega)).trans (hch.block k hk hn)⟩⟩

def ThrsPost (w0 w : World) (g : Nat) (A : Option Addr) (c : Nat) (bs : List Int) (e : Ending) (w' : World) : Prop :=
  ∃ (v : Value) (l : List RThread), e = .returned v ∧ w'.ownsRow w.heap.size 24 2 v l.length (l.flatMap cThread) ∧ (∀ t ∈ l, 1 ≤ t.1 ∧ t.1 ≤ 100 ∧ 0 ≤ t.2 ∧ t.2 ≤ t.1) ∧ l.length ≤ 6 ∧ Cur w0 w' g A c bs ∧ Chg [g] w w'
theorem chg_of_own {w w' wx : World} {S : List Nat} {e : TypeId} {size n : Nat} {v : Value} {xs : List Value} (hc : Chg S w wx) (hown : wx.ownsRow w.heap.size e size v n xs) (hg : wx.grownBy w' v.ownBlock) : Chg S w w' :=
  ⟨hg.os.trans hc.os, hg.tape.trans hc.tape, hg.output.trans hc.output, Nat.le_trans hc.size hg.size, fun k hk hn => (hg.block k (Nat.lt_of_lt_of_le hk hc.size) (fun e => by have := (hown.lt k e.symm).1; omega)).trans (hc.block k hk hn)⟩
theorem cur_own {w0 wx w' : World} {g B : Nat} {A : Option Addr} {c : Nat} {bs : List Int} {e : TypeId} {size n : Nat} {v : Value} {xs : List Value} (hc : Cur w0 wx g A c bs) (hown : wx.ownsRow B e size v n xs) (hg : wx.grownBy w' v.ownBlock) (hgB : g < B) (hw : w0.heap.size ≤ B) : Cur w0 w' g A c bs :=
  hc.chg (Chg.of_grown hg) (fun hm => by have := (hown.lt g (by simpa using hm)).1; omega) (fun b hb => by have := (hown.lt b (by simpa using hb)).1; omega)
set_option maxHeartbeats 2000000 in
set_option maxRecDepth 100000 in
theorem l34List_any (w0 w : World) (g : Nat) (A : Option Addr) (c : Nat) (bs : List Int) (hcur : Cur w0 w g A c bs) :
    Calls Try.prog 61 #[.pointer (some ⟨g, 0, none⟩)] w (ThrsPost w0 w g A c bs) := by
  have hglt := hcur.lt
  have hw0 := hcur.below.size
  obtain ⟨i0, hi0, hz0, hz1, hz2⟩ := info_parts infoThread
  go_enter Try.func61, Try.ntmps61
  go_wp2_with fail
  refine (l01Below_any 7 w0 _ g A c bs (hcur.keep ((Below.refl _ _).alloc (Nat.le_refl _) _)) (by omega) (by omega)).mono ?_
  rintro e w1 ⟨r, rfl, ⟨hr0, hr1⟩, hc1, hch1⟩
  obtain ⟨n, rfl⟩ := Int.eq_ofNat_of_zero_le hr0
  have hown0 := own_chg (World.ownsRow_made (size := 2) (e := 24) w #[] 0 (Nat.le_refl _) (by simp [maxLen]) rfl) hch1 (by simp [Value.ownBlock]; omega)
  go_wp2_with fail
  go_loopw [3, 5] (fun q i wr => ∃ (k : Nat) (l : List RThread), k ≤ n ∧ i = .int .i64 k ∧ Hid (l.length = k) ∧ wr.ownsRow w.heap.size 24 2 q l.length (l.flatMap cThread) ∧ Hid (∀ t ∈ l, 1 ≤ t.1 ∧ t.1 ≤ 100 ∧ 0 ≤ t.2 ∧ t.2 ≤ t.1) ∧ Cur w0 wr g A c bs ∧ Chg [g] w wr) (fun _ i _ => n - (intOf i).toNat)
  case atStart => exact ⟨0, [], Nat.zero_le _, rfl, rfl, hown0, by simp [Hid], hc1, ((Chg.refl [g] w).alloc _).trans hch1⟩
  case round =>
    obtain ⟨k, l, hk, rfl, hl, hown, hval, hc, hch⟩ := hrel
    have hzw := hch.size
    by_cases hlt : k < n
    · go_wp2_with fail
      refine (l34Thread_any w0 _ g A c bs hc).mono ?_
      rintro e w2 ⟨s, u, rfl, hsu, hc2, hch2⟩
      have hown2 := own_chg hown hch2 (fun b hb => by have := (hown.lt b (by simpa using hb)).1; simp; omega)
      have hch' := hch.trans hch2
      have hz2' := hch2.size
      have hll := hl.out
      have hl6 : l.length ≤ 6 := by omega
      have hl' := Lib.hid hll
      clear hll hl
      go_wp2_with (at_builtin; refine wpList_appendR _ rfl (.tmp 17) (.tmp 19) _ rfl w.heap.size 24 i0 _ 2 16 Try.underlying45 hi0 hz0 hz1 hz2 rfl (by omega) _ l.length (l.flatMap cThread) rfl ((hown2.alloc _).alloc _) _ 1 [.int .i64 s, .int .i64 u] rfl (rdS_newAt (w2.alloc _) (w2.heap.size + 1) (by simp) #[.int .i64 s, .int .i64 u] _ 2 1 rfl (by simp [maxLen])) (by simp [Value.oneCell']) (by simp [maxLen]; omega) (by omega) (by simp; omega) ?_; intro v3 w3 hown3 hgr3)
      have hch3 := chg_of_own ((hch'.alloc (.cells #[.int .i64 s, .int .i64 u] 24)).alloc (.cells #[.int .i64 s, .int .i64 u] 24)) ((hown2.alloc _).alloc _) hgr3
      have hc3 := cur_own ((hc2.keep ((Below.refl _ _).alloc (Nat.le_refl _) (.cells #[.int .i64 s, .int .i64 u] 24))).keep ((Below.refl _ _).alloc (Nat.le_refl _) (.cells #[.int .i64 s, .int .i64 u] 24))) ((hown2.alloc _).alloc _) hgr3 hglt hw0
      go_wp2_with fail
      go_roundw
      case rel =>
        refine ⟨k + 1, l ++ [(s, u)], by omega, by go_num, ?_, ?_, ?_, ?_, hch3⟩
        · show _ = _
          rw [List.length_append, hl'.out]; rfl
        · rw [List.length_append, List.flatMap_append]; exact hown3
        · intro t ht
          rcases List.mem_append.1 ht with ht | ht
          · exact hval.out t ht
          · simp at ht; subst ht; exact hsu
        · exact hc3
      case measure => simp [intOf]; omega
    · go_wp2_with fail
      go_ret
      exact ⟨_, l, rfl, hown, hval.out, by have := hl.out; omega, hc, hch⟩

def DrawnThr (w : World) (e : Ending) (w' : World) : Prop :=
  ∃ (v : Value) (l : List RThread), e = .returned v ∧ w'.ownsRow w.heap.size 24 2 v l.length (l.flatMap cThread) ∧ (∀ t ∈ l, 1 ≤ t.1 ∧ t.1 ≤ 100 ∧ 0 ≤ t.2 ∧ t.2 ≤ t.1) ∧ l.length ≤ 6 ∧ Below w.heap.size w w'
theorem drawThreads_any (A : Option Addr) (c : Nat) (bs : List Int) (w : World) (h : RdL cU8 1 w (.slice A bs.length c) bs) (hby : ∀ x ∈ bs, 0 ≤ x ∧ x ≤ 255) (hlen : bs.length ≤ 1048576) :
    Calls Try.prog 32 #[.slice A bs.length c] w (DrawnThr w) := by
  go_enter Try.func32, Try.ntmps32
  go_wp2_with fail
  refine (l01New_any A c bs w h hby hlen).mono ?_
  rintro e w1 ⟨g, rfl, hc⟩
  go_wp2_with fail
  refine (l34List_any w w1 g A c bs hc).mono ?_
  rintro e w2 ⟨v, l, rfl, hown, hval, hl, hc2, hch⟩
  have hz := hc.below.size
  go_wp2_with fail
  go_ret
  exact ⟨v, l, rfl, own_mono hown hz, hval, hl, hc2.below⟩
end Go.Proofs.Ytghjjaijmlkbdaa
