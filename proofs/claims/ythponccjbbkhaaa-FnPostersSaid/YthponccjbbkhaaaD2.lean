/- Contracts: PosterLines, FewestLines. -/
import Derived.Test.YthponccjbbkhaaaD1
import Derived.Test.YthponccjbbkhaaaM3
import Derived.StillTailTactics
namespace Go.Proofs.Ythponccjbbkhaaa
open Go.RowKit

def spc : ByteArray := ⟨#[32]⟩
def lastOf (out : List ByteArray) : ByteArray := out.getD (out.length - 1) ByteArray.empty
def fitsB (m : Int) (out : List ByteArray) (w : ByteArray) : Bool := decide (0 < out.length) && decide (((lastOf out).size : Int) + 1 + w.size ≤ m)
def postStep (m : Int) (out : List ByteArray) (w : ByteArray) : List ByteArray :=
  if fitsB m out w = true then out.set (out.length - 1) (lastOf out ++ (spc ++ w)) else out ++ [w]
def postF (m : Int) (l : List ByteArray) : List ByteArray := l.foldl (postStep m) []
def postL (m : Int) (l : List ByteArray) : List ByteArray := if wordsB m l = true then postF m l else []
theorem postF_succ (m : Int) (l : List ByteArray) {k : Nat} (h : k < l.length) : postF m (l.take (k + 1)) = postStep m (postF m (l.take k)) l[k] := foldl_take_succ _ _ l h
theorem fitsB_iff {m : Int} {out : List ByteArray} {w : ByteArray} : fitsB m out w = true ↔ 0 < out.length ∧ ((lastOf out).size : Int) + 1 + w.size ≤ m := by simp [fitsB]
theorem postStep_len (m : Int) (out : List ByteArray) (w : ByteArray) : (postStep m out w).length ≤ out.length + 1 := by
  unfold postStep; split <;> simp
theorem lastOf_get {out : List ByteArray} (h : 0 < out.length) : lastOf out = out[out.length - 1] := by
  unfold lastOf; rw [List.getD_eq_getElem?_getD, List.getElem?_eq_getElem (by omega)]; rfl
theorem postStep_size {m : Int} {out : List ByteArray} {w : ByteArray} (h : ∀ s ∈ out, (s.size : Int) ≤ m) (hw : (w.size : Int) ≤ m) : ∀ s ∈ postStep m out w, (s.size : Int) ≤ m := by
  intro s hs
  unfold postStep at hs
  by_cases hf : fitsB m out w = true
  · rw [if_pos hf] at hs
    obtain ⟨_, h2⟩ := fitsB_iff.1 hf
    rcases List.mem_or_eq_of_mem_set hs with h1 | rfl
    · exact h s h1
    · rw [ByteArray.size_append, ByteArray.size_append]
      have : spc.size = 1 := rfl
      omega
  · rw [if_neg hf] at hs
    rcases List.mem_append.1 hs with h1 | h1
    · exact h s h1
    · simp at h1; subst h1; exact hw
theorem postF_len (m : Int) (l : List ByteArray) (k : Nat) (hk : k ≤ l.length) : (postF m (l.take k)).length ≤ k := by
  induction k with
  | zero => simp [postF]
  | succ k ih => rw [postF_succ m l (by omega)]; have := postStep_len m (postF m (l.take k)) l[k]; have := ih (by omega); omega
theorem words_size {m : Int} {l : List ByteArray} (h : wordsB m l = true) : (∀ s ∈ l, 1 ≤ s.size ∧ (s.size : Int) ≤ m) ∧ 1 ≤ m ∧ m ≤ 60 ∧ l.length ≤ 40 := by
  unfold wordsB at h
  rw [Bool.and_eq_true, Bool.and_eq_true] at h
  obtain ⟨⟨h1, h2⟩, h3⟩ := h
  have := inB_iff.1 h1
  refine ⟨fun s hs => ?_, by omega, by omega, by simpa using h2⟩
  have := List.all_eq_true.1 h3 s hs
  unfold wordB at this
  rw [Bool.and_eq_true] at this
  have := inB_iff.1 this.1
  omega
theorem postF_size {m : Int} {l : List ByteArray} (h : ∀ s ∈ l, (s.size : Int) ≤ m) (k : Nat) (hk : k ≤ l.length) : ∀ s ∈ postF m (l.take k), (s.size : Int) ≤ m := by
  induction k with
  | zero => simp [postF]
  | succ k ih => rw [postF_succ m l (by omega)]; exact postStep_size (ih (by omega)) (h _ (List.getElem_mem _))

set_option maxHeartbeats 2000000 in
set_option maxRecDepth 100000 in
theorem implPosterLines_any (v : Value) (l : List ByteArray) (m : Int) (w : World) (h : RdL cStr 1 w v l) (hs : ∀ s ∈ l, s.size ≤ 9223372036854775807) :
    Calls Try.prog 66 #[v, .int .i64 m] w fun e w' => ∃ v', e = .returned v' ∧ w'.ownsRow w.heap.size 9 1 v' (postL m l).length ((postL m l).flatMap cStr) ∧ Below w.heap.size w w' := by
  have hcon := fun W hr => areWords_any v l m W hr hs
  obtain ⟨A, c, rfl, h1, h2⟩ := h.form
  obtain ⟨i0, hi0, hz0, hz1, hz2⟩ := info_parts infoString
  have Hcon := Lib.hid hcon
  clear hcon hs
  go_enter Try.func66, Try.ntmps66
  go_wp2_with (go_at_call 104; refine two (Hcon.out _ h) (fun hc => ?_) (fun hc => ?_))
  · have hwd := words_size hc.out
    have Hwd := Lib.hid hwd.1
    obtain ⟨_, hm1, hm2, hll⟩ := hwd
    go_loopw [5, 16] (fun q i wr => ∃ k : Nat, k ≤ l.length ∧ i = .int .i64 k ∧ wr.ownsRow w.heap.size 9 1 q (postF m (l.take k)).length ((postF m (l.take k)).flatMap cStr) ∧ Below w.heap.size w wr) (fun _ i _ => l.length - (intOf i).toNat)
    case atStart => exact ⟨0, Nat.zero_le _, rfl, World.ownsRow_made (size := 1) (e := 9) w #[] 0 (Nat.le_refl _) (by simp [maxLen]) rfl, by (repeat' (first | exact Below.refl _ _ | (refine Below.setCell ?_ (by first | omega | (simp; omega) | (simp; done)) _) | (refine Below.alloc ?_ (by first | omega | (simp; omega) | (simp; done)) _) | (refine Below.drew ?_) | (refine below_drewN ?_ _) | (refine Below.trans ?_ (Below.mono (by assumption) (by first | omega | (simp; omega) | (simp; done))))))⟩
    case round =>
      obtain ⟨k, hk, rfl, hown, hb⟩ := hrel
      have hz := hb.size
      by_cases hlt : k < l.length
      · have hr1 := h.below hb
        obtain ⟨g, off, rfl, hg, hc'⟩ := hr1.cell cStr_len (by omega) hlt
        have k0 := hc' 0 _ rfl
        simp only [Nat.add_zero, Nat.mul_one] at k0
        clear hc'
        have hws := Hwd.out l[k] (List.getElem_mem hlt)
        have hpl := postF_len m l k hk
        have hps := postF_size (fun s hs => (Hwd.out s hs).2) k hk
        have Hsu := Lib.hid (postF_succ m l hlt)
        generalize hP : postF m (l.take k) = P at *
        clear hP
        have Hps := Lib.hid hps
        clear hps
        by_cases hn : 0 < P.length
        · obtain ⟨g1, cap1, rfl⟩ := own_form hown hn
          have hrd : RdL cStr 1 wr (.slice (some ⟨g1, 0, none⟩) P.length cap1) P := RdS.of_own hown
          obtain ⟨g', off', hAA, hg1, hc1⟩ := hrd.cell (k := P.length - 1) cStr_len (by omega) (by omega)
          injection hAA with hAA
          injection hAA with e1 e2
          subst e1 e2
          have k1 := hc1 0 _ rfl
          simp only [Nat.add_zero, Nat.mul_one, Nat.zero_add] at k1
          have hla := Hps.out P[P.length - 1] (List.getElem_mem _)
          have hlo := lastOf_get hn
          rw [← hlo] at k1 hla
          have Hlo := Lib.hid hlo
          clear hlo hc1
          generalize hq : lastOf P = q at *
          have Hq := Lib.hid hq
          clear hq
          have f1 := hown.frozenAt (P.length - 1)
          have hge := (hown.lt g1 rfl).1
          by_cases hf : (q.size : Int) + 1 + l[k].size ≤ m
          · go_wp2_with fail
            have hset := (hown.stored (P.length - 1) (.string (q ++ (spc ++ l[k])))).1
            rw [flat_set1 cStr_len P (P.length - 1) (by omega) _ (q ++ (spc ++ l[k])) rfl] at hset
            have hst : postStep m P l[k] = P.set (P.length - 1) (q ++ (spc ++ l[k])) := by rw [postStep, if_pos (fitsB_iff.2 ⟨hn, by rw [Hq.out]; exact hf⟩), Hq.out]
            go_roundw
            case rel =>
              refine ⟨k + 1, by omega, by go_num, ?_, by (repeat' (first | exact Below.refl _ _ | (refine Below.setCell ?_ (by first | omega | (simp; omega) | (simp; done)) _) | (refine Below.alloc ?_ (by first | omega | (simp; omega) | (simp; done)) _) | (refine Below.drew ?_) | (refine below_drewN ?_ _) | (refine Below.trans ?_ (Below.mono (by assumption) (by first | omega | (simp; omega) | (simp; done))))))⟩
              rw [Hsu.out, hst, List.length_set]
              exact hset
            case measure => simp [intOf]; omega
          · have hst : postStep m P l[k] = P ++ [l[k]] := by rw [postStep, if_neg (fun h => by have := (fitsB_iff.1 h).2; rw [Hq.out] at this; omega)]
            have Hst := Lib.hid hst
            clear hst
            go_wp2_with (at_builtin; refine wpList_appendR _ rfl (.tmp 47) (.tmp 49) _ rfl w.heap.size 9 i0 _ 1 16 Try.underlying78 hi0 hz0 hz1 hz2 rfl (by omega) _ P.length (P.flatMap cStr) rfl (hown.alloc _) _ 1 [.string l[k]] rfl (rdS_new wr #[.string l[k]] _ 1 1 rfl (by simp [maxLen])) (by simp [Value.oneCell']) (by simp [maxLen]; omega) (by omega) (by simp; omega) ?_; intro v2 w2 hown2 hgr2)
            have hb2 : Below w.heap.size (wr.alloc (Obj.cells #[.string l[k]] 9)) w2 := below_own (hown.alloc _) hgr2 (by simp; omega)
            clear hgr2
            go_wp2_with fail
            go_roundw
            case rel =>
              refine ⟨k + 1, by omega, by go_num, ?_, (hb.alloc (by omega) _).trans hb2⟩
              rw [Hsu.out, Hst.out, List.length_append, List.flatMap_append]
              exact hown2
            case measure => simp [intOf]; omega
        · have hst : postStep m P l[k] = P ++ [l[k]] := by rw [postStep, if_neg (fun h => hn (fitsB_iff.1 h).1)]
          have Hst := Lib.hid hst
          clear hst
          have hP0 : P.length = 0 := by omega
          have hpg : decide (0 < P.length) = false := decide_eq_false (by omega)
          obtain ⟨A2, c2, rfl, h5, h6⟩ := (RdS.of_own hown).form
          go_wp2_with (at_builtin; refine wpList_appendR _ rfl (.tmp 47) (.tmp 49) _ rfl w.heap.size 9 i0 _ 1 16 Try.underlying78 hi0 hz0 hz1 hz2 rfl (by omega) _ P.length (P.flatMap cStr) rfl (hown.alloc _) _ 1 [.string l[k]] rfl (rdS_new wr #[.string l[k]] _ 1 1 rfl (by simp [maxLen])) (by simp [Value.oneCell']) (by simp [maxLen]; omega) (by omega) (by simp; omega) ?_; intro v2 w2 hown2 hgr2)
          have hb2 : Below w.heap.size (wr.alloc (Obj.cells #[.string l[k]] 9)) w2 := below_own (hown.alloc _) hgr2 (by simp; omega)
          clear hgr2
          go_wp2_with fail
          go_roundw
          case rel =>
            refine ⟨k + 1, by omega, by go_num, ?_, (hb.alloc (by omega) _).trans hb2⟩
            rw [Hsu.out, Hst.out, List.length_append, List.flatMap_append]
            exact hown2
          case measure => simp [intOf]; omega
      · go_wp2_with fail
        go_ret
        refine ⟨_, rfl, ?_, by (repeat' (first | exact Below.refl _ _ | (refine Below.setCell ?_ (by first | omega | (simp; omega) | (simp; done)) _) | (refine Below.alloc ?_ (by first | omega | (simp; omega) | (simp; done)) _) | (refine Below.drew ?_) | (refine below_drewN ?_ _) | (refine Below.trans ?_ (Below.mono (by assumption) (by first | omega | (simp; omega) | (simp; done))))))⟩
        rw [postL, if_pos hc.out]
        rw [List.take_of_length_le (by omega)] at hown
        exact hown
  · go_ret
    rw [postL, if_neg (by rw [hc.out]; simp)]
    exact ⟨_, rfl, World.ownsRow_nil _ _ _ _, by (repeat' (first | exact Below.refl _ _ | (refine Below.setCell ?_ (by first | omega | (simp; omega) | (simp; done)) _) | (refine Below.alloc ?_ (by first | omega | (simp; omega) | (simp; done)) _) | (refine Below.drew ?_) | (refine below_drewN ?_ _) | (refine Below.trans ?_ (Below.mono (by assumption) (by first | omega | (simp; omega) | (simp; done))))))⟩


theorem postL_len (m : Int) (l : List ByteArray) : (postL m l).length ≤ l.length := by
  unfold postL
  split
  · have := postF_len m l l.length (Nat.le_refl _)
    rwa [List.take_length] at this
  · simp
def fewF (m : Int) (l : List ByteArray) : Int := if wordsB m l = true then (postF m l).length else -1
theorem few_t {m : Int} {l : List ByteArray} (h : wordsB m l = true) : ((postL m l).length : Int) = fewF m l := by rw [postL, fewF, if_pos h, if_pos h]
theorem few_f {m : Int} {l : List ByteArray} (h : wordsB m l = false) : -1 = fewF m l := by rw [fewF, h]; rfl
set_option maxHeartbeats 1000000 in
theorem implFewestLines_any (v : Value) (l : List ByteArray) (m : Int) (w : World) (h : RdL cStr 1 w v l) (hs : ∀ s ∈ l, s.size ≤ 9223372036854775807) :
    Calls Try.prog 67 #[v, .int .i64 m] w fun e w' => e = .returned (.int .i64 (fewF m l)) ∧ Below w.heap.size w w' := by
  have H1 := Lib.hid (areWords_any v l m w h hs)
  have H2 := Lib.hid (implPosterLines_any v l m w h hs)
  clear hs
  go_enter Try.func67, Try.ntmps67
  go_wp2_with (go_at_call 104; refine two H1.out (fun hc => ?_) (fun hc => ?_))
  · refine H2.out.mono ?_
    rintro e w' ⟨v', rfl, ho, hb⟩
    obtain ⟨A, c, rfl, _, _⟩ := (RdS.of_own ho).form
    go_wp2_with fail
    go_ret
    exact ⟨ret_int (few_t hc.out), hb⟩
  · go_ret
    exact ⟨ret_int (few_f hc.out), by (repeat' (first | exact Below.refl _ _ | (refine Below.setCell ?_ (by first | omega | (simp; omega) | (simp; done)) _) | (refine Below.alloc ?_ (by first | omega | (simp; omega) | (simp; done)) _) | (refine Below.drew ?_) | (refine below_drewN ?_ _) | (refine Below.trans ?_ (Below.mono (by assumption) (by first | omega | (simp; omega) | (simp; done))))))⟩
end Go.Proofs.Ythponccjbbkhaaa
