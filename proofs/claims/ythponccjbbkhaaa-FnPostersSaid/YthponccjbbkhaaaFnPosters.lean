/- FnPosters: the law returns true for every input. No condition. -/
import Derived.Test.YthponccjbbkhaaaQ3
import Derived.Test.YthponccjbbkhaaaW3
import Derived.Test.YthponccjbbkhaaaO3
import Derived.OpenShut
namespace Go.Proofs.Ythponccjbbkhaaa
open Go.ChangeShapes Go.WideShapes Go.ChangeAt Go.RowKit Go.Deep

theorem nil_eq {a b : Nat} (h : b = 0 ↔ a = 0) : (((a : Int) == 0) == ((b : Int) == 0)) = true := by
  rw [beq_iff_eq]
  by_cases e : a = 0
  · have := h.2 e; subst e this; rfl
  · have hb : ¬ b = 0 := fun x => e (h.1 x)
    rw [beq_eq_false_iff_ne.2 (show (a : Int) ≠ 0 by omega), beq_eq_false_iff_ne.2 (show (b : Int) ≠ 0 by omega)]
set_option maxHeartbeats 8000000 in
set_option maxRecDepth 100000 in
theorem lawFnPosters_any (A : Option Addr) (c : Nat) (bs : List Int) (w : World) (h : RdL cU8 1 w (.slice A bs.length c) bs) (hby : ∀ x ∈ bs, 0 ≤ x ∧ x ≤ 255) :
    Calls Try.prog 14 #[.slice A bs.length c] w fun e w' => e = .returned (.bool true) ∧ Below w.heap.size w w' := by
  have Hby := Lib.hid hby
  clear hby
  go_enter Try.func14, Try.ntmps14
  go_wp2_with (go_at_call 15; refine twoB (big_any _ _ _ _) (fun wb hc hb => ?_) (fun wb hc hb => ?_))
  · go_ret
    exact ⟨rfl, hb⟩
  have hlen : bs.length ≤ 1048576 := by have := hc.out; simp at this; omega
  have hzb := hb.size
  refine (drawWords_any A c bs wb (h.below hb) Hby.out hlen).mono ?_
  rintro e w1 ⟨v, l, rfl, hown, hval, hl8, hb1⟩
  have hz1 := hb1.size
  have Hval := Lib.hid hval
  clear hval
  go_wp2_with (go_at_call 18; refine (at_any A c bs 0 _ ((h.below hb).below hb1) Hby.out hlen (by omega) (by omega)).mono ?_; rintro e w2 ⟨r, rfl, hr, hb2⟩)
  have em : r.tmod 50 = r % 50 := Int.tmod_eq_emod_of_nonneg (by omega)
  have hz2 := hb2.size
  have hown2 := own_below hown hb2
  obtain ⟨A1, d1, rfl, h3, h4⟩ := (RdS.of_own hown2).form
  simp only [maxLen] at h4
  have hrd : RdL cStr 1 w2 (.slice A1 l.length d1) l := RdS.of_own hown2
  have hbw2 : Below w.heap.size w w2 := bl_trans (bl_trans hb hb1) hb2
  obtain ⟨m, hm⟩ : ∃ m : Nat, 8 + r % 50 = (m : Int) := ⟨(8 + r % 50).toNat, by omega⟩
  have hm8 : 8 ≤ m ∧ m ≤ 57 := by omega
  have hsl : ∀ s ∈ l, s.size ≤ 9223372036854775807 := fun s hs => by have := (wordsL_ok s (Hval.out s hs)).2.1; omega
  obtain ⟨ls, L⟩ := lines_of Hval.out hl8 hm8
  have Hsz8 := Lib.hid (fun s hs => (wordsL_ok s (Hval.out s hs)).2.1)
  have C1 := Lib.hid (fun W hr => implPosterLines_any (.slice A1 l.length d1) l (m : Int) W hr hsl)
  have C2 := Lib.hid (fun W hr => implFewestLines_any (.slice A1 l.length d1) l (m : Int) W hr hsl)
  have C3 := Lib.hid (fun W hr => implLeastWidth_any (.slice A1 l.length d1) l 3 W hr hsl)
  have C4 := Lib.hid (fun W hr => implFewestLines_any (.slice A1 l.length d1) l ((m : Int) + 1) W hr hsl)
  have C5 := Lib.hid (fun k W hr => implFewestLines_any (.slice A1 l.length d1) l k W hr hsl)
  rw [L.eq] at C1
  rw [L.few] at C2
  have HL := Lib.hid L
  clear L hsl Hval hown hown2
  go_wp2_with fail
  rw [hm]
  refine (C1.out _ hrd).mono ?_
  rintro e w3 ⟨v3, rfl, hown3, hb3⟩
  obtain ⟨A3, c3, rfl, h5, h6⟩ := (RdS.of_own hown3).form
  simp only [maxLen] at h6
  have hrl : RdL cStr 1 w3 (.slice A3 ls.length c3) ls := RdS.of_own hown3
  have hrd3 := hrd.below hb3
  have hz3 := hb3.size
  clear hown3
  go_wp2_with fail
  refine (C2.out _ hrd3).mono ?_
  rintro e w4 ⟨rfl, hb4⟩
  have hz4 := hb4.size
  have hbw4 : Below w.heap.size w w4 := bl_trans (bl_trans hbw2 hb3) hb4
  have hrd4 := hrd3.below hb4
  have hrl4 := hrl.below hb4
  have hls8 := HL.out.len
  clear em hm hrd3 hrl hrd C1 C2 hb3 hb4 hbw2 h hb hb1 hb2
  go_wp2_with fail
  go_loopw [7, 9] (fun q i wr => ∃ k : Nat, k ≤ ls.length ∧ i = .int .i64 k ∧ q = .string (joinS (ls.take k)) ∧ Below w4.heap.size w4 wr) (fun _ i _ => ls.length - (intOf i).toNat)
  case atStart => exact ⟨0, Nat.zero_le _, rfl, rfl, Below.refl _ _⟩
  case round =>
    obtain ⟨k, hk, rfl, rfl, hbr⟩ := hrel
    have hzr := hbr.size
    by_cases hlt : k < ls.length
    · obtain ⟨g, off, rfl, hg, hc⟩ := (hrl4.below hbr).cell (fun _ => rfl) (by omega) hlt
      have k0 := hc 0 _ rfl
      simp only [Nat.add_zero, Nat.mul_one] at k0
      clear hc
      obtain ⟨hs1, hs2⟩ := HL.out.sizes _ (List.getElem_mem hlt)
      have hj := Lib.hid (joinS_take ls hlt)
      have hjs : (joinS (ls.take k)).size ≤ 1000 := by
        rw [join_size]
        have h1 := lineTot_le (ls.take k) m (fun s hs => (HL.out.sizes s (List.mem_of_mem_take hs)).1)
        rw [List.length_take] at h1
        have h2 : min k ls.length * (m + 1) ≤ 8 * 58 := Nat.mul_le_mul (by omega) (by omega)
        omega
      have C6 := Lib.hid (fun W => implCenterLine_any ls[k] (m : Int) W (by omega))
      have hcs := cent_size (s := ls[k]) (m := m) (by omega) hs1 hs2
      have ht : ((m : Int) - ls[k].size).tdiv 2 = ((m : Int) - ls[k].size) / 2 := Int.tdiv_eq_ediv_of_nonneg (by omega)
      obtain ⟨p, hp⟩ : ∃ p : Nat, ((m : Int) - ls[k].size) / 2 = (p : Int) := ⟨(((m : Int) - ls[k].size) / 2).toNat, by omega⟩
      rw [hp] at hcs ht
      have hp60 : p ≤ 60 := by omega
      have Hs2 := Lib.hid hs2
      clear hs2 hp
      generalize centF ls[k] (m : Int) = cl at *
      generalize ls[k] = s at *
      generalize joinS (ls.take k) = T at *
      go_wp2_with fail
      refine (C6.out _).mono ?_
      rintro e w5 ⟨rfl, hb5⟩
      have hz5 := hb5.size
      replace k0 := (hb5.cell hg).trans k0
      go_wp2_with fail
      have hw1 : IntKind.i64.wrap ((m : Int) - s.size) = (m : Int) - s.size := IntWalk.i64_in _ (by omega)
      have hw2 : IntKind.i64.wrap (p : Int) = p := IntWalk.i64_in _ (by omega)
      have hw3 : IntKind.i64.wrap ((s.size : Int) + p) = (s.size : Int) + p := IntWalk.i64_in _ (by omega)
      have hns : ¬ m < s.size := by omega
      go_quiet (fail)
      rename_i nq
      clear hw1 hw2 hw3
      go_wp2_with fail
      go_roundw
      case rel => exact ⟨k + 1, by omega, by go_num, by rw [hj.out], below_drewN (hbr.trans (hb5.mono hzr)) _⟩
      case measure => simp [intOf]; omega
    · obtain rfl : k = ls.length := by omega
      have hjn : joinS (ls.take ls.length) = joinS l := by rw [List.take_length]; exact HL.out.join
      rw [hjn]
      clear hjn
      have hrd5 := hrd4.below hbr
      have hrl5 := hrl4.below hbr
      have hbw5 : Below w.heap.size w wr := bl_trans hbw4 hbr
      have htt : (joinS l).size ≤ 100 := by
        rw [join_size]
        have h1 := lineTot_le l 8 Hsz8.out
        have h2 : l.length * (8 + 1) ≤ 8 * 9 := Nat.mul_le_mul_right _ hl8
        omega
      obtain ⟨T, hT⟩ : ∃ T, joinS l = T := ⟨_, rfl⟩
      rw [hT] at htt
      rw [hT]
      have HT := Lib.hid hT
      clear hT hbr hrd4 hrl4 hbw4
      obtain ⟨wl, rfl⟩ : ∃ wl : World, wl = wr := ⟨_, rfl⟩
      go_wp2_with fail
      go_loopw [8, 11, 12] (fun q t i wr => ∃ k : Nat, k ≤ l.length ∧ i = .int .i64 k ∧ q = .string (joinS (l.take k)) ∧ t = .int .i64 (lineTot (l.take k) : Nat) ∧ Below wl.heap.size wl wr) (fun _ _ i _ => l.length - (intOf i).toNat)
      case atStart => exact ⟨0, Nat.zero_le _, rfl, rfl, rfl, Below.refl _ _⟩
      case round =>
        obtain ⟨k, hk, rfl, rfl, rfl, hbr⟩ := hrel
        have hzr := hbr.size
        by_cases hlt : k < l.length
        · obtain ⟨g, off, rfl, hg, hc⟩ := (hrd5.below hbr).cell (fun _ => rfl) (by omega) hlt
          have k0 := hc 0 _ rfl
          simp only [Nat.add_zero, Nat.mul_one] at k0
          clear hc
          have hs1 := Hsz8.out _ (List.getElem_mem hlt)
          have hj := Lib.hid (joinS_take l hlt)
          have ht := Lib.hid (lineTot_take l hlt)
          have hjs : (joinS (l.take k)).size ≤ 1000 ∧ lineTot (l.take k) ≤ 1000 := by
            rw [join_size]
            have h1 := lineTot_le (l.take k) 8 (fun s hs => Hsz8.out s (List.mem_of_mem_take hs))
            rw [List.length_take] at h1
            have h2 : min k l.length * (8 + 1) ≤ 8 * 9 := Nat.mul_le_mul_right _ (by omega)
            omega
          generalize l[k] = s at *
          generalize joinS (l.take k) = T2 at *
          generalize lineTot (l.take k) = tt at *
          go_wp2_with fail
          go_roundw
          case rel => exact ⟨k + 1, by omega, by go_num, by rw [hj.out], int_eq (by rw [ht.out]; omega), hbr⟩
          case measure => simp [intOf]; omega
        · obtain rfl : k = l.length := by omega
          rw [List.take_length, HT.out]
          have hrd6 := hrd5.below hbr
          have hrl6 := hrl5.below hbr
          have hbw6 : Below w.heap.size w wr := bl_trans hbw5 hbr
          obtain ⟨P, hP⟩ : ∃ P : Nat, (ls.length : Int) * ((m : Int) + 1) = (P : Int) := ⟨ls.length * (m + 1), by rw [Int.natCast_mul, Int.natCast_add]; rfl⟩
          have hP1 : P ≤ 1000 := by
            have h1 : ls.length * (m + 1) ≤ 8 * 58 := Nat.mul_le_mul hls8 (by omega)
            have h2 : ((ls.length * (m + 1) : Nat) : Int) = P := by rw [Int.natCast_mul, Int.natCast_add]; exact hP
            omega
          have htot := HL.out.tot
          rw [hP] at htot
          have hwide := HL.out.wide
          have hlong := HL.out.long
          have hleast := HL.out.least
          have Hnil := Lib.hid HL.out.nil
          have C8 := Lib.hid (fun W hr => implLongestLine_any (.slice A3 ls.length c3) ls W hr)
          have C9 := Lib.hid (C5.out (leastF l 3))
          have hfg := fewF_ge ((m : Int) + 1) l
          generalize lineTot l = tt at *
          generalize fewF ((m : Int) + 1) l = f4 at *
          generalize fewF (leastF l 3) l = f5 at *
          generalize leastF l 3 = q at *
          generalize longF ls = lg at *
          clear HL C5 hrd5 hrl5 hbr hbw5
          go_wp2_with fail
          refine (C3.out _ hrd6).mono ?_
          rintro e w7 ⟨rfl, hb7⟩
          have hrd7 := hrd6.below hb7
          have hrl7 := hrl6.below hb7
          have hbw7 : Below w.heap.size w w7 := bl_trans hbw6 hb7
          clear hrd6 hrl6 hbw6 hb7
          go_wp2_with fail
          refine (C4.out _ hrd7).mono ?_
          rintro e w8 ⟨rfl, hb8⟩
          have hrd8 := hrd7.below hb8
          have hrl8 := hrl7.below hb8
          have hbw8 : Below w.heap.size w w8 := bl_trans hbw7 hb8
          clear hrd7 hrl7 hbw7 hb8
          go_wp2_with fail
          refine (C8.out _ hrl8).mono ?_
          rintro e w9 ⟨rfl, rfl⟩
          rcases hleast with hq | ⟨hq1, hq2⟩
          · go_wp2_with fail
            go_ret
            exact ⟨ret_bool (nil_eq Hnil.out), hbw8⟩
          · by_cases hq : q < 0
            · go_wp2_with fail
              go_ret
              exact ⟨ret_bool (nil_eq Hnil.out), hbw8⟩
            · go_wp2_with fail
              refine (C9.out _ hrd8).mono ?_
              rintro e w10 ⟨rfl, hb10⟩
              go_wp2_with fail
              refine (C9.out _ (hrd8.below hb10)).mono ?_
              rintro e w11 ⟨rfl, hb11⟩
              go_wp2_with fail
              go_ret
              exact ⟨ret_bool (nil_eq Hnil.out), bl_trans (bl_trans hbw8 hb10) hb11⟩

set_option maxRecDepth 100000 in
set_option maxHeartbeats 1000000 in
theorem fnPosters_lifted (os : Os) (started : os.Started) (H : Type) (enc : TypeId × Value → H) :
    ReturnsInHanded {} Try.checked os 14 .any (Rows.fnPostersSpec.pre6 enc Try.prog Try.f14 Rows.fnPostersRow.domain false) (Rows.fnPostersSpec.post enc Try.prog Try.f14 false true false false) := by
  refine returnsInHanded_of_change (C := Try.checked) tryOwn started (by kernel_rfl) Try.func14
    (ChangeSpec.witness6 (enc := enc) (C := Try.checked) false ⟨#[], #[.slice none 0 0], []⟩ 12 (by kernel_rfl) (by kernel_rfl) (by kernel_rfl) (by kernel_rfl)) ?_
  intro W base args ds gs before hval0 hW hcnd _
  have hval : ∀ (j : Nat) t v, Try.f14.params[j]? = some t → args[j]? = some v → Value.okWide Try.prog W .any base t v := hval0
  have hW' := hW
  obtain ⟨p, q, hA0, hV, rfl, hfz, hnd⟩ := hW
  have hA : DataW.TrodAll enc Try.prog W 0 (fun _ => true) true Try.f14.params.toList args.toList ds p := hA0
  rw [Try.params14] at hA hval
  obtain ⟨v0, vs0, d0, ds0, p0, q0, hargs, rfl, rfl, h0, r0⟩ := trodAll_cons hA
  obtain ⟨rfl, rfl, rfl⟩ := trodAll_nil r0
  obtain rfl : args = #[v0] := by cases args; simp_all
  obtain ⟨rfl, rfl⟩ := trodVars_none hV
  have e0 := h0
  have lt0 : ∀ x ∈ p0, x.block < W.heap.size := by obtain ⟨m, hm⟩ := e0; exact DataW.trod_lt m _ _ _ hm
  have ok0 := hval 0 22 v0 rfl rfl
  clear hA0 hval0 hval
  obtain ⟨xs, hrd, hby⟩ := arg_slice Try.underlying22 ok0 h0 (opens_slice (f := cU8) (size := 1) Try.underlying22 (by kernel_rfl) (by omega) cU8_len (opens_u8 Try.underlying5))
  obtain ⟨A, c, rfl, _⟩ := RdS.form hrd
  refine (lawFnPosters_any A c xs W hrd hby).mono fun e W' ⟨he, bel⟩ => ?_
  subst he
  exact ⟨_, rfl, _, _, _, [], _, [], hW', trodAll_mk1 (shut_bool Try.underlying4 _), (trodAll_cons_mk (Below.trod tryLaid (by kernel_rfl) (of_decide_eq_true (by kernel_rfl)) e0 bel lt0) trodAll_mk0), rfl, bel.frame _, fun h => by cases h⟩

theorem fnPosters_holds : Rows.FnPostersSaid :=
  OpenClaim.holds_of_wide 14 Try.f14 rfl rfl rfl rfl rfl rfl rfl ⟨rfl, rfl, rfl, rfl, rfl⟩ rfl rfl rfl rfl rfl (by kernel_rfl) Try.func14 (by kernel_rfl)
    (of_decide_eq_true (by kernel_rfl)) (by unfold Func.isWrapper; first | (rw [if_pos (by decide +kernel)]; kernel_rfl) | (rw [if_neg (by decide +kernel)]; exact ⟨rfl, rfl⟩))
    (fun os started H enc _ => fnPosters_lifted os started H enc)
#print axioms fnPosters_holds
end Go.Proofs.Ythponccjbbkhaaa
