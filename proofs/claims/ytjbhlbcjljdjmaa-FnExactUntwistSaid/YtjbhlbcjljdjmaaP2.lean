/- Slices of players: marks. -/
import Derived.Test.YtjbhlbcjljdjmaaP1
namespace Go.Proofs.Ytjbhlbcjljdjmaa
open Go.RowKit

theorem plBlocks_ne {vs : List (Value × Int)} (h : (plBlocks vs).Nodup) {i k : Nat} {p q : Value × Int} (hi : vs[i]? = some p) (hk : vs[k]? = some q) (hne : i ≠ k) : ∀ b ∈ p.1.ownBlock.toList, b ∉ q.1.ownBlock.toList := by
  intro b hb hb'
  rcases Nat.lt_or_gt_of_ne hne with hlt | hgt
  · exact plBlocks_apart h hk b hb' (mem_plBlocks (i := i) (by rw [List.getElem?_take, if_pos hlt]; exact hi) b hb)
  · exact plBlocks_apart h hi b hb (mem_plBlocks (i := k) (by rw [List.getElem?_take, if_pos hgt]; exact hk) b hb')
set_option maxHeartbeats 2000000 in
set_option maxRecDepth 100000 in
theorem markPlayerS_any (v : Value) (ll : List RPl) (m : Int) (w : World) (S : List Nat) (h : OwPls w S v ll) (hf : S.Nodup) (hm : 0 ≤ m ∧ m ≤ 67108864) (hl : plsTot ll ≤ 1048576) :
    Calls Try.prog 76 #[v, .int .i64 m] w fun e w' => e = .returned (.int .i64 (m + plsCnt ll)) ∧ MkPls w' S v ll m ∧ Chg S w w' := by
  have hrd := h.rd
  obtain ⟨vs, hvl, hown, hrows, rfl⟩ := h
  obtain ⟨A, c, rfl, h1, h2⟩ := hrd.form
  obtain ⟨_, hnd, hap, hap'⟩ := nodup2 hf
  rw [hvl] at hown
  have Hap := Lib.hid hap
  have Hap' := Lib.hid hap'
  have Hrows := Lib.hid hrows
  have Hvl := Lib.hid hvl
  have hll : ll.length ≤ 1048576 := by unfold plsTot at hl; omega
  clear hap hap' hrows hrd hf
  go_enter Try.func76, Try.ntmps76
  go_wp2_with fail
  go_loopw [1, 5] (fun q i wr => ∃ (k : Nat) (vs' : List (Value × Int)), k ≤ ll.length ∧ i = .int .i64 k ∧ q = .int .i64 (m + plsTo ll k) ∧ Hid (vs'.length = ll.length) ∧ wr.ownsRow 0 126 2 (.slice A ll.length c) ll.length (vs'.flatMap cPl) ∧ Hid (vs'.map Prod.fst = vs.map Prod.fst) ∧
    Hid (∀ (i : Nat) (p : Value × Int) (r : RPl), i < k → vs'[i]? = some p → ll[i]? = some r → p.2 = m + plsTo ll i + r.1.length ∧ wr.ownsRow 0 3 1 p.1 r.1.length (markC mkInt 1 r.1.length (m + plsTo ll i))) ∧
    Hid (∀ (i : Nat) (p : Value × Int) (r : RPl), k ≤ i → vs'[i]? = some p → ll[i]? = some r → wr.ownsRow 0 3 1 p.1 r.1.length (r.1.flatMap cInt)) ∧ Hid (Chg ((Value.slice A ll.length c).ownBlock.toList ++ plBlocks vs) w wr)) (fun _ i _ => ll.length - (intOf i).toNat)
  case atStart => exact ⟨0, vs, Nat.zero_le _, rfl, by simp [plsTo], Hvl.out, hown, rfl, fun i p r hi => by omega, fun i p r _ hp hr => (Hrows.out i p r hp hr).2, Chg.refl _ _⟩
  case round =>
    obtain ⟨k, vs', hk, rfl, rfl, hvl', hown', hfst, hdone, hleft, hch⟩ := hrel
    by_cases hlt : k < ll.length
    · have hkv : k < vs'.length := by rw [hvl'.out]; exact hlt
      obtain ⟨g, cap, hv⟩ := own_form hown' (by omega)
      injection hv with hv1 hv2 hv3
      subst hv1 hv3
      have hpb : plBlocks vs' = plBlocks vs := by unfold plBlocks; rw [hfst.out]
      have hnd' : (plBlocks vs').Nodup := by rw [hpb]; exact hnd
      have hgout : ∀ b ∈ vs'[k].1.ownBlock.toList, b ≠ g := fun b hb e => by
        have hb2 := mem_plBlocks (List.getElem?_eq_getElem hkv) b hb
        rw [hpb] at hb2
        exact Hap'.out b hb2 (by rw [e]; simp [Value.ownBlock])
      have k0 : wr.cell? ⟨g, k * 2, none⟩ = some vs'[k].1 := by
        have := (hown'.cellAt (k * 2) (by omega)).trans (get_flat cPl_len vs' k hkv 0 (by omega))
        exact this
      have f1 := hown'.frozenAt (k * 2 + 1)
      obtain ⟨u1, k1⟩ : ∃ u, wr.cell? ⟨g, k * 2 + 1, none⟩ = some u := ⟨_, (hown'.cellAt (k * 2 + 1) (by omega)).trans (get_flat cPl_len vs' k hkv 1 (by omega))⟩
      have hrk := hleft.out k vs'[k] ll[k] (Nat.le_refl _) (List.getElem?_eq_getElem hkv) (List.getElem?_eq_getElem hlt)
      have Hst := Lib.hid (plsTo_succ hlt)
      have hle := plsTo_le hlt
      rw [plsCnt_tot] at hle
      generalize hpk : vs'[k] = pk at *
      obtain ⟨pv, pn⟩ := pk
      have Hpk := Lib.hid hpk
      clear hpk
      have HX : ∀ i p, i ≠ k → vs'[i]? = some p → ∀ b ∈ p.1.ownBlock.toList, b ∉ pv.ownBlock.toList := fun i p hne hp => plBlocks_ne hnd' hp (show vs'[k]? = some (pv, pn) by rw [List.getElem?_eq_getElem hkv, Hpk.out]) hne
      have HX := Lib.hid HX
      go_wp2_with fail
      refine (markIntS_any pv ll[k].1.length (ll[k].1.flatMap cInt) _ 0 _ hrk (by omega) (by omega)).mono ?_
      rintro e w' ⟨rfl, hownk, hgr⟩
      have hq := Chg.of_grown hgr
      have hown2 := own_chg hown' hq (fun b hb hb' => hgout b hb' (by simp [Value.ownBlock] at hb; omega))
      replace k1 := carryChg hq k1 (fun hb => hgout g hb rfl)
      replace f1 := carryChgF hq ((hown'.cellAt (k * 2 + 1) (by omega)).trans (get_flat cPl_len vs' k hkv 1 (by omega))) f1 (fun hb => hgout g hb rfl)
      clear k0
      have hstored := (hown2.stored (k * 2 + 1) (.int .i64 (m + plsTo ll k + ll[k].1.length))).1
      rw [flat_set cPl_len vs' k hkv 1 (by omega) _ (pv, m + plsTo ll k + ll[k].1.length) (by rw [Hpk.out]; rfl)] at hstored
      have hsetc : Chg [g] w' (w'.setCell ⟨g, k * 2 + 1, none⟩ (.int .i64 (m + plsTo ll k + ll[k].1.length))) := chg_set (Chg.refl _ _) (by simp)
      go_wp2_with fail
      go_roundw
      case rel =>
        refine ⟨k + 1, vs'.set k (pv, m + plsTo ll k + ll[k].1.length), by omega, by go_num, int_eq (by rw [Hst.out]; omega), by show _ = _; rw [List.length_set]; exact hvl'.out, hstored, ?_, ?_, ?_, ?_⟩
        · show _ = _
          rw [List.map_set, ← hfst.out]
          apply List.ext_getElem
          · simp
          · intro i h1 h2
            by_cases hik : i = k
            · subst hik; simp [Hpk.out]
            · rw [List.getElem_set_ne (fun e => hik e.symm)]
        · intro i p r hi hp hr
          by_cases hik : i = k
          · subst hik
            rw [List.getElem?_set_self hkv] at hp
            injection hp with hp
            subst hp
            rw [List.getElem?_eq_getElem hlt] at hr
            injection hr with hr
            subst hr
            exact ⟨rfl, own_chg hownk hsetc (fun b hb hb' => hgout b hb (by simpa using hb'))⟩
          · rw [List.getElem?_set_ne (fun e => hik e.symm)] at hp
            have hd := hdone.out i p r (by omega) hp hr
            have hmem := mem_plBlocks hp
            exact ⟨hd.1, own_chg (own_chg hd.2 hq (HX.out i p hik hp)) hsetc (fun b hb hb' => by
              have := hmem b hb
              rw [hpb] at this
              simp at hb'
              subst hb'
              exact Hap'.out b this (by simp [Value.ownBlock]))⟩
        · intro i p r hi hp hr
          have hik : i ≠ k := by omega
          rw [List.getElem?_set_ne (fun e => hik e.symm)] at hp
          have hd := hleft.out i p r (by omega) hp hr
          have hmem := mem_plBlocks hp
          exact own_chg (own_chg hd hq (HX.out i p hik hp)) hsetc (fun b hb hb' => by
              have := hmem b hb
              rw [hpb] at this
              simp at hb'
              subst hb'
              exact Hap'.out b this (by simp [Value.ownBlock]))
        · refine Chg.trans (hch.out.trans (hq.mono (fun b hb => List.mem_append_right _ ?_))) (hsetc.mono (fun b hb => List.mem_append_left _ ?_))
          · rw [← hpb]; exact mem_plBlocks (show vs'[k]? = some (pv, pn) by rw [List.getElem?_eq_getElem hkv, Hpk.out]) b hb
          · simp at hb; subst hb; simp [Value.ownBlock]
      case measure => simp [intOf]; omega
    · obtain rfl : k = ll.length := by omega
      rw [plsTo_end]
      go_wp2_with fail
      go_ret
      refine ⟨rfl, ⟨vs', hvl'.out, by rw [hvl'.out]; exact hown', fun i p r hp hr => hdone.out i p r (List.getElem?_eq_some_iff.1 hr).1 hp hr, ?_⟩, hch.out⟩
      unfold plBlocks
      rw [hfst.out]
set_option maxHeartbeats 2000000 in
set_option maxRecDepth 100000 in
theorem heldPlayerS_any (v : Value) (ll : List RPl) (m : Int) (w : World) (S : List Nat) (h : MkPls w S v ll m) (hm : 0 ≤ m ∧ m ≤ 67108864) (hl : plsTot ll ≤ 1048576) :
    Calls Try.prog 78 #[v, .int .i64 m] w fun e w' => e = .returned (.int .i64 (m + plsCnt ll)) ∧ w = w' := by
  obtain ⟨vs, hvl, hown, hrows, _⟩ := h
  rw [hvl] at hown
  obtain ⟨A, c, rfl, h1, h2⟩ := (RdS.of_own hown).form
  simp only [maxLen] at h2
  have Hrows := Lib.hid hrows
  have Hvl := Lib.hid hvl
  have hll : ll.length ≤ 1048576 := by unfold plsTot at hl; omega
  clear hrows hvl
  go_enter Try.func78, Try.ntmps78
  go_wp2_with fail
  go_loop [1, 5] (fun q i => ∃ k : Nat, k ≤ ll.length ∧ i = .int .i64 k ∧ q = .int .i64 (m + plsTo ll k)) (fun _ i => ll.length - (intOf i).toNat)
  case atStart => exact ⟨0, Nat.zero_le _, rfl, by simp [plsTo]⟩
  case round =>
    obtain ⟨k, hk, rfl, rfl⟩ := hrel
    by_cases hlt : k < ll.length
    · have hkv : k < vs.length := by rw [Hvl.out]; exact hlt
      obtain ⟨g, cap, hv⟩ := own_form hown (by omega)
      injection hv with hv1 hv2 hv3
      subst hv1 hv3
      obtain ⟨e1, hrk⟩ := Hrows.out k vs[k] ll[k] (List.getElem?_eq_getElem hkv) (List.getElem?_eq_getElem hlt)
      have k0 : w.cell? ⟨g, k * 2, none⟩ = some vs[k].1 := (hown.cellAt (k * 2) (by omega)).trans (get_flat cPl_len vs k hkv 0 (by omega))
      have k1 : w.cell? ⟨g, k * 2 + 1, none⟩ = some (.int .i64 vs[k].2) := (hown.cellAt (k * 2 + 1) (by omega)).trans (get_flat cPl_len vs k hkv 1 (by omega))
      rw [e1] at k1
      have Hst := Lib.hid (plsTo_succ hlt)
      have hle := plsTo_le hlt
      rw [plsCnt_tot] at hle
      clear e1
      go_wp2_with fail
      refine (heldIntS_any vs[k].1 ll[k].1.length _ _ (RdS.of_own hrk) (by omega) (by omega)).mono ?_
      rintro e w' ⟨rfl, rfl⟩
      go_wp2_with fail
      go_round
      case rel => exact ⟨k + 1, by omega, by go_num, int_eq (by rw [Hst.out]; omega)⟩
      case measure => simp [intOf]; omega
    · obtain rfl : k = ll.length := by omega
      rw [plsTo_end]
      go_wp2_with fail
      go_ret
      exact ⟨rfl, rfl⟩
end Go.Proofs.Ytjbhlbcjljdjmaa
