/- Contracts: TeachPuppet of the program; the words for a player that is changed. -/
import Derived.Test.YtkejgogheonakaaT2
import Derived.Test.YtkejgogheonakaaKP
import Derived.Test.YtkejgogheonakaaK3
import Derived.Test.YtkejgogheonakaaP3
import Derived.Test.YtkejgogheonakaaV3
import Derived.Deep.DeepCutAuto
namespace Go.Proofs.Ytkejgogheonakaa
open Go.RowKit
theorem knows_idx (r : List Int) (x : Int) : knowsB (r, 0) x = true ↔ 0 ≤ idxF r x := by
  unfold knowsB
  rw [List.any_eq_true]
  constructor
  · rintro ⟨y, hy, e⟩
    have := of_decide_eq_true e
    subst this
    rw [idxF_mem hy]; omega
  · intro h
    apply Classical.byContradiction
    intro hno
    have : idxF r x = -1 := idxF_none (List.all_eq_true.2 (fun y hy => neB_t (fun e => hno ⟨y, hy, decide_eq_true e⟩)))
    omega
theorem knows_fst (p : RPl) (x : Int) : knowsB p x = knowsB (p.1, 0) x := rfl
theorem plBlocks_app (a b : List (Value × Int)) : plBlocks (a ++ b) = plBlocks a ++ plBlocks b := by unfold plBlocks blocksOf; rw [List.map_append, List.flatMap_append]
theorem plBlocks_cons (p : Value × Int) (b : List (Value × Int)) : plBlocks (p :: b) = p.1.ownBlock.toList ++ plBlocks b := by unfold plBlocks blocksOf; rw [List.map_cons, List.flatMap_cons]
theorem plBlocks_split {vs : List (Value × Int)} {k : Nat} (hk : k < vs.length) : plBlocks vs = plBlocks (vs.take k) ++ (vs[k].1.ownBlock.toList ++ plBlocks (vs.drop (k + 1))) := by
  rw [← plBlocks_cons, ← plBlocks_app, ← List.drop_eq_getElem_cons hk, List.take_append_drop]
theorem plBlocks_set {vs : List (Value × Int)} {k : Nat} (p : Value × Int) (hk : k < vs.length) : plBlocks (vs.set k p) = plBlocks (vs.take k) ++ (p.1.ownBlock.toList ++ plBlocks (vs.drop (k + 1))) := by
  rw [← plBlocks_cons, ← plBlocks_app, List.set_eq_take_append_cons_drop, if_pos hk]
theorem pls_set {w : World} {B : Nat} {vs : List (Value × Int)} {ll : List RPl} {g c : Nat} {u : Value} {r : List Int} {Sk : List Nat} {k : Nat} (hl : vs.length = ll.length)
    (hown : w.ownsRow 0 151 2 (.slice (some ⟨g, 0, none⟩) vs.length c) vs.length (vs.flatMap cPl)) (hrows : PlsOwn w vs ll) (hf : Fresh B w (g :: plBlocks vs)) (hk : OwL 3 cInt 1 w Sk u r) (hfk : Fresh B w Sk)
    (hd : ∀ b ∈ g :: plBlocks vs, b ∉ Sk) (hkl : k < ll.length) :
    OwPls (w.setCell ⟨g, k * 2, none⟩ u) (g :: plBlocks (vs.set k (u, (ll[k]).2))) (.slice (some ⟨g, 0, none⟩) vs.length c) (ll.set k (r, (ll[k]).2)) ∧ Fresh B (w.setCell ⟨g, k * 2, none⟩ u) (g :: plBlocks (vs.set k (u, (ll[k]).2))) := by
  have hkv : k < vs.length := by omega
  have hch : Chg [g] w (w.setCell ⟨g, k * 2, none⟩ u) := chg_set (Chg.refl _ _) (by simp)
  have hSk := hk.2
  subst hSk
  obtain ⟨e2, _⟩ := hrows k vs[k] ll[k] (List.getElem?_eq_getElem hkv) (List.getElem?_eq_getElem hkl)
  have hnd := List.nodup_cons.1 hf.1
  have hsz := hch.size
  refine ⟨⟨vs.set k (u, (ll[k]).2), by simp [hl], ?_, ?_, ?_⟩, ?_, ?_⟩
  · have h1 := (hown.stored (k * 2) u).1
    have h2 := flat_set (f := cPl) (size := 2) cPl_len vs k hkv 0 (by omega) u (u, (ll[k]).2) (by rw [← e2]; rfl)
    rw [Nat.add_zero] at h2
    rw [h2] at h1
    rw [List.length_set]
    exact h1
  · intro i p r' hp hr'
    by_cases hi : k = i
    · subst hi
      rw [List.getElem?_set_self hkv] at hp
      rw [List.getElem?_set_self hkl] at hr'
      cases hp; cases hr'
      exact ⟨rfl, own_chg hk.1 hch (fun b hb hb' => by simp at hb'; subst hb'; exact hd b List.mem_cons_self hb)⟩
    · rw [List.getElem?_set_ne hi] at hp
      rw [List.getElem?_set_ne hi] at hr'
      obtain ⟨h1, h2⟩ := hrows i p r' hp hr'
      exact ⟨h1, own_chg h2 hch (fun b hb hb' => by simp at hb'; subst hb'; exact hnd.1 (mem_plBlocks hp b hb))⟩
  · simp [Value.ownBlock]
  · rw [plBlocks_set _ hkv]
    rw [plBlocks_split hkv] at hnd hd
    obtain ⟨n1, n2, d1, d2⟩ := nodup2 hnd.2
    obtain ⟨n3, n4, d3, d4⟩ := nodup2 n2
    rw [List.nodup_cons]
    refine ⟨fun hm => ?_, List.nodup_append.2 ⟨n1, List.nodup_append.2 ⟨hfk.1, n4, fun b hb b' hb' e => ?_⟩, fun b hb b' hb' e => ?_⟩⟩
    · rcases List.mem_append.1 hm with hm | hm
      · exact hnd.1 (List.mem_append_left _ hm)
      · rcases List.mem_append.1 hm with hm | hm
        · exact hd g List.mem_cons_self hm
        · exact hnd.1 (List.mem_append_right _ (List.mem_append_right _ hm))
    · subst e
      exact hd b (List.mem_cons_of_mem _ (List.mem_append_right _ (List.mem_append_right _ hb'))) hb
    · subst e
      rcases List.mem_append.1 hb' with hb' | hb'
      · exact hd b (List.mem_cons_of_mem _ (List.mem_append_left _ hb)) hb'
      · exact d1 b hb (List.mem_append_right _ hb')
  · intro b hb
    rw [plBlocks_set _ hkv] at hb
    have hsub : b ∈ g :: plBlocks vs ∨ b ∈ u.ownBlock.toList := by
      rw [plBlocks_split hkv]
      rcases List.mem_cons.1 hb with rfl | hb
      · exact .inl List.mem_cons_self
      · rcases List.mem_append.1 hb with hb | hb
        · exact .inl (List.mem_cons_of_mem _ (List.mem_append_left _ hb))
        · rcases List.mem_append.1 hb with hb | hb
          · exact .inr hb
          · exact .inl (List.mem_cons_of_mem _ (List.mem_append_right _ (List.mem_append_right _ hb)))
    rcases hsub with h | h
    · have := hf.2 b h; omega
    · have := hfk.2 b h; omega
theorem pls_set' {w : World} {B n : Nat} {vs : List (Value × Int)} {ll : List RPl} {g c : Nat} {u : Value} {r : List Int} {Sk : List Nat} {k : Nat} (hn : n = vs.length) (hl : vs.length = ll.length)
    (hown : w.ownsRow 0 151 2 (.slice (some ⟨g, 0, none⟩) n c) n (vs.flatMap cPl)) (hrows : PlsOwn w vs ll) (hf : Fresh B w (g :: plBlocks vs)) (hk : OwL 3 cInt 1 w Sk u r) (hfk : Fresh B w Sk)
    (hd : ∀ b ∈ g :: plBlocks vs, b ∉ Sk) (hkl : k < ll.length) :
    OwPls (w.setCell ⟨g, k * 2, none⟩ u) (g :: plBlocks (vs.set k (u, (ll[k]).2))) (.slice (some ⟨g, 0, none⟩) n c) (ll.set k (r, (ll[k]).2)) ∧ Fresh B (w.setCell ⟨g, k * 2, none⟩ u) (g :: plBlocks (vs.set k (u, (ll[k]).2))) := by
  subst hn
  exact pls_set hl hown hrows hf hk hfk hd hkl
/-- Players and whether something was done are returned, in blocks of the call's own. -/
def RetPls (r : List RPl × Bool) (w : World) (e : Ending) (w' : World) : Prop := ∃ v S, e = .returned (.tuple #[v, .bool r.2]) ∧ OwPls w' S v r.1 ∧ Fresh w.heap.size w' S ∧ Below w.heap.size w w'
theorem retPls_of {r : List RPl × Bool} {l : List RPl} {b : Bool} {w w' : World} {v : Value} {S : List Nat} {B : Nat} (hr : r = (l, b)) (hown : OwPls w' S v l) (hf : Fresh B w' S) (hB : w.heap.size ≤ B) (hb : Below w.heap.size w w') : RetPls r w (.returned (.tuple #[v, .bool b])) w' := by
  subst hr
  exact ⟨v, S, rfl, hown, fresh_mono hf hB (Nat.le_refl _), hb⟩
theorem teach_len (pl : List RPl) (k p : Int) : (teachF pl k p).1.length = pl.length := by unfold teachF; split <;> simp
set_option maxHeartbeats 4000000 in
set_option maxRecDepth 100000 in
theorem implTeachPuppet_any (v : Value) (pl : List RPl) (k p : Int) (w : World) (h : RdPls w v pl) (hl : plsTot pl ≤ 1048576) :
    Calls Try.prog 90 #[v, .int .i64 k, .int .i64 p] w (RetPls (teachF pl k p) w) := by
  have h0 := h
  obtain ⟨A, c, rfl, h1, h2⟩ := h.form
  have hpl : pl.length ≤ 1048576 := by unfold plsTot at hl; omega
  go_enter Try.func90, Try.ntmps90
  go_wp2_with fail
  refine (copyPlayers_any _ pl _ h0 hl).mono ?_
  rintro e w1 ⟨v1, S, rfl, ow, f1, hb1⟩
  have h3 := h0.below hb1
  obtain ⟨A1, c1, rfl, hlc1, _⟩ := ow.rd.form
  have Ow := Lib.hid ow
  clear ow h
  go_wp2_with fail
  refine twoB (implPlayersOk_any _ pl _ h3) (fun w2 hq hb2 => ?_) (fun w2 hq hb2 => ?_)
  · have hbb := bl_trans hb1 hb2
    have h4 := h3.below hb2
    have f2 := fresh_mono f1 (Nat.le_refl _) hb2.size
    have ow2 := Lib.hid (Ow.out.below hb2)
    clear h3 f1 Ow hb1 hb2
    go_wp2_with fail
    refine two (within_any _ _ _ _) (fun hk => ?_) (fun hk => ?_)
    · have hkb := inB_iff.1 hk.out
      obtain ⟨n, rfl⟩ := Int.eq_ofNat_of_zero_le hkb.1
      have hn : n < pl.length := by omega
      go_wp2_with fail
      refine two (within_any _ _ _ _) (fun hp => ?_) (fun hp => ?_)
      · have hpb := inB_iff.1 hp.out
        obtain ⟨g, off, u, rfl, hg, k0, k1, hru⟩ := h4.cell hn
        have htv := teach_v (p := p) hn hq.out hk.out hp.out
        have hkn := knows_idx pl[n].1 p
        have hsr : pl[n].1.length ≤ 16777216 := by
          have hqq := hq.out
          rw [playersB, Bool.and_eq_true, List.all_eq_true] at hqq
          have := hqq.1 _ (List.getElem_mem hn)
          rw [playerB, Bool.and_eq_true] at this
          have := strict_len (m := 6) this.1
          omega
        obtain ⟨Au, cu, rfl, _, _⟩ := hru.form
        have hcon := fun (W : World) (hr : RdL cInt 1 W (.slice Au pl[n].1.length cu) pl[n].1) => indexOf_any (.slice Au pl[n].1.length cu) pl[n].1 p W hr
        go_wp2_with fail
        refine (hcon _ hru).mono ?_
        rintro e w3 ⟨rfl, rfl⟩
        by_cases hkk : 0 ≤ idxF pl[n].1 p
        · have hte : teachB pl n p = false := by rw [htv, knows_fst, hkn.2 hkk]; rfl
          have Hte := Lib.hid hte
          clear htv hkn hte hcon
          generalize idxF pl[n].1 p = ix at *
          go_wp2_with fail
          go_ret2
          exact retPls_of (teachF_f Hte.out) ow2.out f2 (Nat.le_refl _) hbb
        · have hte : teachB pl n p = true := by
            rw [htv, knows_fst]
            cases e : knowsB (pl[n].1, 0) p
            · rfl
            · exact absurd (hkn.1 e) hkk
          have Hte := Lib.hid (teachF_t hn hte)
          have hkk' : idxF pl[n].1 p < 0 := by omega
          clear htv hkn hte hcon
          generalize idxF pl[n].1 p = ix at *
          go_wp2_with fail
          refine (put_any _ pl[n].1 p _ hru hsr).mono ?_
          rintro e w4 ⟨v4, rfl, hown4, hb4⟩
          obtain ⟨vs, hvl, hown, hrows, eS⟩ := ow2.out.below hb4
          have f4 := fresh_mono f2 (Nat.le_refl _) hb4.size
          obtain ⟨g1, cap1, e1⟩ := own_form hown (by omega)
          injection e1 with e11 e12 e13
          subst e11 e13
          rw [← e12] at hown
          have hgs : S = g1 :: plBlocks vs := eS
          have hlow := f2.2
          rw [hgs] at f4 hlow
          have hk4 : OwL 3 cInt 1 w4 v4.ownBlock.toList v4 (putF p pl[n].1) := ⟨own_mono hown4 (Nat.zero_le _), rfl⟩
          have hw2 := hbb.size
          have hf4 : Fresh w.heap.size w4 v4.ownBlock.toList := fresh_mono (fresh_of hown4) hw2 (Nat.le_refl _)
          have hset := pls_set' e12 hvl hown hrows f4 hk4 hf4 (fun b hb hb' => by have := (hlow b hb).2; have := (hown4.lt b (by simpa using hb')).1; omega) hn
          have hxl := hown.1
          obtain ⟨u0, k9⟩ : ∃ u, w4.cell? ⟨g1, n * 2, none⟩ = some u := ⟨_, (hown.cellAt (n * 2) (by omega)).trans (List.getElem?_eq_getElem (by omega))⟩
          have f9 := hown.frozenAt (n * 2)
          have hb9 : Below w.heap.size w (w4.setCell ⟨g1, n * 2, none⟩ v4) := (bl_trans hbb hb4).setCell (by have := (hlow g1 List.mem_cons_self).1; omega) _
          have Hset := Lib.hid hset
          obtain ⟨A4, c4, rfl, _, _⟩ := (RdS.of_own hown4).form
          clear hset hown hrows f4 hk4 hf4 hlow eS hxl hown4 e12 hvl
          go_wp2_with fail
          go_ret2
          exact retPls_of Hte.out Hset.out.1 Hset.out.2 (Nat.le_refl _) hb9
      · have Hte := Lib.hid (teach_f3 (pl := pl) (k := n) hp.out)
        go_wp2_with fail
        go_ret2
        exact retPls_of (teachF_f Hte.out) ow2.out f2 (Nat.le_refl _) hbb
    · have Hte := Lib.hid (teach_f2 (p := p) hk.out)
      go_wp2_with fail
      go_ret2
      exact retPls_of (teachF_f Hte.out) ow2.out f2 (Nat.le_refl _) hbb
  · have Hte := Lib.hid (teach_f1 (k := k) (p := p) hq.out)
    go_wp2_with fail
    go_ret2
    exact retPls_of (teachF_f Hte.out) (Ow.out.below hb2) (fresh_mono f1 (Nat.le_refl _) hb2.size) (Nat.le_refl _) (bl_trans hb1 hb2)
end Go.Proofs.Ytkejgogheonakaa
