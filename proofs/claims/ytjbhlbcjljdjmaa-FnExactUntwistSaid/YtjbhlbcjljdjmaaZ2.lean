/- The twists of the program: the closure that adds, follow with it, twists. Written by a program (gen_z2.py). -/
import Derived.Test.YtjbhlbcjljdjmaaZ1
import Derived.BigRegion
import Derived.Deep.DeepCutAuto
namespace Go.Proofs.Ytjbhlbcjljdjmaa
open Go.RowKit
/-- a cell of a square table: read, written -/
theorem OwRows.pickT {w : World} {S : List Nat} {v : Value} {ll : List (List Int)} {m : Nat} (h : OwRows 28 3 w S v ll) (hS : S.Nodup) (hq : Sq m ll) {a b : Nat} (ha : a < m) (hb : b < m) :
    ∃ go cgo g c, v = .slice (some ⟨go, 0, none⟩) m cgo ∧ w.cell? ⟨go, a, none⟩ = some (.slice (some ⟨g, 0, none⟩) m c) ∧ w.cell? ⟨g, b, none⟩ = some (.int .i64 (cellT ll a b)) ∧ w.frozen? ⟨g, b, none⟩ = false ∧ g ≠ go ∧ g ∈ S ∧ go ∈ S ∧
      ∀ s, OwRows 28 3 (w.setCell ⟨g, b, none⟩ (.int .i64 (cellT ll a b + s))) S v (addT ll a b s) := by
  obtain ⟨h1, h2, h3⟩ := hq.at_ ha
  have h4 : b < (ll[a]).length := by rw [h2]; exact hb
  obtain ⟨go, cgo, g, c, e, c1, c2, f1, n1, n2, n3, h5⟩ := h.pick hS h1 h4
  rw [hq.len] at e
  rw [h2] at c1
  rw [← cellT_at h1 h4] at c2
  refine ⟨go, cgo, g, c, e, c1, c2, f1, n1, n2, n3, fun s => ?_⟩
  unfold addT
  rw [h3]
  exact h5 _
/-- a row is put into its place -/
theorem RowsX.put {T : List Nat} {B : Nat} {w W : World} {v : Value} {ll : List (List Int)} (h : RowsX T B w v ll) (hB : B ≤ w.heap.size) (hTw : ∀ b ∈ T, b < w.heap.size) (hbW : Below w.heap.size w W) {u : Value} {r : List Int} (hk : W.ownsRow w.heap.size 3 1 u r.length (r.flatMap cInt)) {k : Nat} (hkl : k < ll.length) :
    ∃ go cgo, v = .slice (some ⟨go, 0, none⟩) ll.length cgo ∧ B ≤ go ∧ go < w.heap.size ∧ (∃ u0, W.cell? ⟨go, k, none⟩ = some u0) ∧ W.frozen? ⟨go, k, none⟩ = false ∧ RowsX T B (W.setCell ⟨go, k, none⟩ u) v (ll.set k r) := by
  obtain ⟨S, ⟨vs, h1, h2, h3, rfl⟩, hf, hT⟩ := h
  have hz := hbW.size
  obtain ⟨go, cgo, hv⟩ := own_form h2 (by omega)
  subst hv
  have hgo := hf.2 go (List.mem_append_left _ (by simp [Value.ownBlock]))
  have h2W := own_below h2 hbW
  have hkl' : k < vs.length := by omega
  have hkb := own_lt hk
  have hne : ∀ b ∈ u.ownBlock.toList, b ≠ go := fun b hb e => by have := (hkb b hb).1; omega
  have hch : Chg [go] W (W.setCell ⟨go, k, none⟩ u) := chg_set (Chg.refl _ _) (by simp)
  obtain ⟨_, n2, d1, _⟩ := nodup2 hf.1
  have hsub : ∀ b ∈ blocksOf (vs.set k u), b ∈ blocksOf vs ∨ b ∈ u.ownBlock.toList := by
    intro b hb
    obtain ⟨x, hx, hbx⟩ := List.mem_flatMap.1 hb
    rcases List.mem_or_eq_of_mem_set hx with hx | rfl
    · exact .inl (List.mem_flatMap.2 ⟨x, hx, hbx⟩)
    · exact .inr hbx
  refine ⟨go, cgo, by rw [h1], hgo.1, hgo.2, ⟨_, (h2W.cellAt k (by omega)).trans (List.getElem?_eq_getElem hkl')⟩, h2W.frozenAt k, ⟨_, ⟨vs.set k u, by simp [h1], ?_, ?_, rfl⟩, ⟨?_, ?_⟩, ?_⟩⟩
  · rw [List.length_set]
    exact (h2W.stored k u).1
  · intro i x r' hx hr'
    by_cases hi : k = i
    · subst hi
      rw [List.getElem?_set_self hkl'] at hx
      rw [List.getElem?_set_self hkl] at hr'
      simp only [Option.some.injEq] at hx hr'
      subst hx hr'
      exact own_chg (own_mono hk (Nat.zero_le _)) hch (fun b hb hb' => hne b hb (by simpa using hb'))
    · rw [List.getElem?_set_ne hi] at hx hr'
      exact own_chg (own_below (h3 i x r' hx hr') hbW) hch (fun b hb hb' => d1 go (by simp [Value.ownBlock]) (by simp at hb'; subst hb'; exact mem_blocks hx _ hb))
  · refine List.nodup_append.2 ⟨by simp [Value.ownBlock], blocks_set_nodup n2 (by cases u.ownBlock <;> simp) (fun b hb hb' => by have := (hkb b hb).1; have := (hf.2 b (List.mem_append_right _ hb')).2; omega), fun b hb b' hb' e => ?_⟩
    subst e
    have e : b = go := by simpa [Value.ownBlock] using hb
    subst e
    rcases hsub b hb' with h | h
    · exact d1 b (by simp [Value.ownBlock]) h
    · exact hne b h rfl
  · intro b hb
    rw [World.size_setCell]
    rcases List.mem_append.1 hb with h | h
    · have := hf.2 b (List.mem_append_left _ h); omega
    · rcases hsub b h with h | h
      · have := hf.2 b (List.mem_append_right _ h); omega
      · have := hkb b h; omega
  · intro b hb hb'
    rcases List.mem_append.1 hb with h | h
    · exact hT b (List.mem_append_left _ h) hb'
    · rcases hsub b h with h | h
      · exact hT b (List.mem_append_right _ h) hb'
      · have := (hkb b h).1; have := hTw b hb'; omega
 where blocks_set_nodup : ∀ {vs : List Value} {k : Nat} {u : Value}, (blocksOf vs).Nodup → u.ownBlock.toList.Nodup → (∀ b ∈ u.ownBlock.toList, b ∉ blocksOf vs) → (blocksOf (vs.set k u)).Nodup
  | [], k, u, h, _, _ => by simpa using h
  | v :: vs, 0, u, h, hu, hd => by
    rw [List.set_cons_zero]
    unfold blocksOf at h hd ⊢
    rw [List.flatMap_cons] at h hd ⊢
    exact List.nodup_append.2 ⟨hu, (List.nodup_append.1 h).2.1, fun b hb b' hb' e => hd b hb (by rw [e]; exact List.mem_append_right _ hb')⟩
  | v :: vs, k + 1, u, h, hu, hd => by
    rw [List.set_cons_succ]
    have h' := h
    unfold blocksOf at h' ⊢
    rw [List.flatMap_cons] at h' ⊢
    obtain ⟨h1, h2, h3⟩ := List.nodup_append.1 h'
    refine List.nodup_append.2 ⟨h1, blocks_set_nodup (k := k) (u := u) h2 hu (fun b hb hb' => hd b hb (by unfold blocksOf; rw [List.flatMap_cons]; exact List.mem_append_right _ hb')), fun b hb b' hb' e => ?_⟩
    subst e
    obtain ⟨x, hx, hbx⟩ := List.mem_flatMap.1 hb'
    rcases List.mem_or_eq_of_mem_set hx with hx | rfl
    · exact h3 b hb b (List.mem_flatMap.2 ⟨x, hx, hbx⟩) rfl
    · exact hd b hbx (by unfold blocksOf; rw [List.flatMap_cons]; exact List.mem_append_left _ hb)
/-- k rows of noughts have been made -/
def rowsK (m k : Nat) : List (List Int) := List.replicate k (List.replicate m 0) ++ List.replicate (m - k) []
theorem rowsK_len {m k : Nat} (h : k ≤ m) : (rowsK m k).length = m := by simp [rowsK]; omega
theorem rowsK_zero (m : Nat) : rowsK m 0 = List.replicate m [] := by simp [rowsK]
theorem rowsK_end (m : Nat) : rowsK m m = zeroT m := by simp [rowsK, zeroT]
theorem rowsK_succ {m k : Nat} (h : k < m) : rowsK m (k + 1) = (rowsK m k).set k (List.replicate m 0) := by
  unfold rowsK
  rw [List.set_append_right _ _ (by simp), List.length_replicate, Nat.sub_self]
  obtain ⟨d, hd⟩ : ∃ d, m - k = d + 1 := ⟨m - k - 1, by omega⟩
  rw [hd, show List.replicate (d + 1) ([] : List Int) = [] :: List.replicate d [] from List.replicate_succ, List.set_cons_zero, show m - (k + 1) = d by omega, List.replicate_succ', List.append_assoc]
  rfl
theorem rowsX_made {B : Nat} {w : World} {v : Value} {m : Nat} (h : w.ownsRow B 28 1 v m (List.replicate m (.slice none 0 0))) : RowsX [] B w v (rowsK m 0) := by
  rw [rowsK_zero]
  have e : blocksOf (List.replicate m (Value.slice none 0 0)) = [] := by
    unfold blocksOf
    rw [List.flatMap_eq_nil_iff]
    intro x hx
    rw [List.eq_of_mem_replicate hx]
    rfl
  refine ⟨v.ownBlock.toList, ⟨List.replicate m (.slice none 0 0), by simp, by rw [List.length_replicate]; exact own_mono h (Nat.zero_le _), fun i u r hu hr => ?_, by rw [e, List.append_nil]⟩, fresh_of h, fun b _ => by simp⟩
  rw [List.getElem?_replicate] at hu hr
  split at hu
  · rename_i hi
    rw [if_pos hi] at hr
    simp only [Option.some.injEq] at hu hr
    subst hu hr
    exact World.ownsRow_nil _ _ _ _
  · simp at hu
theorem stepB_t : stepB true = 1 := rfl
theorem stepB_f : stepB false = -1 := rfl
set_option maxHeartbeats 4000000 in
set_option maxRecDepth 100000 in
theorem twists1_any (a X Y : Int) (f : Bool) (m gt : Nat) (S : List Nat) (vt : Value) (ll : List (List Int)) (w : World) (hbox : w.cell? ⟨gt, 0, none⟩ = some vt) (h : OwRows 28 3 w S vt ll) (hS : S.Nodup) (hgt : gt ∉ S) (hSw : ∀ b ∈ S, b < w.heap.size) (hq : Sq m ll) (hX : 0 ≤ X ∧ X < m) (hY : 0 ≤ Y ∧ Y < m) (hbd : ∀ i j, -1000 ≤ cellT ll i j ∧ cellT ll i j ≤ 1000) :
    Calls Try.prog 145 #[.agg #[.int .i64 a, .bool f], .int .i64 X, .int .i64 Y, .pointer (some ⟨gt, 0, none⟩)] w fun e w' => e = .returned (.tuple #[]) ∧ OwRows 28 3 w' S vt (addT (addT ll X.toNat Y.toNat (stepB f)) Y.toNat X.toNat (stepB f)) ∧ Chg S w w' := by
  obtain ⟨x, rfl⟩ := Int.eq_ofNat_of_zero_le hX.1
  obtain ⟨y, rfl⟩ := Int.eq_ofNat_of_zero_le hY.1
  have hx : x < m := by omega
  have hy : y < m := by omega
  clear hX hY
  show Calls Try.prog 145 _ w fun e w' => e = .returned (.tuple #[]) ∧ OwRows 28 3 w' S vt (addT (addT ll x y (stepB f)) y x (stepB f)) ∧ Chg S w w'
  have hch0 : Chg S w (w.alloc (.cells #[.int .i64 a, .bool f] 115)) := Chg.of_below ((Below.refl _ _).alloc (Nat.le_refl _) _) S
  have h0 := h.below ((Below.refl _ _).alloc (Nat.le_refl _) (.cells #[.int .i64 a, .bool f] 115))
  have hbox0 := cell_alloc (.cells #[.int .i64 a, .bool f] 115) hbox
  have Lc := Loc.new w #[.int .i64 a, .bool f] 115
  have hgc : w.heap.size ∉ S := fun hm => by have := hSw _ hm; omega
  have hcg : ¬ w.heap.size = gt := fun e => by have := World.block_lt_of_cell? w _ hbox; simp at this; omega
  obtain ⟨s, hs⟩ : ∃ s, stepB f = s := ⟨_, rfl⟩
  have hs1 : -1 ≤ s ∧ s ≤ 1 := by cases f <;> (rw [← hs]; decide)
  rw [hs]
  have hb1 := hbd x y
  obtain ⟨go, cgo, g, c, rfl, c1, c2, f1, n1, n2, n3, H1⟩ := h0.pickT hS hq hx hy
  have hq2 := addT_sq hq hx y s
  have hb2 : -1001 ≤ cellT (addT ll x y s) y x ∧ cellT (addT ll x y s) y x ≤ 1001 := by
    rw [addT_cell hq hx hy]
    split
    · rename_i e; omega
    · have := hbd y x; omega
  obtain ⟨T1, hT1⟩ : ∃ T1, addT ll x y s = T1 := ⟨_, rfl⟩
  have h1 := H1 s
  rw [hT1] at h1 hq2 hb2 ⊢
  clear H1 hT1 h hq hbd h0
  obtain ⟨v1, hv1⟩ : ∃ v1, cellT ll x y + s = v1 := ⟨_, rfl⟩
  have hw1 : IntKind.i64.wrap (cellT ll x y + s) = v1 := by rw [← hv1]; exact IntWalk.i64_in _ (by omega)
  rw [hv1] at h1
  clear hv1
  generalize cellT ll x y = t1 at *
  obtain ⟨go', cgo', g', c', e, d1, d2, f2, m1, m2, m3, H2⟩ := h1.pickT hS hq2 hy hx
  have h2 := H2 s
  injection e with e1 e2 e3
  injection e1 with e1
  injection e1 with e1
  subst e1 e3
  clear H2 e2 h1
  obtain ⟨v2, hv2⟩ : ∃ v2, cellT T1 y x + s = v2 := ⟨_, rfl⟩
  have hw2 : IntKind.i64.wrap (cellT T1 y x + s) = v2 := by rw [← hv2]; exact IntWalk.i64_in _ (by omega)
  rw [hv2] at h2
  clear hv2
  generalize cellT T1 y x = t2 at *
  have hgg : ¬ g = gt := fun e => hgt (e ▸ n2)
  have hgg' : ¬ gt = g := fun e => hgg e.symm
  have hgw : ¬ g = w.heap.size := fun e => hgc (e ▸ n2)
  have hgw' : ¬ w.heap.size = g := fun e => hgw e.symm
  have hgo1 : ¬ go = g := fun e => n1 e.symm
  have hgo2 : ¬ go = g' := fun e => m1 e.symm
  have hx0 : (x : Int) < (m : Int) := by omega
  have hy0 : (y : Int) < (m : Int) := by omega
  have k0 := (Lc 0 _ rfl).1
  have k1 := (Lc 1 _ rfl).1
  have H := Lib.hid h2
  have HC : Hid (Chg S w (((w.alloc (.cells #[.int .i64 a, .bool f] 115)).setCell ⟨g, y, none⟩ (.int .i64 v1)).setCell ⟨g', x, none⟩ (.int .i64 v2))) := hch0.trans (chg_set (chg_set (Chg.refl _ _) n2) m2)
  have hbox1 : ((w.alloc (.cells #[.int .i64 a, .bool f] 115)).setCell ⟨g, y, none⟩ (.int .i64 v1)).cell? ⟨gt, 0, none⟩ = some (.slice (some ⟨go, 0, none⟩) m cgo) := carryChg (S := [g]) (chg_set (Chg.refl _ _) (by simp)) hbox0 (by simp; exact fun e => hgg e.symm)
  obtain ⟨W1, hW1⟩ : ∃ W1, (w.alloc (.cells #[.int .i64 a, .bool f] 115)).setCell ⟨g, y, none⟩ (.int .i64 v1) = W1 := ⟨_, rfl⟩
  rw [hW1] at hbox1 d1 d2 f2 H HC
  have hSz : m < 9223372036854775807 ∨ True := .inr trivial
  clear h2 hch0 Lc hgc hSw hS hgt hq2 n2 n3 m2 m3 hSz hb1 hb2
  have HW1 := Lib.hid hW1
  clear hW1
  cases f
  all_goals
    first | rw [stepB_t] at hs | rw [stepB_f] at hs
    subst hs
    go_enter Try.func145, Try.ntmps145
    go_upto_region 5 with (fail)
    rw [HW1.out]
    clear c1 c2 f1 hbox0 k0 k1 hw1
    go_wp2_with fail
    go_end0
    exact ⟨rfl, H.out, HC.out⟩
set_option maxHeartbeats 8000000 in
set_option maxRecDepth 100000 in
theorem followTw_any (m : Nat) (v : Value) (cs : List RCross) (w0 w : World) (h : RdL cCross 2 w0 v cs) (hw0 : Below w0.heap.size w0 w) (hm : 1 ≤ m ∧ m ≤ 7) (hlen : cs.length ≤ 40) (hcs : ∀ c ∈ cs, 0 ≤ c.1 ∧ c.1 ≤ (m : Int) - 2) (gt : Nat) (S : List Nat) (vt : Value) (hbox : w.cell? ⟨gt, 0, none⟩ = some vt) (hrows : OwRows 28 3 w S vt (zeroT m)) (hS : S.Nodup) (hgt : gt ∉ S) (hSB : ∀ b ∈ S, w0.heap.size ≤ b ∧ b < w.heap.size) :
    Calls Try.prog 143 #[.int .i64 m, v, .func (.func 145) #[] #[.pointer (some ⟨gt, 0, none⟩)]] w fun e w' => ∃ v', e = .returned v' ∧ w'.ownsRow w.heap.size 3 1 v' (orderF m cs).length ((orderF m cs).flatMap cInt) ∧ OwRows 28 3 w' S vt (twL m cs) ∧ w'.cell? ⟨gt, 0, none⟩ = some vt ∧ Below w0.heap.size w0 w' := by
  have h0 := h
  obtain ⟨A, c, rfl, h1, h2⟩ := h.form
  go_enter Try.func143, Try.ntmps143
  go_wp2_with fail
  refine (upTo_any m w (by omega)).mono ?_
  rintro e w1 ⟨v1, rfl, own1, hb1⟩
  have hm0 : 0 < (upN m).length := by rw [upN_len]; omega
  obtain ⟨go, co, rfl⟩ := own_form own1 hm0
  have hgo := own1.lt go rfl
  have hz1 := hb1.size
  rw [upN_len] at own1
  rw [upN_len]
  clear hm0
  have own1' : w1.ownsRow w.heap.size 3 1 (.slice (some ⟨go, 0, none⟩) m co) m ((orderF m (cs.take 0)).flatMap cInt) := own1
  have Hcs := Lib.hid hcs
  clear own1 hcs
  have hz00 := hw0.size
  have hgo0 : w0.heap.size ≤ go := by omega
  have hgtw : gt < w.heap.size := World.block_lt_of_cell? w _ hbox
  have hrows1 := hrows.below hb1
  have hbox1 := carry hb1 hbox
  have hb01 : Below w0.heap.size w0 w1 := hw0.trans (hb1.mono (by omega))
  go_wp2_with fail
  go_loopw [9, 14] (fun _ i wr => ∃ k : Nat, k ≤ cs.length ∧ i = .int .i64 k ∧ wr.ownsRow w.heap.size 3 1 (.slice (some ⟨go, 0, none⟩) m co) m ((orderF m (cs.take k)).flatMap cInt) ∧ OwRows 28 3 wr S vt (twL m (cs.take k)) ∧ wr.cell? ⟨gt, 0, none⟩ = some vt ∧ Below w0.heap.size w0 wr) (fun _ i _ => cs.length - (intOf i).toNat)
  case atStart => exact ⟨0, Nat.zero_le _, rfl, own1', hrows1, hbox1, hb01⟩
  case round =>
    obtain ⟨k, hk, rfl, hown, hrw, hbx, hb⟩ := hrel
    clear own1' hb1 hrows1 hbox1 hb01
    by_cases hlt : k < cs.length
    · have hr := h0.below hb
      obtain ⟨g, off, rfl, hg, hc⟩ := hr.cell cCross_len (by omega) hlt
      have k0 := hc 0 _ rfl
      have k1 := hc 1 _ rfl
      simp only [Nat.add_zero] at k0 k1
      clear hc
      have hcb := Hcs.out _ (List.getElem_mem hlt)
      have hsn := orderF_snoc m hlt
      have hord : IsOrd m (orderF m (cs.take k)) := IsOrd.order (fun c hc => Hcs.out c (List.mem_of_mem_take hc))
      have hol := hord.len

      obtain ⟨a, ha⟩ := Int.eq_ofNat_of_zero_le hcb.1
      rw [ha] at k0 hcb
      rw [ha, show ((a : Nat) : Int).toNat = a from rfl] at hsn
      have ha1 : a + 1 < m := by omega
      have htw := twL_snoc m hlt
      rw [ha, show ((a : Nat) : Int).toNat = a from rfl] at htw
      have HO := Lib.hid hord
      have HTQ := Lib.hid (twL_sq (n := m) (cs := cs.take k) (fun c hc => Hcs.out c (List.mem_of_mem_take hc)))
      have HBD : Hid (∀ i j, -1000 ≤ cellT (twL m (cs.take k)) i j ∧ cellT (twL m (cs.take k)) i j ≤ 1000) := fun i j => by have := twL_bd Hcs.out k (by omega) i j; omega
      have HTW := Lib.hid htw
      clear htw
      generalize hTT : twL m (cs.take k) = TT at *
      clear hTT
      generalize cs[k] = cc at *
      obtain ⟨ca, f⟩ := cc
      simp only at ha k0 k1
      subst ha
      generalize orderF m (cs.take k) = o at *
      have hal : a + 1 < o.length := by omega
      have Hsn : Hid (orderF m (cs.take (k + 1)) = (o.set a o[a + 1]).set (a + 1) o[a]) := by rw [← swapL_eq hal]; exact hsn
      clear hsn hord
      go_upto_region 5 with (fail)
      have Lo := Loc.new wr #[.int .i64 a, .bool f] 115
      have hgow := (hown.lt go rfl).2
      have hown2 := hown.alloc (.cells #[.int .i64 a, .bool f] 115)
      have hb2 := hb.alloc (o := (.cells #[.int .i64 a, .bool f] 115)) hb.size
      obtain ⟨gb, hgb⟩ : ∃ g, wr.heap.size = g := ⟨_, rfl⟩
      have hgbW : gb < (wr.alloc (.cells #[.int .i64 a, .bool f] 115)).heap.size := by simp; omega
      have hwgb : w.heap.size ≤ gb := by have := hgo.1; omega
      rw [hgb] at Lo hgow
      clear hown hr k0 k1
      have htw := HTW.out
      rw [getD_get o a (by omega), getD_get o (a + 1) hal] at htw
      clear HTW
      have HTW := Lib.hid htw
      clear htw
      have hXa := HO.out.bd _ (List.getElem_mem (show a < o.length by omega))
      have hYa := HO.out.bd _ (List.getElem_mem hal)
      clear HO
      have hrw2 := hrw.below ((Below.refl _ _).alloc (Nat.le_refl _) (.cells #[.int .i64 a, .bool f] 115))
      have hbx2 := cell_alloc (.cells #[.int .i64 a, .bool f] 115) hbx
      have hSW : ∀ b ∈ S, b < (wr.alloc (.cells #[.int .i64 a, .bool f] 115)).heap.size := fun b hb => by have := hSB b hb; simp; omega
      clear hrw hbx
      generalize wr.alloc (.cells #[.int .i64 a, .bool f] 115) = W at *
      rw [hgb]
      clear hgb hb hg
      have b0 := (Lo 0 _ rfl).1
      have b1 := (Lo 1 _ rfl).1
      have q1 := row_cell hown2 (k := a) (by omega)
      have q2 := row_cell hown2 (k := a + 1) hal
      have i1 : (a : Int) < (m : Int) := by omega
      have i2 : (a : Int) + 1 < (m : Int) := by omega
      have hw := IntWalk.i64_in ((a : Int) + 1) (by omega)
      have e1 : ((a : Int) + 1).toNat = a + 1 := by omega
      have ia : a < m := by omega
      have i4 : (0 : Int) ≤ (a : Int) + 1 := by omega
      have i5 : ¬ (a : Int) + 1 < 0 := by omega
      go_still_tail 13, (by kernel_rfl)
      clear i1 i2 i4 i5
      change wpList _ _ _ _ _ (World.drew W)
      have Hok := Lib.hid (show a < o.length ∧ a + 1 < o.length from ⟨by omega, hal⟩)
      have hCT := twists1_any (a : Int) o[a] o[a + 1] f m gt S vt TT W.drew hbx2 hrw2 hS hgt (fun b hb => by have := hSW b hb; show b < W.heap.size; omega) HTQ.out hXa hYa HBD.out
      go_wp2_with (go_at_call 145; refine hCT.mono ?_; rintro e w2 ⟨rfl, hrw3, hch⟩)
      have hgoS : go ∉ S := fun hm => by have := hSB go hm; omega
      have hgbS : gb ∉ S := fun hm => by have := hSB gb hm; omega
      have hWz : W.heap.size ≤ w2.heap.size := hch.size
      have hown3 := own_chg (show W.drew.ownsRow w.heap.size 3 1 (.slice (some ⟨go, 0, none⟩) m co) m (o.flatMap cInt) from hown2) hch (fun x hx hx' => hgoS (by simp [Value.ownBlock] at hx; subst hx; exact hx'))
      have hb4 : Below w0.heap.size w0 w2 := Below.chg hb2.drew hch (by have := hb2.size; show w0.heap.size ≤ W.heap.size; omega) (fun b hb => (hSB b hb).1)
      replace Lo := (show Loc W.drew gb _ from Lo).chg hch hgbS
      have hbx3 := carryChg hch hbx2 hgt
      have H9 : Chg [go] w2 ((w2.setCell ⟨go, a, none⟩ (.int .i64 o[a + 1])).setCell ⟨go, a + 1, none⟩ (.int .i64 o[a])) := chg_set (chg_set (Chg.refl _ _) (by simp)) (by simp)
      have HR := Lib.hid (hrw3.chg H9 (fun x hx hx' => by simp at hx'; subst hx'; exact hgoS hx))
      rw [← HTW.out] at HR
      have HX := Lib.hid (carryChg H9 hbx3 (by simp; omega))
      clear b0 b1 q1 q2 hown2 hb2 hch hgbW hCT hrw2 hbx2 hrw3 hbx3 H9 hXa hYa HTW
      have b0 := (Lo 0 _ rfl).1
      have q1 := row_cell hown3 (k := a) (by omega)
      have q2 := row_cell hown3 (k := a + 1) hal
      have fz1 := hown3.frozenAt a
      have fz2 := hown3.frozenAt (a + 1)
      have ne1 : ¬ go = gb := by omega
      have ne2 : ¬ gb = go := by omega
      have hz4 : w.heap.size ≤ w2.heap.size := by have := (hown3.lt go rfl).2; omega
      have hgz : go < w2.heap.size := (hown3.lt go rfl).2
      have HB := Lib.hid (show Below w0.heap.size w0 ((w2.setCell ⟨go, a, none⟩ (.int .i64 o[a + 1])).setCell ⟨go, a + 1, none⟩ (.int .i64 o[a])) from (hb4.setCell hgo0 _).setCell hgo0 _)
      have H3 := Lib.hid (row_stored (row_stored hown3 a o[a + 1]) (a + 1) o[a])
      rw [← Hsn.out] at H3
      clear Hsn hown3 hb4 Lo
      generalize o[a + 1] = y at *
      generalize o[a] = x at *
      clear hol hal
      go_region
      go_wp2_with fail
      go_roundw
      case rel => exact ⟨k + 1, by omega, by go_num, H3.out, HR.out, HX.out, HB.out.drew⟩
      case measure => simp [intOf]; omega
    · obtain rfl : k = cs.length := by omega
      rw [List.take_length] at hown
      go_wp2_with fail
      go_ret
      rw [orderF_len]
      exact ⟨_, rfl, hown, (by rw [List.take_length] at hrw; exact hrw), hbx, hb⟩
theorem made_rows (n : Nat) : (madeCells (Value.slice none 0 0).cells n).toList = List.replicate n (Value.slice none 0 0) := by
  apply List.ext_getElem
  · simp [madeCells]
  · intro i h1 h2
    simp [madeCells, Value.cells, Nat.mod_one]
theorem act25tw {a : Act} (h : a.tmps.size = 25) (hd : a.defers = []) : ∃ x0 x1 x2 x3 x4 x5 x6 x7 x8 x9 x10 x11 x12 x13 x14 x15 x16 x17 x18 x19 x20 x21 x22 x23 x24 : Value, a = ⟨#[x0, x1, x2, x3, x4, x5, x6, x7, x8, x9, x10, x11, x12, x13, x14, x15, x16, x17, x18, x19, x20, x21, x22, x23, x24], []⟩ := by
  obtain ⟨⟨l⟩, d⟩ := a
  subst hd
  match l, h with
  | [x0, x1, x2, x3, x4, x5, x6, x7, x8, x9, x10, x11, x12, x13, x14, x15, x16, x17, x18, x19, x20, x21, x22, x23, x24], _ => exact ⟨x0, x1, x2, x3, x4, x5, x6, x7, x8, x9, x10, x11, x12, x13, x14, x15, x16, x17, x18, x19, x20, x21, x22, x23, x24, rfl⟩
def ptw (go k m B : Nat) (i : Nat) (v : Value) (_ : Nat → Nat) (w : World) : Prop :=
  match i with
  | 0 => v = .slice (some ⟨go, 0, none⟩) m m
  | 1 => v = .int .i64 k
  | 2 => v = .int .i64 m
  | 3 => w.ownsRow B 3 1 v m ((List.replicate m 0).flatMap cInt)
  | 4 => v = .pointer (some ⟨go, k, none⟩)
  | _ => True
set_option maxHeartbeats 8000000 in
set_option maxRecDepth 100000 in
theorem implTwists_any (m : Nat) (v : Value) (cs : List RCross) (w : World) (h : RdL cCross 2 w v cs) (hqc : crossesB m cs = true) :
    Calls Try.prog 115 #[.int .i64 m, v] w fun e w' => ∃ v', e = .returned v' ∧ RowsX [] w.heap.size w' v' (twL m cs) ∧ Below w.heap.size w w' := by
  have h0 := h
  obtain ⟨A, c, rfl, h1, h2⟩ := h.form
  obtain ⟨hn, hlen, hcs⟩ := crosses_len hqc
  have hm : 1 ≤ m ∧ m ≤ 7 := by omega
  have HCS := Lib.hid hcs
  obtain ⟨i0, hi0, hz0, hz1, hz2⟩ := info_parts infoInt
  obtain ⟨iR, hiR, hzR0, hzR1, hzR2⟩ := info_parts infoRow
  clear hcs hqc hn
  go_enter Try.func115, Try.ntmps115
  go_wp2_with (at_make; refine wpList_make_full _ rfl _ _ _ rfl w.heap.size 28 iR _ 1 Try.underlying74 hiR hzR0 hzR1 _ _ _ _ m rfl rfl rfl rfl (by rw [hzR2]; omega) (by simp [maxLen]; omega) (Nat.le_refl _) ?_; intro w1 hown hgr)
  rw [made_rows, Nat.mul_one] at hown
  have hb1 : Below w.heap.size w w1 := (Below.refl _ _).grown hgr (Nat.le_refl _) (by simp)
  have hz01 := (hown.lt w.heap.size rfl).2
  obtain ⟨S, hS1, hS2, _⟩ := rowsX_made hown
  obtain ⟨gb, hgb⟩ : ∃ g, w1.heap.size = g := ⟨_, rfl⟩
  have hrw0 : RowsX [gb] w.heap.size (w1.alloc (.cells #[.slice (some ⟨w.heap.size, 0, none⟩) m m] 74)) (.slice (some ⟨w.heap.size, 0, none⟩) m m) (rowsK m 0) :=
    ⟨S, hS1.below ((Below.refl _ _).alloc (Nat.le_refl _) _), fresh_mono hS2 (Nat.le_refl _) (by simp), fun b hb hb' => by have := (hS2.2 b hb).2; simp at hb'; omega⟩
  have Lb0 := Loc.new w1 #[.slice (some ⟨w.heap.size, 0, none⟩) m m] 74
  have hb0 : Below w.heap.size w (w1.alloc (.cells #[.slice (some ⟨w.heap.size, 0, none⟩) m m] 74)) := hb1.alloc (by omega) _
  have hzg : gb < (w1.alloc (.cells #[.slice (some ⟨w.heap.size, 0, none⟩) m m] 74)).heap.size := by simp; omega
  rw [hgb] at Lb0 hz01
  clear hown hgr hb1 hS1 hS2
  go_upto_region 2 with (fail)
  generalize (w1.alloc (.cells #[.slice (some ⟨w.heap.size, 0, none⟩) m m] 74)) = W at *
  (try rw [hgb])
  clear hgb w1
  have bx0 := (Lb0 0 _ rfl).1
  go_wp2_with fail
  go_loopw [6, 11] (fun _ i wr => ∃ k : Nat, k ≤ m ∧ i = .int .i64 k ∧ RowsX [gb] w.heap.size wr (.slice (some ⟨w.heap.size, 0, none⟩) m m) (rowsK m k) ∧ Loc wr gb [.slice (some ⟨w.heap.size, 0, none⟩) m m] ∧ gb < wr.heap.size ∧ Below w.heap.size w wr) (fun _ i _ => m - (intOf i).toNat)
  case atStart => exact ⟨0, Nat.zero_le _, rfl, hrw0, Lb0, hzg, hb0⟩
  case round =>
    obtain ⟨k, hk, rfl, hrw, Lb, hzb, hb⟩ := hrel
    clear hrw0 Lb0 hzg hb0 bx0
    have hz := hb.size
    by_cases hlt : k < m
    · go_upto_region 5 with (fail)
      refine region_made (n := 25) 5 (by kernel_rfl) rfl (by kernel_rfl) (fun w' => Below wr.heap.size wr w') (fun _ => 0) (ptw w.heap.size k m wr.heap.size) (Below.refl _ _).drew ?_ ?_ ?_
      · intro i v gh gh' w1 w2 hp hJ hb' hg
        match i, hp with
        | 0, hp => exact hp
        | 1, hp => exact hp
        | 2, hp => exact hp
        | 3, hp => exact own_below hp hb'
        | 4, hp => exact hp
        | _ + 5, _ => trivial
      · refine ⟨?_, ?_, ?_, ?_, ?_, trivial⟩
        all_goals
          intro a gh w1 hag hJ hd
          obtain ⟨x0, x1, x2, x3, x4, x5, x6, x7, x8, x9, x10, x11, x12, x13, x14, x15, x16, x17, x18, x19, x20, x21, x22, x23, x24, rfl⟩ := act25tw hag.size hag.defers
          have ag0 : x0 = .int .i64 m := hag.kept 0 (by kernel_rfl)
          have ag5 : x5 = .pointer (some ⟨gb, 0, none⟩) := hag.kept 5 (by kernel_rfl)
          have ag6 : x6 = .int .i64 k := hag.kept 6 (by kernel_rfl)
          clear hag
          subst ag0 ag5 ag6
        · have c0 := ((Lb.below hJ) 0 _ rfl).1
          go_wp2_with fail
          exact ⟨rfl, _, rfl, rfl, hJ, Below.refl _ _⟩
        · go_wp2_with fail
          exact ⟨rfl, _, rfl, rfl, hJ, Below.refl _ _⟩
        · go_wp2_with fail
          exact ⟨rfl, _, rfl, rfl, hJ, Below.refl _ _⟩
        · have e1 : x16 = .int .i64 m := hd 2 (by kernel_rfl) _ rfl
          subst e1
          go_wp2_with (at_make; refine wpList_make_full _ rfl _ _ _ rfl w1.heap.size 3 i0 _ 1 Try.underlying28 hi0 hz0 hz1 _ _ _ _ m rfl rfl rfl rfl (by rw [hz2]; omega) (by simp [maxLen]; omega) (Nat.le_refl _) ?_; intro w2 hown hgr)
          rw [row_made, Nat.mul_one] at hown
          have hb2 : Below w1.heap.size w1 w2 := (Below.refl _ _).grown hgr (Nat.le_refl _) (by simp)
          exact ⟨rfl, _, rfl, own_mono hown hJ.size, bl_trans hJ hb2, hb2⟩
        · have e1 : x14 = .slice (some ⟨w.heap.size, 0, none⟩) m m := hd 0 (by kernel_rfl) _ rfl
          have e2 : x15 = .int .i64 k := hd 1 (by kernel_rfl) _ rfl
          subst e1 e2
          go_wp2_with fail
          exact ⟨rfl, _, rfl, rfl, hJ, Below.refl _ _⟩
      · intro a gh w1 hag hJ hd
        obtain ⟨x0, x1, x2, x3, x4, x5, x6, x7, x8, x9, x10, x11, x12, x13, x14, x15, x16, x17, x18, x19, x20, x21, x22, x23, x24, rfl⟩ := act25tw hag.size hag.defers
        have ag0 : x0 = .int .i64 m := hag.kept 0 (by kernel_rfl)
        have ag1 : x1 = .slice A cs.length c := hag.kept 1 (by kernel_rfl)
        have ag2 : x2 = undef := hag.kept 2 (by kernel_rfl)
        have ag3 : x3 = undef := hag.kept 3 (by kernel_rfl)
        have ag4 : x4 = .slice none 0 0 := hag.kept 4 (by kernel_rfl)
        have ag5 : x5 = .pointer (some ⟨gb, 0, none⟩) := hag.kept 5 (by kernel_rfl)
        have ag6 : x6 = .int .i64 k := hag.kept 6 (by kernel_rfl)
        have ag7 : x7 = .int .i64 m := hag.kept 7 (by kernel_rfl)
        have ag8 : x8 = .slice (some ⟨w.heap.size, 0, none⟩) m m := hag.kept 8 (by kernel_rfl)
        have ag9 : x9 = .slice (some ⟨w.heap.size, 0, none⟩) m m := hag.kept 9 (by kernel_rfl)
        have ag10 : x10 = .int .i64 m := hag.kept 10 (by kernel_rfl)
        have ag11 : x11 = .int .i64 k := hag.kept 11 (by kernel_rfl)
        have ag12 : x12 = .bool true := hag.kept 12 (by kernel_rfl)
        have ag13 : x13 = .int .i64 k := hag.kept 13 (by kernel_rfl)
        have ag20 : x20 = undef := hag.kept 20 (by kernel_rfl)
        have ag21 : x21 = undef := hag.kept 21 (by kernel_rfl)
        have ag22 : x22 = undef := hag.kept 22 (by kernel_rfl)
        have ag23 : x23 = undef := hag.kept 23 (by kernel_rfl)
        have ag24 : x24 = undef := hag.kept 24 (by kernel_rfl)
        clear hag
        subst ag0 ag1 ag2 ag3 ag4 ag5 ag6 ag7 ag8 ag9 ag10 ag11 ag12 ag13 ag20 ag21 ag22 ag23 ag24
        have ou : w1.ownsRow wr.heap.size 3 1 x17 m ((List.replicate m 0).flatMap cInt) := hd 3 (by kernel_rfl) _ rfl
        have e1 : x18 = .pointer (some ⟨w.heap.size, k, none⟩) := hd 4 (by kernel_rfl) _ rfl
        subst e1
        obtain ⟨Au, cu, rfl, _, _⟩ := (RdS.of_own ou).form
        obtain ⟨go, cgo, e1, _, hgo2, ⟨u0, hc0⟩, hf0, hput⟩ := hrw.put hz (by simp; omega) hJ (r := List.replicate m 0) (by rw [List.length_replicate]; exact ou) (k := k) (by rw [rowsK_len hk]; exact hlt)
        injection e1 with e1 e2 e3
        injection e1 with e1
        injection e1 with e1
        subst e1
        clear e2 e3
        rw [← rowsK_succ hlt] at hput
        have H := Lib.hid hput
        have HL : Hid (Loc (w1.setCell ⟨w.heap.size, k, none⟩ (.slice Au m cu)) gb [.slice (some ⟨w.heap.size, 0, none⟩) m m]) := (Lb.below hJ).far (by omega)
        have HB : Hid (Below w.heap.size w (w1.setCell ⟨w.heap.size, k, none⟩ (.slice Au m cu))) := (hb.trans (hJ.mono hz)).setCell (Nat.le_refl _) _
        have HZ : Hid (gb < (w1.setCell ⟨w.heap.size, k, none⟩ (.slice Au m cu)).heap.size) := by have := hJ.size; show gb < _; rw [World.size_setCell]; omega
        clear hput ou hJ hd
        change wpList _ _ _ [_] _ _
        go_wp2_with fail
        go_roundw
        case rel => exact ⟨k + 1, by omega, by go_num, H.out, HL.out, HZ.out, HB.out⟩
        case measure => simp [intOf]; omega
    · obtain rfl : k = m := by omega
      rw [rowsK_end] at hrw
      obtain ⟨S, hS1, hS2, hS3⟩ := hrw
      have hbx := (Lb 0 _ rfl).1
      go_wp2_with (go_at_call 143; refine (followTw_any k _ cs w _ h0 hb hm (by omega) HCS.out gb S _ hbx hS1 hS2.1 (fun hm => hS3 gb hm (by simp)) hS2.2).mono ?_; rintro e w2 ⟨v2, rfl, own2, hrw2, hbx2, hb2⟩)
      have hz2 : wr.heap.size ≤ w2.heap.size := by
        obtain ⟨g, cg, e⟩ := own_form own2 (by rw [orderF_len]; omega)
        have := own2.lt g (by rw [e]; rfl)
        omega
      go_wp2_with fail
      go_ret
      exact ⟨_, rfl, ⟨S, hrw2, fresh_mono hS2 (Nat.le_refl _) hz2, fun b _ => by simp⟩, hb2⟩
end Go.Proofs.Ytjbhlbcjljdjmaa
