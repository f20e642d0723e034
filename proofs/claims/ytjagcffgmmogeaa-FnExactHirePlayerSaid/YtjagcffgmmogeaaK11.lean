/- Contracts: HirePlayer. Written by a program (gen_k10.py). -/
import Derived.Test.YtjagcffgmmogeaaK10
import Derived.Test.YtjagcffgmmogeaaP3
namespace Go.Proofs.Ytjagcffgmmogeaa
open Go.RowKit
theorem frozen_alloc {w : World} {p : Addr} {v : Value} (o : Obj) (h : w.cell? p = some v) (hf : w.frozen? p = false) : (w.alloc o).frozen? p = false := (((Below.refl w.heap.size w).alloc (Nat.le_refl _) o).frozen (World.block_lt_of_cell? w _ h)).trans hf
def hireF (t : Th) (free : Int) : Th × Bool := becF t ⟨t.n, wrap64 (t.m - 10), t.cs, t.pl ++ [([], free)], t.ds⟩ true
set_option maxHeartbeats 8000000 in
set_option maxRecDepth 100000 in
theorem implHirePlayer_any (n m free : Int) (v1 v2 v3 : Value) (cs : List RCross) (pl : List RPl) (ds : List Int) (w : World) (h : RdTheatre w v1 v2 v3 cs pl ds) (hsz : szTheatre cs pl ds ≤ 1048576) :
    Calls Try.prog 29 #[.agg #[.int .i64 n, v1, v2, v3, .int .i64 m], .int .i64 free] w (RetTh w.heap.size (hireF ⟨n, m, cs, pl, ds⟩ free) w) := by
  obtain ⟨⟨A1, n1, rfl⟩, ⟨A2, n2, rfl⟩, ⟨A3, n3, rfl⟩⟩ := h.forms
  have hpl : pl.length ≤ 1048576 := by unfold szTheatre szCompany plsTot at hsz; omega
  obtain ⟨i0, hi0, hp0, hp1, hp2⟩ := info_parts infoPlayer
  unfold hireF
  obtain ⟨⟨⟨rn, rm, rcs, rpl, rds⟩, rb⟩, hres⟩ : ∃ res, becF ⟨n, m, cs, pl, ds⟩ ⟨n, wrap64 (m - 10), cs, pl ++ [([], free)], ds⟩ true = res := ⟨_, rfl⟩
  rw [hres]
  change Calls _ _ _ _ (RetT w.heap.size rn rm rb rcs rpl rds w)
  have Hres := Lib.hid hres
  clear hres
  go_enter Try.func29, Try.ntmps29
  go_wp2_with fail
  refine (theatreCopied_any n m _ _ _ cs pl ds _ (h.below (by (repeat' (first | (with_reducible exact Below.refl _ _) | (with_reducible assumption) | (with_reducible refine Below.setCell ?_ (by first | omega | (simp; omega) | (simp; done)) _) | (with_reducible refine Below.alloc ?_ (by first | omega | (simp; omega) | (simp; done)) _) | (with_reducible refine Below.drew ?_) | (with_reducible refine below_drewN ?_ _))))) hsz).mono ?_
  rintro e W1 ⟨x1, x2, x3, S, rfl, ow, f1, q⟩
  obtain ⟨⟨B1, k1, rfl⟩, ⟨B2, k2, rfl⟩, ⟨B3, k3, rfl⟩⟩ := ow.rd.forms
  have Lc : Loc W1 (w.heap.size) [.int .i64 n, .slice A1 cs.length n1, .slice A2 pl.length n2, .slice A3 ds.length n3, .int .i64 m] := by have := ((Loc.new w #[.int .i64 n, .slice A1 cs.length n1, .slice A2 pl.length n2, .slice A3 ds.length n3, .int .i64 m] 45).alloc _).below q; simpa using this
  have Lr : Loc W1 (w.heap.size + 1) [.int .i64 0, .slice none 0 0, .slice none 0 0, .slice none 0 0, .int .i64 0] := by have := (Loc.new (w.alloc (.cells #[.int .i64 n, .slice A1 cs.length n1, .slice A2 pl.length n2, .slice A3 ds.length n3, .int .i64 m] 45)) #[.int .i64 0, .slice none 0 0, .slice none 0 0, .slice none 0 0, .int .i64 0] 45).below q; simpa using this
  have hb : Below w.heap.size w W1 := Below.trans (by (repeat' (first | (with_reducible exact Below.refl _ _) | (with_reducible assumption) | (with_reducible refine Below.setCell ?_ (by first | omega | (simp; omega) | (simp; done)) _) | (with_reducible refine Below.alloc ?_ (by first | omega | (simp; omega) | (simp; done)) _) | (with_reducible refine Below.drew ?_) | (with_reducible refine below_drewN ?_ _)))) (q.mono (by simp <;> omega))
  have hz0 : w.heap.size + 1 + 1 ≤ W1.heap.size := by have := q.size; simp at this; omega
  have hlow : w.heap.size + 1 + 1 ≤ (((w.alloc (.cells #[.int .i64 n, .slice A1 cs.length n1, .slice A2 pl.length n2, .slice A3 ds.length n3, .int .i64 m] 45)).alloc (.cells #[.int .i64 0, .slice none 0 0, .slice none 0 0, .slice none 0 0, .int .i64 0] 45))).heap.size := by first | exact Nat.le_refl _ | (simp; done) | (simp; omega) | omega
  have FK := Lib.hid (fresh_mono f1 hlow (Nat.le_refl _))
  have DK : Hid (∀ x ∈ S, x ∉ [w.heap.size, w.heap.size + 1]) := (fun x hx => by have := (FK.out.2 x hx).1; simp; omega)
  have OK := Lib.hid ow
  clear ow f1 hlow
  clear q
  go_upto_region 2 with (fail)
  replace Lc : Loc (W1.alloc (.cells #[.int .i64 n, .slice B1 cs.length k1, .slice B2 pl.length k2, .slice B3 ds.length k3, .int .i64 m] 45)) (w.heap.size) [.int .i64 n, .slice A1 cs.length n1, .slice A2 pl.length n2, .slice A3 ds.length n3, .int .i64 m] := Lc.alloc _
  replace Lr : Loc (W1.alloc (.cells #[.int .i64 n, .slice B1 cs.length k1, .slice B2 pl.length k2, .slice B3 ds.length k3, .int .i64 m] 45)) (w.heap.size + 1) [.int .i64 0, .slice none 0 0, .slice none 0 0, .slice none 0 0, .int .i64 0] := Lr.alloc _
  obtain ⟨go, hgo⟩ : ∃ g, W1.heap.size = g := ⟨_, rfl⟩
  have Lo : Loc (W1.alloc (.cells #[.int .i64 n, .slice B1 cs.length k1, .slice B2 pl.length k2, .slice B3 ds.length k3, .int .i64 m] 45)) W1.heap.size [.int .i64 n, .slice B1 cs.length k1, .slice B2 pl.length k2, .slice B3 ds.length k3, .int .i64 m] := Loc.new W1 #[.int .i64 n, .slice B1 cs.length k1, .slice B2 pl.length k2, .slice B3 ds.length k3, .int .i64 m] 45
  rw [hgo] at Lo
  have OK' := Lib.hid (OK.out.below (w' := (W1.alloc (.cells #[.int .i64 n, .slice B1 cs.length k1, .slice B2 pl.length k2, .slice B3 ds.length k3, .int .i64 m] 45))) ((Below.refl _ _).alloc (Nat.le_refl _) _))
  clear OK; have OK := OK'; clear OK'
  have DK' : Hid (∀ x ∈ S, x ∉ [w.heap.size, w.heap.size + 1, go]) := (fun x hx => by have := DK.out x hx; have := (FK.out.2 x hx).2; simp at *; omega)
  clear DK; have DK := DK'; clear DK'
  have FK' := Lib.hid (fresh_mono (w' := (W1.alloc (.cells #[.int .i64 n, .slice B1 cs.length k1, .slice B2 pl.length k2, .slice B3 ds.length k3, .int .i64 m] 45))) FK.out (Nat.le_refl _) (by simp))
  clear FK; have FK := FK'; clear FK'
  replace hb : Below w.heap.size w (W1.alloc (.cells #[.int .i64 n, .slice B1 cs.length k1, .slice B2 pl.length k2, .slice B3 ds.length k3, .int .i64 m] 45)) := hb.alloc hb.size _
  have hlto : go < (W1.alloc (.cells #[.int .i64 n, .slice B1 cs.length k1, .slice B2 pl.length k2, .slice B3 ds.length k3, .int .i64 m] 45)).heap.size := by simp; omega
  have hne_c_o : w.heap.size < go := by omega
  have hne_r_o : w.heap.size + 1 < go := by omega
  generalize W1.alloc (.cells #[.int .i64 n, .slice B1 cs.length k1, .slice B2 pl.length k2, .slice B3 ds.length k3, .int .i64 m] 45) = W2 at *
  rw [hgo]
  clear hgo
  obtain ⟨SK1, SK3, eK, oK, pK⟩ := OK.out
  have FKx := FK.out
  have DKx := DK.out
  rw [eK] at FKx DKx
  have OK1 := Lib.hid oK
  have OK3 := Lib.hid pK
  have FK1 := Lib.hid (fresh_left FKx)
  have FK3 := Lib.hid (fresh_right FKx)
  have DK1 : Hid (∀ x ∈ SK1, x ∉ [w.heap.size, w.heap.size + 1, go]) := (fun x hx => DKx x (List.mem_append_left _ hx))
  have DK3 : Hid (∀ x ∈ SK3, x ∉ [w.heap.size, w.heap.size + 1, go]) := (fun x hx => DKx x (List.mem_append_right _ hx))
  have JK : Hid (∀ x ∈ SK1, x ∉ SK3) := (nodup2 FKx.1).2.2.1
  clear OK FK DK FKx DKx oK pK
  obtain ⟨SK11, SK12, eK1, oK1, pK1⟩ := OK1.out
  have FK1x := FK1.out
  have DK1x := DK1.out
  rw [eK1] at FK1x DK1x
  have OK11 := Lib.hid oK1
  have OK12 := Lib.hid pK1
  have FK11 := Lib.hid (fresh_left FK1x)
  have FK12 := Lib.hid (fresh_right FK1x)
  have DK11 : Hid (∀ x ∈ SK11, x ∉ [w.heap.size, w.heap.size + 1, go]) := (fun x hx => DK1x x (List.mem_append_left _ hx))
  have DK12 : Hid (∀ x ∈ SK12, x ∉ [w.heap.size, w.heap.size + 1, go]) := (fun x hx => DK1x x (List.mem_append_right _ hx))
  have JK1 : Hid (∀ x ∈ SK11, x ∉ SK12) := (nodup2 FK1x.1).2.2.1
  clear OK1 FK1 DK1 FK1x DK1x oK1 pK1
  have hJ3 : ∀ x ∈ SK12, x ∉ SK3 := fun x hx hx' => JK.out x (by rw [eK1]; exact List.mem_append_right _ hx) hx'
  have hJ13 : ∀ x ∈ SK11, x ∉ SK3 := fun x hx hx' => JK.out x (by rw [eK1]; exact List.mem_append_left _ hx) hx'
  have HJ3 := Lib.hid hJ3
  have HJ13 := Lib.hid hJ13
  clear hJ3 hJ13
  obtain ⟨vs, hvl, hown, hrows, eS⟩ := OK12.out
  have FP := FK12.out
  rw [eS] at FP
  have hown1 : W2.ownsRow (w.heap.size + 1 + 1) 89 2 (.slice B2 pl.length k2) pl.length (vs.flatMap cPl) := by have := own_up hown (fun b hb => FP.2 b (List.mem_append_left _ hb)); rwa [hvl] at this
  have Hown := Lib.hid hown1
  have Hrows := Lib.hid hrows
  have Hvl := Lib.hid hvl
  have HES := Lib.hid eS
  have HFP := Lib.hid FP
  clear hown hown1 hrows hvl eS FP
  have o0 := (Lo 0 _ rfl).1
  have o1 := (Lo 1 _ rfl).1
  have o2 := (Lo 2 _ rfl).1
  have o3 := (Lo 3 _ rfl).1
  have o4 := (Lo 4 _ rfl).1
  have of2 := (Lo 2 _ rfl).2
  have hng : go ∉ (Value.slice B2 pl.length k2).ownBlock.toList := fun hm => DK12.out go (by rw [HES.out]; exact List.mem_append_left _ hm) (by simp)
  have Hng := Lib.hid hng
  clear hng
  go_upto_region 3 with (at_builtin; refine wpList_appendB _ rfl (.tmp 11) (.tmp 15) _ rfl (w.heap.size + 1 + 1) 89 i0 _ 2 32 Try.underlying28 hi0 hp0 hp1 hp2 rfl (by omega) _ pl.length (vs.flatMap cPl) rfl ((Hown.out.alloc _).alloc _) _ 1 [.slice (some ⟨W2.heap.size, 0, none⟩) 0 0, .int .i64 free] rfl (rdS_newAt (W2.alloc _) (W2.heap.size + 1) (by simp) #[.slice (some ⟨W2.heap.size, 0, none⟩) 0 0, .int .i64 free] _ 2 1 rfl (by simp [maxLen])) (by simp [Value.oneCell']) (by simp [maxLen]; omega) (by omega) (by simp; omega) ?_; intro v3 w3 own3 gr3 at3; obtain ⟨D3, e3, rfl, _, _⟩ := (RdS.of_own own3).form; have hch := Chg.of_grown gr3; have ho2 := carryChg hch (cell_alloc _ (cell_alloc _ o2)) Hng.out; have hof2 := carryChgF hch (cell_alloc _ (cell_alloc _ o2)) (frozen_alloc _ (cell_alloc _ o2) (frozen_alloc _ o2 of2)) Hng.out; clear o0 o1 o2 o3 o4 of2)
  have bA : Below W2.heap.size W2 ((W2.alloc (.cells #[] 3)).alloc (.cells #[.slice (some ⟨W2.heap.size, 0, none⟩) 0 0, .int .i64 free] 89)) := by (repeat' (first | (with_reducible exact Below.refl _ _) | (with_reducible assumption) | (with_reducible refine Below.setCell ?_ (by first | omega | (simp; omega) | (simp; done)) _) | (with_reducible refine Below.alloc ?_ (by first | omega | (simp; omega) | (simp; done)) _) | (with_reducible refine Below.drew ?_) | (with_reducible refine below_drewN ?_ _)))
  clear ho2 hof2
  replace Lc := (Lc.below bA).chg hch (fun hm => DK12.out _ (by rw [HES.out]; exact List.mem_append_left _ hm) (by simp))
  replace Lr := (Lr.below bA).chg hch (fun hm => DK12.out _ (by rw [HES.out]; exact List.mem_append_left _ hm) (by simp))
  replace Lo := (Lo.below bA).chg hch (fun hm => DK12.out _ (by rw [HES.out]; exact List.mem_append_left _ hm) (by simp))
  have hsA := bA.size
  have hs3 := gr3.size
  have OK11' := Lib.hid ((OK11.out.below bA).chg hch (fun x hx hx' => JK1.out x hx (by rw [HES.out]; exact List.mem_append_left _ hx')))
  have FK11' := Lib.hid (fresh_mono (w' := w3) FK11.out (Nat.le_refl _) (by omega))
  have UK11 : Hid (∀ x ∈ SK11, x < W2.heap.size) := fun x hx => (FK11.out.2 x hx).2
  clear OK11 FK11; have OK11 := OK11'; have FK11 := FK11'; clear OK11' FK11'
  have OK3' := Lib.hid ((OK3.out.below bA).chg hch (fun x hx hx' => HJ3.out x (by rw [HES.out]; exact List.mem_append_left _ hx') hx))
  have FK3' := Lib.hid (fresh_mono (w' := w3) FK3.out (Nat.le_refl _) (by omega))
  have UK3 : Hid (∀ x ∈ SK3, x < W2.heap.size) := fun x hx => (FK3.out.2 x hx).2
  clear OK3 FK3; have OK3 := OK3'; have FK3 := FK3'; clear OK3' FK3'
  replace hb : Below w.heap.size w w3 := Below.chg (hb.trans (bA.mono hb.size)) hch (by have := hb.size; omega) (fun b hm => by have := (HFP.out.2 b (List.mem_append_left _ hm)).1; omega)
  have hkE : OwL 3 cInt 1 ((W2.alloc (.cells #[] 3)).alloc (.cells #[.slice (some ⟨W2.heap.size, 0, none⟩) 0 0, .int .i64 free] 89)) [W2.heap.size] (.slice (some ⟨W2.heap.size, 0, none⟩) 0 0) ([] : List Int) := ⟨((World.ownsRow_made (size := 1) (e := 3) W2 #[] 0 (Nat.zero_le _) (by simp [maxLen]) rfl).alloc _), rfl⟩
  have hfE : Fresh (w.heap.size + 1 + 1) ((W2.alloc (.cells #[] 3)).alloc (.cells #[.slice (some ⟨W2.heap.size, 0, none⟩) 0 0, .int .i64 free] 89)) [W2.heap.size] := ⟨by simp, fun b hb' => by simp at hb'; subst hb'; simp; omega⟩
  have hdE : ∀ b ∈ (Value.slice B2 pl.length k2).ownBlock.toList ++ plBlocks vs, b ∉ [W2.heap.size] := fun b hb' hb2 => by have := (HFP.out.2 b hb').2; simp at hb2; omega
  have hsn := pls_snoc (B := w.heap.size + 1 + 1) (w := ((W2.alloc (.cells #[] 3)).alloc (.cells #[.slice (some ⟨W2.heap.size, 0, none⟩) 0 0, .int .i64 free] 89))) (w' := w3) (q := .slice B2 pl.length k2) (ll := pl) Hvl.out (fun i p r hp hr => ⟨(Hrows.out i p r hp hr).1, own_below (Hrows.out i p r hp hr).2 bA⟩) (fresh_mono HFP.out (Nat.le_refl _) bA.size) hkE hfE hdE (by rw [Hvl.out]; exact own3) gr3 at3
  obtain ⟨SN, hSN⟩ : ∃ T, (Value.slice D3 (pl.length + 1) e3).ownBlock.toList ++ plBlocks (vs ++ [(.slice (some ⟨W2.heap.size, 0, none⟩) 0 0, free)]) = T := ⟨_, rfl⟩
  have hnew : ∀ x ∈ SN, x ∈ SK12 ∨ W2.heap.size ≤ x := by
    intro x hx
    rw [← hSN, plBlocks_snoc] at hx
    rcases List.mem_append.1 hx with hx | hx
    · rcases at3 with e | e
      · rw [e] at hx; exact .inl (by rw [HES.out]; exact List.mem_append_left _ hx)
      · rw [e] at hx; simp at hx; right; omega
    · rcases List.mem_append.1 hx with hx | hx
      · exact .inl (by rw [HES.out]; exact List.mem_append_right _ hx)
      · right; simp [Value.ownBlock] at hx; omega
  rw [hSN] at hsn
  have ON := Lib.hid hsn.1
  have FN := Lib.hid hsn.2
  have HN := Lib.hid hnew
  have DN : Hid (∀ x ∈ SN, x ∉ [w.heap.size, w.heap.size + 1, go]) := (fun x hx => by
    rcases HN.out x hx with h1 | h1
    · exact DK12.out x h1
    · simp; omega)
  have J1N : Hid (∀ x ∈ SK11, x ∉ SN) := (fun x hx hx' => by
    rcases HN.out x hx' with h1 | h1
    · exact JK1.out x hx h1
    · have := UK11.out x hx; omega)
  have JN3 : Hid (∀ x ∈ SN, x ∉ SK3) := (fun x hx hx' => by
    rcases HN.out x hx with h1 | h1
    · exact HJ3.out x h1 hx'
    · have := UK3.out x hx'; omega)
  clear hsn hnew hSN hkE hfE hdE own3 gr3 at3 hch OK12 FK12 DK12 Hown Hrows Hvl HES HFP Hng bA UK11 UK3 HN
  replace Lc : Loc (w3.setCell ⟨go, 2, none⟩ (.slice D3 (pl.length + 1) e3)) (w.heap.size) [.int .i64 n, .slice A1 cs.length n1, .slice A2 pl.length n2, .slice A3 ds.length n3, .int .i64 m] := Lc.far (g := go) (i := 2) (u := .slice D3 (pl.length + 1) e3) (by omega)
  replace Lr : Loc (w3.setCell ⟨go, 2, none⟩ (.slice D3 (pl.length + 1) e3)) (w.heap.size + 1) [.int .i64 0, .slice none 0 0, .slice none 0 0, .slice none 0 0, .int .i64 0] := Lr.far (g := go) (i := 2) (u := .slice D3 (pl.length + 1) e3) (by omega)
  replace Lo : Loc (w3.setCell ⟨go, 2, none⟩ (.slice D3 (pl.length + 1) e3)) (go) [.int .i64 n, .slice B1 cs.length k1, .slice D3 (pl.length + 1) e3, .slice B3 ds.length k3, .int .i64 m] := Lo.set (i := 2) (v := .slice B2 pl.length k2) rfl
  have hch : Chg [go] w3 (w3.setCell ⟨go, 2, none⟩ (.slice D3 (pl.length + 1) e3)) := chg_set (Chg.refl _ _) (by simp)
  have OK3' := Lib.hid (OK3.out.chg hch (fun x hx hx' => DK3.out x hx (by simp at hx'; subst hx'; simp)))
  clear OK3; have OK3 := OK3'; clear OK3'
  have FK3' := Lib.hid (fresh_mono (w' := (w3.setCell ⟨go, 2, none⟩ (.slice D3 (pl.length + 1) e3))) FK3.out (Nat.le_refl _) hch.size)
  clear FK3; have FK3 := FK3'; clear FK3'
  have OK11' := Lib.hid (OK11.out.chg hch (fun x hx hx' => DK11.out x hx (by simp at hx'; subst hx'; simp)))
  clear OK11; have OK11 := OK11'; clear OK11'
  have FK11' := Lib.hid (fresh_mono (w' := (w3.setCell ⟨go, 2, none⟩ (.slice D3 (pl.length + 1) e3))) FK11.out (Nat.le_refl _) hch.size)
  clear FK11; have FK11 := FK11'; clear FK11'
  have ON' := Lib.hid (ON.out.chg hch (fun x hx hx' => DN.out x hx (by simp at hx'; subst hx'; simp)))
  clear ON; have ON := ON'; clear ON'
  have FN' := Lib.hid (fresh_mono (w' := (w3.setCell ⟨go, 2, none⟩ (.slice D3 (pl.length + 1) e3))) FN.out (Nat.le_refl _) hch.size)
  clear FN; have FN := FN'; clear FN'
  replace hb : Below w.heap.size w (w3.setCell ⟨go, 2, none⟩ (.slice D3 (pl.length + 1) e3)) := Below.chg hb hch hb.size (by simp; omega)
  have hzc := hch.size
  clear hch
  generalize w3.setCell ⟨go, 2, none⟩ (.slice D3 (pl.length + 1) e3) = W3 at *
  have o4 := (Lo 4 _ rfl).1
  have c4 := (Lc 4 _ rfl).1
  have of4 := (Lo 4 _ rfl).2
  go_upto_region 4 with (fail)
  clear o4 c4 of4
  replace Lc : Loc (W3.setCell ⟨go, 4, none⟩ (.int .i64 (wrap64 (m - 10)))) (w.heap.size) [.int .i64 n, .slice A1 cs.length n1, .slice A2 pl.length n2, .slice A3 ds.length n3, .int .i64 m] := Lc.far (g := go) (i := 4) (u := .int .i64 (wrap64 (m - 10))) (by omega)
  replace Lr : Loc (W3.setCell ⟨go, 4, none⟩ (.int .i64 (wrap64 (m - 10)))) (w.heap.size + 1) [.int .i64 0, .slice none 0 0, .slice none 0 0, .slice none 0 0, .int .i64 0] := Lr.far (g := go) (i := 4) (u := .int .i64 (wrap64 (m - 10))) (by omega)
  replace Lo : Loc (W3.setCell ⟨go, 4, none⟩ (.int .i64 (wrap64 (m - 10)))) (go) [.int .i64 n, .slice B1 cs.length k1, .slice D3 (pl.length + 1) e3, .slice B3 ds.length k3, .int .i64 (wrap64 (m - 10))] := Lo.set (i := 4) (v := .int .i64 m) rfl
  have hch : Chg [go] W3 (W3.setCell ⟨go, 4, none⟩ (.int .i64 (wrap64 (m - 10)))) := chg_set (Chg.refl _ _) (by simp)
  have OK3' := Lib.hid (OK3.out.chg hch (fun x hx hx' => DK3.out x hx (by simp at hx'; subst hx'; simp)))
  clear OK3; have OK3 := OK3'; clear OK3'
  have FK3' := Lib.hid (fresh_mono (w' := (W3.setCell ⟨go, 4, none⟩ (.int .i64 (wrap64 (m - 10))))) FK3.out (Nat.le_refl _) hch.size)
  clear FK3; have FK3 := FK3'; clear FK3'
  have OK11' := Lib.hid (OK11.out.chg hch (fun x hx hx' => DK11.out x hx (by simp at hx'; subst hx'; simp)))
  clear OK11; have OK11 := OK11'; clear OK11'
  have FK11' := Lib.hid (fresh_mono (w' := (W3.setCell ⟨go, 4, none⟩ (.int .i64 (wrap64 (m - 10))))) FK11.out (Nat.le_refl _) hch.size)
  clear FK11; have FK11 := FK11'; clear FK11'
  have ON' := Lib.hid (ON.out.chg hch (fun x hx hx' => DN.out x hx (by simp at hx'; subst hx'; simp)))
  clear ON; have ON := ON'; clear ON'
  have FN' := Lib.hid (fresh_mono (w' := (W3.setCell ⟨go, 4, none⟩ (.int .i64 (wrap64 (m - 10))))) FN.out (Nat.le_refl _) hch.size)
  clear FN; have FN := FN'; clear FN'
  replace hb : Below w.heap.size w (W3.setCell ⟨go, 4, none⟩ (.int .i64 (wrap64 (m - 10)))) := Below.chg hb hch hb.size (by simp; omega)
  have hzc := hch.size
  clear hch
  generalize W3.setCell ⟨go, 4, none⟩ (.int .i64 (wrap64 (m - 10))) = W4 at *
  have OC : OwCompany W4 (SK11 ++ SN) (.slice B1 cs.length k1) (.slice D3 (pl.length + 1) e3) cs (pl ++ [([], free)]) := ⟨_, _, rfl, OK11.out, ON.out⟩
  have OC' := OC
  clear OC
  have FC := Lib.hid (fresh_join FK11.out FN.out (J1N.out))
  have DC : Hid (∀ x ∈ SK11 ++ SN, x ∉ [w.heap.size, w.heap.size + 1, go]) := (fun x hx => (List.mem_append.1 hx).elim (DK11.out x) (DN.out x))
  have OC := Lib.hid (OC')
  clear OK11 FK11 DK11 ON FN DN
  obtain ⟨SC, hSC⟩ : ∃ T, SK11 ++ SN = T := ⟨_, rfl⟩
  rw [hSC] at OC FC DC
  clear OC'
  have JC3 : ∀ x ∈ SC, x ∉ SK3 := fun x hx => by
    rw [← hSC] at hx
    exact (List.mem_append.1 hx).elim (HJ13.out x) (JN3.out x)
  have HJC := Lib.hid JC3
  clear JC3
  have OP : OwTheatre W4 (SC ++ SK3) (.slice B1 cs.length k1) (.slice D3 (pl.length + 1) e3) (.slice B3 ds.length k3) cs (pl ++ [([], free)]) ds := ⟨_, _, rfl, OC.out, OK3.out⟩
  clear hSC
  have FQ := Lib.hid (fresh_join FC.out FK3.out (HJC.out))
  have DQ : Hid (∀ x ∈ SC ++ SK3, x ∉ [w.heap.size, w.heap.size + 1, go]) := (fun x hx => (List.mem_append.1 hx).elim (DC.out x) (DK3.out x))
  have OQ := Lib.hid (OP)
  clear OC FC DC OK3 FK3 DK3
  obtain ⟨SQ, hSQ⟩ : ∃ T, SC ++ SK3 = T := ⟨_, rfl⟩
  rw [hSQ] at OQ FQ DQ
  clear hSQ
  clear OP
  have c0 := (Lc 0 _ rfl).1
  have c1 := (Lc 1 _ rfl).1
  have c2 := (Lc 2 _ rfl).1
  have c3 := (Lc 3 _ rfl).1
  have c4 := (Lc 4 _ rfl).1
  have o0 := (Lo 0 _ rfl).1
  have o1 := (Lo 1 _ rfl).1
  have o2 := (Lo 2 _ rfl).1
  have o3 := (Lo 3 _ rfl).1
  have o4 := (Lo 4 _ rfl).1
  go_wp2_with fail
  refine (becomes_eq (B := w.heap.size + 1 + 1) (S := SQ) Hres.out (h.below hb) hsz OQ.out FQ.out (by have := hb.size; omega)).mono ?_
  rintro e W5 ⟨z1, z2, z3, T, rfl, owr, fr, q⟩
  clear c0 c1 c2 c3 c4 o0 o1 o2 o3 o4
  obtain ⟨⟨Z1, e1, rfl⟩, ⟨Z2, e2, rfl⟩, ⟨Z3, e3, rfl⟩⟩ := owr.rd.forms
  have hzq : W4.heap.size ≤ W5.heap.size := by have := q.size; (try simp at this); omega
  replace Lc := Lc.below q
  replace Lr := Lr.below q
  replace Lo := Lo.below q
  have OQ' := Lib.hid (OQ.out.below q)
  clear OQ; have OQ := OQ'; clear OQ'
  have FQ' := Lib.hid (fresh_mono (w' := W5) FQ.out (Nat.le_refl _) hzq)
  clear FQ; have FQ := FQ'; clear FQ'
  replace hb : Below w.heap.size w W5 := hb.trans (q.mono hb.size)
  clear q
  have FR := Lib.hid fr
  have OR := Lib.hid owr
  clear fr owr Hres
  have r0 := (Lr 0 _ rfl).1
  have rf0 := (Lr 0 _ rfl).2
  have r1 := (Lr 1 _ rfl).1
  have rf1 := (Lr 1 _ rfl).2
  have r2 := (Lr 2 _ rfl).1
  have rf2 := (Lr 2 _ rfl).2
  have r3 := (Lr 3 _ rfl).1
  have rf3 := (Lr 3 _ rfl).2
  have r4 := (Lr 4 _ rfl).1
  have rf4 := (Lr 4 _ rfl).2
  go_wp2_with fail
  refine bodyPost_ret (v := .tuple #[.agg #[.int .i64 rn, .slice Z1 rcs.length e1, .slice Z2 rpl.length e2, .slice Z3 rds.length e3, .int .i64 rm], .bool rb]) (by simp [results, Try.results29, go_sem, *]) rfl ⟨_, _, _, T, rfl, ?_, ?_, ?_⟩
  · exact OR.out.chg (T := [w.heap.size + 1]) (by repeat' (first | (with_reducible exact Chg.refl _ _) | (with_reducible refine chg_set ?_ (by simp)))) (fun x hx hx' => by have := (FR.out.2 x hx).1; simp at hx'; omega)
  · exact fresh_mono FR.out (by omega) (by simp)
  · exact Below.chg hb (S := [w.heap.size + 1]) (by repeat' (first | (with_reducible exact Chg.refl _ _) | (with_reducible refine chg_set ?_ (by simp)))) hb.size (fun x hx => by simp at hx; omega)
set_option maxHeartbeats 8000000 in
set_option maxRecDepth 100000 in
theorem specHirePlayer_any (n m free : Int) (v1 v2 v3 : Value) (cs : List RCross) (pl : List RPl) (ds : List Int) (w : World) (h : RdTheatre w v1 v2 v3 cs pl ds) (hsz : szTheatre cs pl ds ≤ 1048576) :
    Calls Try.prog 27 #[.agg #[.int .i64 n, v1, v2, v3, .int .i64 m], .int .i64 free] w (RetTh w.heap.size (hireF ⟨n, m, cs, pl, ds⟩ free) w) := by
  obtain ⟨⟨A1, n1, rfl⟩, ⟨A2, n2, rfl⟩, ⟨A3, n3, rfl⟩⟩ := h.forms
  have hpl : pl.length ≤ 1048576 := by unfold szTheatre szCompany plsTot at hsz; omega
  obtain ⟨i0, hi0, hp0, hp1, hp2⟩ := info_parts infoPlayer
  unfold hireF
  go_enter Try.func27, Try.ntmps27
  go_wp2_with fail
  refine (l38Copy_any n m _ _ _ cs pl ds _ (h.below (by (repeat' (first | (with_reducible exact Below.refl _ _) | (with_reducible assumption) | (with_reducible refine Below.setCell ?_ (by first | omega | (simp; omega) | (simp; done)) _) | (with_reducible refine Below.alloc ?_ (by first | omega | (simp; omega) | (simp; done)) _) | (with_reducible refine Below.drew ?_) | (with_reducible refine below_drewN ?_ _))))) hsz).mono ?_
  rintro e W1 ⟨x1, x2, x3, S, rfl, ow, f1, q⟩
  obtain ⟨⟨B1, k1, rfl⟩, ⟨B2, k2, rfl⟩, ⟨B3, k3, rfl⟩⟩ := ow.rd.forms
  have Lc : Loc W1 (w.heap.size) [.int .i64 n, .slice A1 cs.length n1, .slice A2 pl.length n2, .slice A3 ds.length n3, .int .i64 m] := by have := ((Loc.new w #[.int .i64 n, .slice A1 cs.length n1, .slice A2 pl.length n2, .slice A3 ds.length n3, .int .i64 m] 45).alloc _).below q; simpa using this
  have Lr : Loc W1 (w.heap.size + 1) [.int .i64 0, .slice none 0 0, .slice none 0 0, .slice none 0 0, .int .i64 0] := by have := (Loc.new (w.alloc (.cells #[.int .i64 n, .slice A1 cs.length n1, .slice A2 pl.length n2, .slice A3 ds.length n3, .int .i64 m] 45)) #[.int .i64 0, .slice none 0 0, .slice none 0 0, .slice none 0 0, .int .i64 0] 45).below q; simpa using this
  have hb : Below w.heap.size w W1 := Below.trans (by (repeat' (first | (with_reducible exact Below.refl _ _) | (with_reducible assumption) | (with_reducible refine Below.setCell ?_ (by first | omega | (simp; omega) | (simp; done)) _) | (with_reducible refine Below.alloc ?_ (by first | omega | (simp; omega) | (simp; done)) _) | (with_reducible refine Below.drew ?_) | (with_reducible refine below_drewN ?_ _)))) (q.mono (by simp <;> omega))
  have hz0 : w.heap.size + 1 + 1 ≤ W1.heap.size := by have := q.size; simp at this; omega
  have hlow : w.heap.size + 1 + 1 ≤ (((w.alloc (.cells #[.int .i64 n, .slice A1 cs.length n1, .slice A2 pl.length n2, .slice A3 ds.length n3, .int .i64 m] 45)).alloc (.cells #[.int .i64 0, .slice none 0 0, .slice none 0 0, .slice none 0 0, .int .i64 0] 45))).heap.size := by first | exact Nat.le_refl _ | (simp; done) | (simp; omega) | omega
  have FK := Lib.hid (fresh_mono f1 hlow (Nat.le_refl _))
  have DK : Hid (∀ x ∈ S, x ∉ [w.heap.size, w.heap.size + 1]) := (fun x hx => by have := (FK.out.2 x hx).1; simp; omega)
  have OK := Lib.hid ow
  clear ow f1 hlow
  clear q
  go_upto_region 2 with (fail)
  replace Lc : Loc (W1.alloc (.cells #[.int .i64 n, .slice B1 cs.length k1, .slice B2 pl.length k2, .slice B3 ds.length k3, .int .i64 m] 45)) (w.heap.size) [.int .i64 n, .slice A1 cs.length n1, .slice A2 pl.length n2, .slice A3 ds.length n3, .int .i64 m] := Lc.alloc _
  replace Lr : Loc (W1.alloc (.cells #[.int .i64 n, .slice B1 cs.length k1, .slice B2 pl.length k2, .slice B3 ds.length k3, .int .i64 m] 45)) (w.heap.size + 1) [.int .i64 0, .slice none 0 0, .slice none 0 0, .slice none 0 0, .int .i64 0] := Lr.alloc _
  obtain ⟨go, hgo⟩ : ∃ g, W1.heap.size = g := ⟨_, rfl⟩
  have Lo : Loc (W1.alloc (.cells #[.int .i64 n, .slice B1 cs.length k1, .slice B2 pl.length k2, .slice B3 ds.length k3, .int .i64 m] 45)) W1.heap.size [.int .i64 n, .slice B1 cs.length k1, .slice B2 pl.length k2, .slice B3 ds.length k3, .int .i64 m] := Loc.new W1 #[.int .i64 n, .slice B1 cs.length k1, .slice B2 pl.length k2, .slice B3 ds.length k3, .int .i64 m] 45
  rw [hgo] at Lo
  have OK' := Lib.hid (OK.out.below (w' := (W1.alloc (.cells #[.int .i64 n, .slice B1 cs.length k1, .slice B2 pl.length k2, .slice B3 ds.length k3, .int .i64 m] 45))) ((Below.refl _ _).alloc (Nat.le_refl _) _))
  clear OK; have OK := OK'; clear OK'
  have DK' : Hid (∀ x ∈ S, x ∉ [w.heap.size, w.heap.size + 1, go]) := (fun x hx => by have := DK.out x hx; have := (FK.out.2 x hx).2; simp at *; omega)
  clear DK; have DK := DK'; clear DK'
  have FK' := Lib.hid (fresh_mono (w' := (W1.alloc (.cells #[.int .i64 n, .slice B1 cs.length k1, .slice B2 pl.length k2, .slice B3 ds.length k3, .int .i64 m] 45))) FK.out (Nat.le_refl _) (by simp))
  clear FK; have FK := FK'; clear FK'
  replace hb : Below w.heap.size w (W1.alloc (.cells #[.int .i64 n, .slice B1 cs.length k1, .slice B2 pl.length k2, .slice B3 ds.length k3, .int .i64 m] 45)) := hb.alloc hb.size _
  have hlto : go < (W1.alloc (.cells #[.int .i64 n, .slice B1 cs.length k1, .slice B2 pl.length k2, .slice B3 ds.length k3, .int .i64 m] 45)).heap.size := by simp; omega
  have hne_c_o : w.heap.size < go := by omega
  have hne_r_o : w.heap.size + 1 < go := by omega
  generalize W1.alloc (.cells #[.int .i64 n, .slice B1 cs.length k1, .slice B2 pl.length k2, .slice B3 ds.length k3, .int .i64 m] 45) = W2 at *
  rw [hgo]
  clear hgo
  obtain ⟨SK1, SK3, eK, oK, pK⟩ := OK.out
  have FKx := FK.out
  have DKx := DK.out
  rw [eK] at FKx DKx
  have OK1 := Lib.hid oK
  have OK3 := Lib.hid pK
  have FK1 := Lib.hid (fresh_left FKx)
  have FK3 := Lib.hid (fresh_right FKx)
  have DK1 : Hid (∀ x ∈ SK1, x ∉ [w.heap.size, w.heap.size + 1, go]) := (fun x hx => DKx x (List.mem_append_left _ hx))
  have DK3 : Hid (∀ x ∈ SK3, x ∉ [w.heap.size, w.heap.size + 1, go]) := (fun x hx => DKx x (List.mem_append_right _ hx))
  have JK : Hid (∀ x ∈ SK1, x ∉ SK3) := (nodup2 FKx.1).2.2.1
  clear OK FK DK FKx DKx oK pK
  obtain ⟨SK11, SK12, eK1, oK1, pK1⟩ := OK1.out
  have FK1x := FK1.out
  have DK1x := DK1.out
  rw [eK1] at FK1x DK1x
  have OK11 := Lib.hid oK1
  have OK12 := Lib.hid pK1
  have FK11 := Lib.hid (fresh_left FK1x)
  have FK12 := Lib.hid (fresh_right FK1x)
  have DK11 : Hid (∀ x ∈ SK11, x ∉ [w.heap.size, w.heap.size + 1, go]) := (fun x hx => DK1x x (List.mem_append_left _ hx))
  have DK12 : Hid (∀ x ∈ SK12, x ∉ [w.heap.size, w.heap.size + 1, go]) := (fun x hx => DK1x x (List.mem_append_right _ hx))
  have JK1 : Hid (∀ x ∈ SK11, x ∉ SK12) := (nodup2 FK1x.1).2.2.1
  clear OK1 FK1 DK1 FK1x DK1x oK1 pK1
  have hJ3 : ∀ x ∈ SK12, x ∉ SK3 := fun x hx hx' => JK.out x (by rw [eK1]; exact List.mem_append_right _ hx) hx'
  have hJ13 : ∀ x ∈ SK11, x ∉ SK3 := fun x hx hx' => JK.out x (by rw [eK1]; exact List.mem_append_left _ hx) hx'
  have HJ3 := Lib.hid hJ3
  have HJ13 := Lib.hid hJ13
  clear hJ3 hJ13
  obtain ⟨vs, hvl, hown, hrows, eS⟩ := OK12.out
  have FP := FK12.out
  rw [eS] at FP
  have hown1 : W2.ownsRow (w.heap.size + 1 + 1) 89 2 (.slice B2 pl.length k2) pl.length (vs.flatMap cPl) := by have := own_up hown (fun b hb => FP.2 b (List.mem_append_left _ hb)); rwa [hvl] at this
  have Hown := Lib.hid hown1
  have Hrows := Lib.hid hrows
  have Hvl := Lib.hid hvl
  have HES := Lib.hid eS
  have HFP := Lib.hid FP
  clear hown hown1 hrows hvl eS FP
  have o0 := (Lo 0 _ rfl).1
  have o1 := (Lo 1 _ rfl).1
  have o2 := (Lo 2 _ rfl).1
  have o3 := (Lo 3 _ rfl).1
  have o4 := (Lo 4 _ rfl).1
  have of2 := (Lo 2 _ rfl).2
  have hng : go ∉ (Value.slice B2 pl.length k2).ownBlock.toList := fun hm => DK12.out go (by rw [HES.out]; exact List.mem_append_left _ hm) (by simp)
  have Hng := Lib.hid hng
  clear hng
  go_upto_region 3 with (at_builtin; refine wpList_appendB _ rfl (.tmp 11) (.tmp 14) _ rfl (w.heap.size + 1 + 1) 89 i0 _ 2 32 Try.underlying28 hi0 hp0 hp1 hp2 rfl (by omega) _ pl.length (vs.flatMap cPl) rfl (Hown.out.alloc _) _ 1 [.slice none 0 0, .int .i64 free] rfl (rdS_newAt W2 W2.heap.size rfl #[.slice none 0 0, .int .i64 free] _ 2 1 rfl (by simp [maxLen])) (by simp [Value.oneCell']) (by simp [maxLen]; omega) (by omega) (by simp; omega) ?_; intro v3 w3 own3 gr3 at3; obtain ⟨D3, e3, rfl, _, _⟩ := (RdS.of_own own3).form; have hch := Chg.of_grown gr3; have ho2 := carryChg hch (cell_alloc _ o2) Hng.out; have hof2 := carryChgF hch (cell_alloc _ o2) (frozen_alloc _ o2 of2) Hng.out; clear o0 o1 o2 o3 o4 of2)
  have bA : Below W2.heap.size W2 (W2.alloc (.cells #[.slice none 0 0, .int .i64 free] 89)) := by (repeat' (first | (with_reducible exact Below.refl _ _) | (with_reducible assumption) | (with_reducible refine Below.setCell ?_ (by first | omega | (simp; omega) | (simp; done)) _) | (with_reducible refine Below.alloc ?_ (by first | omega | (simp; omega) | (simp; done)) _) | (with_reducible refine Below.drew ?_) | (with_reducible refine below_drewN ?_ _)))
  clear ho2 hof2
  replace Lc := (Lc.below bA).chg hch (fun hm => DK12.out _ (by rw [HES.out]; exact List.mem_append_left _ hm) (by simp))
  replace Lr := (Lr.below bA).chg hch (fun hm => DK12.out _ (by rw [HES.out]; exact List.mem_append_left _ hm) (by simp))
  replace Lo := (Lo.below bA).chg hch (fun hm => DK12.out _ (by rw [HES.out]; exact List.mem_append_left _ hm) (by simp))
  have hsA := bA.size
  have hs3 := gr3.size
  have OK11' := Lib.hid ((OK11.out.below bA).chg hch (fun x hx hx' => JK1.out x hx (by rw [HES.out]; exact List.mem_append_left _ hx')))
  have FK11' := Lib.hid (fresh_mono (w' := w3) FK11.out (Nat.le_refl _) (by omega))
  have UK11 : Hid (∀ x ∈ SK11, x < W2.heap.size) := fun x hx => (FK11.out.2 x hx).2
  clear OK11 FK11; have OK11 := OK11'; have FK11 := FK11'; clear OK11' FK11'
  have OK3' := Lib.hid ((OK3.out.below bA).chg hch (fun x hx hx' => HJ3.out x (by rw [HES.out]; exact List.mem_append_left _ hx') hx))
  have FK3' := Lib.hid (fresh_mono (w' := w3) FK3.out (Nat.le_refl _) (by omega))
  have UK3 : Hid (∀ x ∈ SK3, x < W2.heap.size) := fun x hx => (FK3.out.2 x hx).2
  clear OK3 FK3; have OK3 := OK3'; have FK3 := FK3'; clear OK3' FK3'
  replace hb : Below w.heap.size w w3 := Below.chg (hb.trans (bA.mono hb.size)) hch (by have := hb.size; omega) (fun b hm => by have := (HFP.out.2 b (List.mem_append_left _ hm)).1; omega)
  have hkE : OwL 3 cInt 1 (W2.alloc (.cells #[.slice none 0 0, .int .i64 free] 89)) [] (.slice none 0 0) ([] : List Int) := ⟨World.ownsRow_nil _ _ _ _, rfl⟩
  have hfE : Fresh (w.heap.size + 1 + 1) (W2.alloc (.cells #[.slice none 0 0, .int .i64 free] 89)) ([] : List Nat) := ⟨by simp, fun b hb' => by simp at hb'⟩
  have hdE : ∀ b ∈ (Value.slice B2 pl.length k2).ownBlock.toList ++ plBlocks vs, b ∉ ([] : List Nat) := fun b _ hb2 => by simp at hb2
  have hsn := pls_snoc (B := w.heap.size + 1 + 1) (w := (W2.alloc (.cells #[.slice none 0 0, .int .i64 free] 89))) (w' := w3) (q := .slice B2 pl.length k2) (ll := pl) Hvl.out (fun i p r hp hr => ⟨(Hrows.out i p r hp hr).1, own_below (Hrows.out i p r hp hr).2 bA⟩) (fresh_mono HFP.out (Nat.le_refl _) bA.size) hkE hfE hdE (by rw [Hvl.out]; exact own3) gr3 at3
  obtain ⟨SN, hSN⟩ : ∃ T, (Value.slice D3 (pl.length + 1) e3).ownBlock.toList ++ plBlocks (vs ++ [(.slice none 0 0, free)]) = T := ⟨_, rfl⟩
  have hnew : ∀ x ∈ SN, x ∈ SK12 ∨ W2.heap.size ≤ x := by
    intro x hx
    rw [← hSN, plBlocks_snoc] at hx
    rcases List.mem_append.1 hx with hx | hx
    · rcases at3 with e | e
      · rw [e] at hx; exact .inl (by rw [HES.out]; exact List.mem_append_left _ hx)
      · rw [e] at hx; simp at hx; right; omega
    · rcases List.mem_append.1 hx with hx | hx
      · exact .inl (by rw [HES.out]; exact List.mem_append_right _ hx)
      · right; simp [Value.ownBlock] at hx
  rw [hSN] at hsn
  have ON := Lib.hid hsn.1
  have FN := Lib.hid hsn.2
  have HN := Lib.hid hnew
  have DN : Hid (∀ x ∈ SN, x ∉ [w.heap.size, w.heap.size + 1, go]) := (fun x hx => by
    rcases HN.out x hx with h1 | h1
    · exact DK12.out x h1
    · simp; omega)
  have J1N : Hid (∀ x ∈ SK11, x ∉ SN) := (fun x hx hx' => by
    rcases HN.out x hx' with h1 | h1
    · exact JK1.out x hx h1
    · have := UK11.out x hx; omega)
  have JN3 : Hid (∀ x ∈ SN, x ∉ SK3) := (fun x hx hx' => by
    rcases HN.out x hx with h1 | h1
    · exact HJ3.out x h1 hx'
    · have := UK3.out x hx'; omega)
  clear hsn hnew hSN hkE hfE hdE own3 gr3 at3 hch OK12 FK12 DK12 Hown Hrows Hvl HES HFP Hng bA UK11 UK3 HN
  replace Lc : Loc (w3.setCell ⟨go, 2, none⟩ (.slice D3 (pl.length + 1) e3)) (w.heap.size) [.int .i64 n, .slice A1 cs.length n1, .slice A2 pl.length n2, .slice A3 ds.length n3, .int .i64 m] := Lc.far (g := go) (i := 2) (u := .slice D3 (pl.length + 1) e3) (by omega)
  replace Lr : Loc (w3.setCell ⟨go, 2, none⟩ (.slice D3 (pl.length + 1) e3)) (w.heap.size + 1) [.int .i64 0, .slice none 0 0, .slice none 0 0, .slice none 0 0, .int .i64 0] := Lr.far (g := go) (i := 2) (u := .slice D3 (pl.length + 1) e3) (by omega)
  replace Lo : Loc (w3.setCell ⟨go, 2, none⟩ (.slice D3 (pl.length + 1) e3)) (go) [.int .i64 n, .slice B1 cs.length k1, .slice D3 (pl.length + 1) e3, .slice B3 ds.length k3, .int .i64 m] := Lo.set (i := 2) (v := .slice B2 pl.length k2) rfl
  have hch : Chg [go] w3 (w3.setCell ⟨go, 2, none⟩ (.slice D3 (pl.length + 1) e3)) := chg_set (Chg.refl _ _) (by simp)
  have OK3' := Lib.hid (OK3.out.chg hch (fun x hx hx' => DK3.out x hx (by simp at hx'; subst hx'; simp)))
  clear OK3; have OK3 := OK3'; clear OK3'
  have FK3' := Lib.hid (fresh_mono (w' := (w3.setCell ⟨go, 2, none⟩ (.slice D3 (pl.length + 1) e3))) FK3.out (Nat.le_refl _) hch.size)
  clear FK3; have FK3 := FK3'; clear FK3'
  have OK11' := Lib.hid (OK11.out.chg hch (fun x hx hx' => DK11.out x hx (by simp at hx'; subst hx'; simp)))
  clear OK11; have OK11 := OK11'; clear OK11'
  have FK11' := Lib.hid (fresh_mono (w' := (w3.setCell ⟨go, 2, none⟩ (.slice D3 (pl.length + 1) e3))) FK11.out (Nat.le_refl _) hch.size)
  clear FK11; have FK11 := FK11'; clear FK11'
  have ON' := Lib.hid (ON.out.chg hch (fun x hx hx' => DN.out x hx (by simp at hx'; subst hx'; simp)))
  clear ON; have ON := ON'; clear ON'
  have FN' := Lib.hid (fresh_mono (w' := (w3.setCell ⟨go, 2, none⟩ (.slice D3 (pl.length + 1) e3))) FN.out (Nat.le_refl _) hch.size)
  clear FN; have FN := FN'; clear FN'
  replace hb : Below w.heap.size w (w3.setCell ⟨go, 2, none⟩ (.slice D3 (pl.length + 1) e3)) := Below.chg hb hch hb.size (by simp; omega)
  have hzc := hch.size
  clear hch
  generalize w3.setCell ⟨go, 2, none⟩ (.slice D3 (pl.length + 1) e3) = W3 at *
  have o4 := (Lo 4 _ rfl).1
  have c4 := (Lc 4 _ rfl).1
  have of4 := (Lo 4 _ rfl).2
  go_upto_region 4 with (fail)
  clear o4 c4 of4
  replace Lc : Loc (W3.setCell ⟨go, 4, none⟩ (.int .i64 (wrap64 (m - 10)))) (w.heap.size) [.int .i64 n, .slice A1 cs.length n1, .slice A2 pl.length n2, .slice A3 ds.length n3, .int .i64 m] := Lc.far (g := go) (i := 4) (u := .int .i64 (wrap64 (m - 10))) (by omega)
  replace Lr : Loc (W3.setCell ⟨go, 4, none⟩ (.int .i64 (wrap64 (m - 10)))) (w.heap.size + 1) [.int .i64 0, .slice none 0 0, .slice none 0 0, .slice none 0 0, .int .i64 0] := Lr.far (g := go) (i := 4) (u := .int .i64 (wrap64 (m - 10))) (by omega)
  replace Lo : Loc (W3.setCell ⟨go, 4, none⟩ (.int .i64 (wrap64 (m - 10)))) (go) [.int .i64 n, .slice B1 cs.length k1, .slice D3 (pl.length + 1) e3, .slice B3 ds.length k3, .int .i64 (wrap64 (m - 10))] := Lo.set (i := 4) (v := .int .i64 m) rfl
  have hch : Chg [go] W3 (W3.setCell ⟨go, 4, none⟩ (.int .i64 (wrap64 (m - 10)))) := chg_set (Chg.refl _ _) (by simp)
  have OK3' := Lib.hid (OK3.out.chg hch (fun x hx hx' => DK3.out x hx (by simp at hx'; subst hx'; simp)))
  clear OK3; have OK3 := OK3'; clear OK3'
  have FK3' := Lib.hid (fresh_mono (w' := (W3.setCell ⟨go, 4, none⟩ (.int .i64 (wrap64 (m - 10))))) FK3.out (Nat.le_refl _) hch.size)
  clear FK3; have FK3 := FK3'; clear FK3'
  have OK11' := Lib.hid (OK11.out.chg hch (fun x hx hx' => DK11.out x hx (by simp at hx'; subst hx'; simp)))
  clear OK11; have OK11 := OK11'; clear OK11'
  have FK11' := Lib.hid (fresh_mono (w' := (W3.setCell ⟨go, 4, none⟩ (.int .i64 (wrap64 (m - 10))))) FK11.out (Nat.le_refl _) hch.size)
  clear FK11; have FK11 := FK11'; clear FK11'
  have ON' := Lib.hid (ON.out.chg hch (fun x hx hx' => DN.out x hx (by simp at hx'; subst hx'; simp)))
  clear ON; have ON := ON'; clear ON'
  have FN' := Lib.hid (fresh_mono (w' := (W3.setCell ⟨go, 4, none⟩ (.int .i64 (wrap64 (m - 10))))) FN.out (Nat.le_refl _) hch.size)
  clear FN; have FN := FN'; clear FN'
  replace hb : Below w.heap.size w (W3.setCell ⟨go, 4, none⟩ (.int .i64 (wrap64 (m - 10)))) := Below.chg hb hch hb.size (by simp; omega)
  have hzc := hch.size
  clear hch
  generalize W3.setCell ⟨go, 4, none⟩ (.int .i64 (wrap64 (m - 10))) = W4 at *
  have OC : OwCompany W4 (SK11 ++ SN) (.slice B1 cs.length k1) (.slice D3 (pl.length + 1) e3) cs (pl ++ [([], free)]) := ⟨_, _, rfl, OK11.out, ON.out⟩
  have OC' := OC
  clear OC
  have FC := Lib.hid (fresh_join FK11.out FN.out (J1N.out))
  have DC : Hid (∀ x ∈ SK11 ++ SN, x ∉ [w.heap.size, w.heap.size + 1, go]) := (fun x hx => (List.mem_append.1 hx).elim (DK11.out x) (DN.out x))
  have OC := Lib.hid (OC')
  clear OK11 FK11 DK11 ON FN DN
  obtain ⟨SC, hSC⟩ : ∃ T, SK11 ++ SN = T := ⟨_, rfl⟩
  rw [hSC] at OC FC DC
  clear OC'
  have JC3 : ∀ x ∈ SC, x ∉ SK3 := fun x hx => by
    rw [← hSC] at hx
    exact (List.mem_append.1 hx).elim (HJ13.out x) (JN3.out x)
  have HJC := Lib.hid JC3
  clear JC3
  have OP : OwTheatre W4 (SC ++ SK3) (.slice B1 cs.length k1) (.slice D3 (pl.length + 1) e3) (.slice B3 ds.length k3) cs (pl ++ [([], free)]) ds := ⟨_, _, rfl, OC.out, OK3.out⟩
  clear hSC
  have FQ := Lib.hid (fresh_join FC.out FK3.out (HJC.out))
  have DQ : Hid (∀ x ∈ SC ++ SK3, x ∉ [w.heap.size, w.heap.size + 1, go]) := (fun x hx => (List.mem_append.1 hx).elim (DC.out x) (DK3.out x))
  have OQ := Lib.hid (OP)
  clear OC FC DC OK3 FK3 DK3
  obtain ⟨SQ, hSQ⟩ : ∃ T, SC ++ SK3 = T := ⟨_, rfl⟩
  rw [hSQ] at OQ FQ DQ
  clear hSQ
  clear OP
  have c0 := (Lc 0 _ rfl).1
  have c1 := (Lc 1 _ rfl).1
  have c2 := (Lc 2 _ rfl).1
  have c3 := (Lc 3 _ rfl).1
  have c4 := (Lc 4 _ rfl).1
  go_wp2_with fail
  refine twoB (specTheatreOk_any n m _ _ _ cs pl ds _ (h.below hb)) (fun W5 hq q => ?_) (fun W5 hq q => ?_)
  · skip
    clear c0 c1 c2 c3 c4
    have hzq : W4.heap.size ≤ W5.heap.size := by have := q.size; (try simp at this); omega
    replace Lc := Lc.below q
    replace Lr := Lr.below q
    replace Lo := Lo.below q
    have OQ' := Lib.hid (OQ.out.below q)
    clear OQ; have OQ := OQ'; clear OQ'
    have FQ' := Lib.hid (fresh_mono (w' := W5) FQ.out (Nat.le_refl _) hzq)
    clear FQ; have FQ := FQ'; clear FQ'
    replace hb : Below w.heap.size w W5 := hb.trans (q.mono hb.size)
    clear q
    have o0 := (Lo 0 _ rfl).1
    have o1 := (Lo 1 _ rfl).1
    have o2 := (Lo 2 _ rfl).1
    have o3 := (Lo 3 _ rfl).1
    have o4 := (Lo 4 _ rfl).1
    go_wp2_with fail
    refine twoB (specTheatreOk_any n (wrap64 (m - 10)) _ _ _ cs (pl ++ [([], free)]) ds _ OQ.out.rd) (fun W6 hq' q => ?_) (fun W6 hq' q => ?_)
    · skip
      clear o0 o1 o2 o3 o4
      have hzq : W5.heap.size ≤ W6.heap.size := by have := q.size; (try simp at this); omega
      replace Lc := Lc.below q
      replace Lr := Lr.below q
      replace Lo := Lo.below q
      have OQ' := Lib.hid (OQ.out.below q)
      clear OQ; have OQ := OQ'; clear OQ'
      have FQ' := Lib.hid (fresh_mono (w' := W6) FQ.out (Nat.le_refl _) hzq)
      clear FQ; have FQ := FQ'; clear FQ'
      replace hb : Below w.heap.size w W6 := hb.trans (q.mono hb.size)
      clear q
      have o0 := (Lo 0 _ rfl).1
      have o1 := (Lo 1 _ rfl).1
      have o2 := (Lo 2 _ rfl).1
      have o3 := (Lo 3 _ rfl).1
      have o4 := (Lo 4 _ rfl).1
      have r0 := (Lr 0 _ rfl).1
      have rf0 := (Lr 0 _ rfl).2
      have r1 := (Lr 1 _ rfl).1
      have rf1 := (Lr 1 _ rfl).2
      have r2 := (Lr 2 _ rfl).1
      have rf2 := (Lr 2 _ rfl).2
      have r3 := (Lr 3 _ rfl).1
      have rf3 := (Lr 3 _ rfl).2
      have r4 := (Lr 4 _ rfl).1
      have rf4 := (Lr 4 _ rfl).2
      go_wp2_with fail
      refine bodyPost_ret (v := .tuple #[.agg #[.int .i64 n, .slice B1 cs.length k1, .slice D3 (pl.length + 1) e3, .slice B3 ds.length k3, .int .i64 (wrap64 (m - 10))], .bool true]) (by simp [results, Try.results27, go_sem, *]) rfl (bec_t ⟨hq.out, rfl, hq'.out⟩ ⟨_, _, _, SQ, rfl, ?_, ?_, ?_⟩)
      · exact OQ.out.chg (T := [w.heap.size + 1]) (by repeat' (first | (with_reducible exact Chg.refl _ _) | (with_reducible refine chg_set ?_ (by simp)))) (fun x hx hx' => DQ.out x hx (by simp at hx'; subst hx'; simp))
      · exact fresh_mono FQ.out (by omega) (by simp)
      · exact Below.chg hb (S := [w.heap.size + 1]) (by repeat' (first | (with_reducible exact Chg.refl _ _) | (with_reducible refine chg_set ?_ (by simp)))) hb.size (fun x hx => by simp at hx; omega)
    · skip
      clear o0 o1 o2 o3 o4
      have hzq : W5.heap.size ≤ W6.heap.size := by have := q.size; (try simp at this); omega
      replace Lc := Lc.below q
      replace Lr := Lr.below q
      replace Lo := Lo.below q
      have OQ' := Lib.hid (OQ.out.below q)
      clear OQ; have OQ := OQ'; clear OQ'
      have FQ' := Lib.hid (fresh_mono (w' := W6) FQ.out (Nat.le_refl _) hzq)
      clear FQ; have FQ := FQ'; clear FQ'
      replace hb : Below w.heap.size w W6 := hb.trans (q.mono hb.size)
      clear q
      have c0 := (Lc 0 _ rfl).1
      have c1 := (Lc 1 _ rfl).1
      have c2 := (Lc 2 _ rfl).1
      have c3 := (Lc 3 _ rfl).1
      have c4 := (Lc 4 _ rfl).1
      go_wp2_with fail
      refine (l38Copy_any n m _ _ _ cs pl ds _ (h.below hb) hsz).mono ?_
      rintro e W7 ⟨y1, y2, y3, T, rfl, ow6, f6, q⟩
      clear c0 c1 c2 c3 c4
      obtain ⟨⟨D1, e1, rfl⟩, ⟨D2, e2, rfl⟩, ⟨D3, e3, rfl⟩⟩ := ow6.rd.forms
      have hzq : W6.heap.size ≤ W7.heap.size := by have := q.size; (try simp at this); omega
      replace Lc := Lc.below q
      replace Lr := Lr.below q
      replace Lo := Lo.below q
      have OQ' := Lib.hid (OQ.out.below q)
      clear OQ; have OQ := OQ'; clear OQ'
      have FQ' := Lib.hid (fresh_mono (w' := W7) FQ.out (Nat.le_refl _) hzq)
      clear FQ; have FQ := FQ'; clear FQ'
      replace hb : Below w.heap.size w W7 := hb.trans (q.mono hb.size)
      have hlow : W6.heap.size ≤ W6.heap.size := by first | exact Nat.le_refl _ | (simp; done) | (simp; omega) | omega
      have FZ := Lib.hid (fresh_mono f6 hlow (Nat.le_refl _))
      have DZ : Hid (∀ x ∈ T, x ∉ [w.heap.size, w.heap.size + 1, go]) := (fun x hx => by have := (FZ.out.2 x hx).1; simp; omega)
      have OZ := Lib.hid ow6
      clear ow6 f6 hlow
      clear q
      have r0 := (Lr 0 _ rfl).1
      have rf0 := (Lr 0 _ rfl).2
      have r1 := (Lr 1 _ rfl).1
      have rf1 := (Lr 1 _ rfl).2
      have r2 := (Lr 2 _ rfl).1
      have rf2 := (Lr 2 _ rfl).2
      have r3 := (Lr 3 _ rfl).1
      have rf3 := (Lr 3 _ rfl).2
      have r4 := (Lr 4 _ rfl).1
      have rf4 := (Lr 4 _ rfl).2
      go_wp2_with fail
      refine bodyPost_ret (v := .tuple #[.agg #[.int .i64 n, .slice D1 cs.length e1, .slice D2 pl.length e2, .slice D3 ds.length e3, .int .i64 m], .bool false]) (by simp [results, Try.results27, go_sem, *]) rfl (bec_f (fun hh => absurd (show theatreB n (wrap64 (m - 10)) cs (pl ++ [([], free)]) ds = true from hh.2.2) (by rw [hq'.out]; simp)) ⟨_, _, _, T, rfl, ?_, ?_, ?_⟩)
      · exact OZ.out.chg (T := [w.heap.size + 1]) (by repeat' (first | (with_reducible exact Chg.refl _ _) | (with_reducible refine chg_set ?_ (by simp)))) (fun x hx hx' => DZ.out x hx (by simp at hx'; subst hx'; simp))
      · exact fresh_mono FZ.out (by omega) (by simp)
      · exact Below.chg hb (S := [w.heap.size + 1]) (by repeat' (first | (with_reducible exact Chg.refl _ _) | (with_reducible refine chg_set ?_ (by simp)))) hb.size (fun x hx => by simp at hx; omega)
  · skip
    clear c0 c1 c2 c3 c4
    have hzq : W4.heap.size ≤ W5.heap.size := by have := q.size; (try simp at this); omega
    replace Lc := Lc.below q
    replace Lr := Lr.below q
    replace Lo := Lo.below q
    have OQ' := Lib.hid (OQ.out.below q)
    clear OQ; have OQ := OQ'; clear OQ'
    have FQ' := Lib.hid (fresh_mono (w' := W5) FQ.out (Nat.le_refl _) hzq)
    clear FQ; have FQ := FQ'; clear FQ'
    replace hb : Below w.heap.size w W5 := hb.trans (q.mono hb.size)
    clear q
    have c0 := (Lc 0 _ rfl).1
    have c1 := (Lc 1 _ rfl).1
    have c2 := (Lc 2 _ rfl).1
    have c3 := (Lc 3 _ rfl).1
    have c4 := (Lc 4 _ rfl).1
    go_wp2_with fail
    refine (l38Copy_any n m _ _ _ cs pl ds _ (h.below hb) hsz).mono ?_
    rintro e W6 ⟨y1, y2, y3, T, rfl, ow6, f6, q⟩
    clear c0 c1 c2 c3 c4
    obtain ⟨⟨D1, e1, rfl⟩, ⟨D2, e2, rfl⟩, ⟨D3, e3, rfl⟩⟩ := ow6.rd.forms
    have hzq : W5.heap.size ≤ W6.heap.size := by have := q.size; (try simp at this); omega
    replace Lc := Lc.below q
    replace Lr := Lr.below q
    replace Lo := Lo.below q
    have OQ' := Lib.hid (OQ.out.below q)
    clear OQ; have OQ := OQ'; clear OQ'
    have FQ' := Lib.hid (fresh_mono (w' := W6) FQ.out (Nat.le_refl _) hzq)
    clear FQ; have FQ := FQ'; clear FQ'
    replace hb : Below w.heap.size w W6 := hb.trans (q.mono hb.size)
    have hlow : W5.heap.size ≤ W5.heap.size := by first | exact Nat.le_refl _ | (simp; done) | (simp; omega) | omega
    have FZ := Lib.hid (fresh_mono f6 hlow (Nat.le_refl _))
    have DZ : Hid (∀ x ∈ T, x ∉ [w.heap.size, w.heap.size + 1, go]) := (fun x hx => by have := (FZ.out.2 x hx).1; simp; omega)
    have OZ := Lib.hid ow6
    clear ow6 f6 hlow
    clear q
    have r0 := (Lr 0 _ rfl).1
    have rf0 := (Lr 0 _ rfl).2
    have r1 := (Lr 1 _ rfl).1
    have rf1 := (Lr 1 _ rfl).2
    have r2 := (Lr 2 _ rfl).1
    have rf2 := (Lr 2 _ rfl).2
    have r3 := (Lr 3 _ rfl).1
    have rf3 := (Lr 3 _ rfl).2
    have r4 := (Lr 4 _ rfl).1
    have rf4 := (Lr 4 _ rfl).2
    go_wp2_with fail
    refine bodyPost_ret (v := .tuple #[.agg #[.int .i64 n, .slice D1 cs.length e1, .slice D2 pl.length e2, .slice D3 ds.length e3, .int .i64 m], .bool false]) (by simp [results, Try.results27, go_sem, *]) rfl (bec_f (fun hh => absurd (show theatreB n m cs pl ds = true from hh.1) (by rw [hq.out]; simp)) ⟨_, _, _, T, rfl, ?_, ?_, ?_⟩)
    · exact OZ.out.chg (T := [w.heap.size + 1]) (by repeat' (first | (with_reducible exact Chg.refl _ _) | (with_reducible refine chg_set ?_ (by simp)))) (fun x hx hx' => DZ.out x hx (by simp at hx'; subst hx'; simp))
    · exact fresh_mono FZ.out (by omega) (by simp)
    · exact Below.chg hb (S := [w.heap.size + 1]) (by repeat' (first | (with_reducible exact Chg.refl _ _) | (with_reducible refine chg_set ?_ (by simp)))) hb.size (fun x hx => by simp at hx; omega)
theorem hire2 (n m free : Int) (cs : List RCross) (pl : List RPl) (ds : List Int) : ∃ n' m' ok cs' pl' ds', (szTheatre cs' pl' ds' ≤ szTheatre cs pl ds ∨ szTheatre cs' pl' ds' ≤ 148) ∧
    (∀ W v1 v2 v3, RdTheatre W v1 v2 v3 cs pl ds → szTheatre cs pl ds ≤ 1048576 → Calls Try.prog 27 #[.agg #[.int .i64 n, v1, v2, v3, .int .i64 m], .int .i64 free] W (RetT W.heap.size n' m' ok cs' pl' ds' W)) ∧
    (∀ W v1 v2 v3, RdTheatre W v1 v2 v3 cs pl ds → szTheatre cs pl ds ≤ 1048576 → Calls Try.prog 29 #[.agg #[.int .i64 n, v1, v2, v3, .int .i64 m], .int .i64 free] W (RetT W.heap.size n' m' ok cs' pl' ds' W)) :=
  ⟨_, _, _, _, _, _, bec_sz ⟨n, m, cs, pl, ds⟩ _ _, fun W v1 v2 v3 hr hs => specHirePlayer_any n m free v1 v2 v3 cs pl ds W hr hs, fun W v1 v2 v3 hr hs => implHirePlayer_any n m free v1 v2 v3 cs pl ds W hr hs⟩
end Go.Proofs.Ytjagcffgmmogeaa
