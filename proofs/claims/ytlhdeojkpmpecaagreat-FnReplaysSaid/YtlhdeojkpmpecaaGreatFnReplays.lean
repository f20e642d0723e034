/- FnReplays: the law returns true for every input. No condition. Written by a program (gen_fr.py). -/
import Derived.OpenShut
import Derived.Test.YtlhdeojkpmpecaaGreatW11
import Derived.Test.YtlhdeojkpmpecaaGreatBdZ5x9
import Derived.Test.YtlhdeojkpmpecaaGreatBdK24x3
import Derived.Test.YtlhdeojkpmpecaaGreatBdW1x3
import Derived.Test.YtlhdeojkpmpecaaGreatO3
namespace Go.Proofs.YtlhdeojkpmpecaaGreat
open Go.ChangeShapes Go.WideShapes Go.ChangeAt Go.RowKit Go.Deep
theorem wrap_ne (x : Int) : IntKind.i64.wrap (x + 1) ≠ x := by
 rw [IntKind.wrap_i64]
 omega
theorem set_ne {l : List Int} {k : Nat} (hk : k < l.length) {y : Int} (hy : y ≠ l[k]) : l ≠ l.set k y := fun e => hy (by
 have h1 : (l.set k y)[k]'(by rw [List.length_set]; exact hk) = y := by simp
 have h2 : l[k] = (l.set k y)[k]'(by rw [List.length_set]; exact hk) := by congr 1
 rw [h1] at h2
 exact h2.symm)
set_option maxHeartbeats 8000000 in
set_option maxRecDepth 100000 in
theorem lawFnReplays_any (A : Option Addr) (c : Nat) (bs : List Int) (w : World) (h : RdL cU8 1 w (.slice A bs.length c) bs) (hby : ∀ x ∈ bs, 0 ≤ x ∧ x ≤ 255) :
  Calls Tryz.prog 8 #[.slice A bs.length c] w fun e w' => e = .returned (.bool true) ∧ Below w.heap.size w w' := by
 have Hby := Lib.hid hby
 clear hby
 go_enter Tryz.func8, Tryz.ntmps8
 go_wp2_with (go_at_call 30; refine twoB (big_any _ _ _ _) (fun wb hc hb => ?_) (fun wb hc hb => ?_))
 ·go_ret
  exact ⟨rfl, hb⟩
 have hlen : bs.length ≤ 1048576 := by have := hc.out; simp at this; omega
 have Hlen := Lib.hid hlen
 clear hc
 refine (drawActs_any A c bs wb (h.below hb) Hby.out hlen).mono ?_
 rintro e w1 ⟨n, m, cs, pl, ds, x1, x2, x3, va, acts, rfl, hrt, hra, hth, h13, hacts, hb1⟩
 obtain ⟨⟨A1, n1, rfl⟩, ⟨A2, n2, rfl⟩, ⟨A3, n3, rfl⟩⟩ := hrt.forms
 obtain ⟨A5, n5, rfl, _, _⟩ := hra.form
 have hbw : Below w.heap.size w w1 := bl_trans hb hb1
 have hcode := h.below hbw
 have hrun := fun W hr ha => implRunActs_any n m (.slice A1 cs.length n1) (.slice A2 pl.length n2) (.slice A3 ds.length n3) (.slice A5 acts.length n5) cs pl ds acts W hr ha (by have := theatreB_sz hth; omega)
 have hrep := fun l b (hb : replB ⟨n, m, cs, pl, ds⟩ acts l = b) v W hr ha hn => show Calls Tryz.prog 29 _ W fun e w' => e = .returned (.bool b) ∧ Below W.heap.size W w' from hb ▸ implIsReplay_any n m (.slice A1 cs.length n1) (.slice A2 pl.length n2) (.slice A3 ds.length n3) (.slice A5 acts.length n5) v cs pl ds acts l W hr ha hn (by have := theatreB_sz hth; omega)
 have hrb : ∀ l, replB ⟨n, m, cs, pl, ds⟩ acts l = decide ((actsF ⟨n, m, cs, pl, ds⟩ acts).2 = l) := fun l => repl_t hth (by omega)
 generalize actsF ⟨n, m, cs, pl, ds⟩ acts = r at hrb hrun
 obtain ⟨⟨n', m', cs', pl', ds'⟩, ns⟩ := r
 have HB : Hid (∀ l, replB ⟨n, m, cs, pl, ds⟩ acts l = decide (ns = l)) := hrb
 have HR := Lib.hid hrun
 have HP := Lib.hid hrep
 clear hrb hrep hth hrun hacts hb hb1 h hlen h13
 go_upto_region 4 with (fail)
 have hal : Below w1.heap.size w1 (w1.alloc (.cells #[.int .i64 n, .slice A1 cs.length n1, .slice A2 pl.length n2, .slice A3 ds.length n3, .int .i64 m] 37)) := (Below.refl _ _).alloc (Nat.le_refl _) _
 have L1 : Loc (w1.alloc (.cells #[.int .i64 n, .slice A1 cs.length n1, .slice A2 pl.length n2, .slice A3 ds.length n3, .int .i64 m] 37)) w1.heap.size [.int .i64 n, .slice A1 cs.length n1, .slice A2 pl.length n2, .slice A3 ds.length n3, .int .i64 m] := Loc.new w1 #[.int .i64 n, .slice A1 cs.length n1, .slice A2 pl.length n2, .slice A3 ds.length n3, .int .i64 m] 37
 obtain ⟨g1, hg1⟩ : ∃ g, w1.heap.size = g := ⟨_, rfl⟩
 rw [hg1] at L1
 replace hrt := hrt.below hal
 replace hra := hra.below hal
 replace hbw := bl_trans hbw hal
 replace hcode := hcode.below hal
 generalize w1.alloc (.cells #[.int .i64 n, .slice A1 cs.length n1, .slice A2 pl.length n2, .slice A3 ds.length n3, .int .i64 m] 37) = W1 at *
 (try rw [hg1])
 clear hg1 hal
 have b0 := (L1 0 _ rfl).1
 have b1 := (L1 1 _ rfl).1
 have b2 := (L1 2 _ rfl).1
 have b3 := (L1 3 _ rfl).1
 have b4 := (L1 4 _ rfl).1
 go_wp2_with fail
 refine (HR.out W1 hrt hra).mono ?_
 rintro e w2 ⟨y1, y2, y3, S, vn, SN, rfl, ow, fr, ol, frn, _, hb2⟩
 have hrt2 := ow.rd
 obtain ⟨⟨B1, k1, rfl⟩, ⟨B2, k2, rfl⟩, ⟨B3, k3, rfl⟩⟩ := hrt2.forms
 have hz1 := hbw.size
 obtain ⟨own, hSN⟩ := ol
 have hone : ∀ b ∈ vn.ownBlock.toList, W1.heap.size ≤ b := fun b hb => (frn.2 b (by rw [hSN]; exact hb)).1
 obtain ⟨B4, k4, rfl, _, _⟩ := (RdS.of_own own).form
 clear b0 b1 b2 b3 b4 ow fr frn HR hSN
 have hal : Below w2.heap.size w2 (w2.alloc (.cells #[.int .i64 n', .slice B1 cs'.length k1, .slice B2 pl'.length k2, .slice B3 ds'.length k3, .int .i64 m'] 37)) := (Below.refl _ _).alloc (Nat.le_refl _) _
 replace hb2 := bl_trans hb2 hal
 replace own := own_below own hal
 go_upto_region 5 with (fail)
 generalize w2.alloc (.cells #[.int .i64 n', .slice B1 cs'.length k1, .slice B2 pl'.length k2, .slice B3 ds'.length k3, .int .i64 m'] 37) = W2 at *
 clear hal hrt2
 have b0 := ((L1.below hb2) 0 _ rfl).1
 have b1 := ((L1.below hb2) 1 _ rfl).1
 have b2 := ((L1.below hb2) 2 _ rfl).1
 have b3 := ((L1.below hb2) 3 _ rfl).1
 have b4 := ((L1.below hb2) 4 _ rfl).1
 go_wp2_with fail
 refine (HP.out ns true ((HB.out ns).trans (decide_eq_true rfl)) _ W2 (hrt.below hb2) (hra.below hb2) (RdS.of_own own)).mono ?_
 rintro e w3 ⟨rfl, hb3⟩
 replace hb2 := bl_trans hb2 hb3
 replace own := own_below own hb3
 clear b0 b1 b2 b3 b4 hb3
 by_cases hl0 : ns.length = 0
 ·obtain rfl : ns = [] := List.eq_nil_of_length_eq_zero hl0
  clear hl0
  simp only [List.length_nil] at *
  have b0 := ((L1.below hb2) 0 _ rfl).1
  have b1 := ((L1.below hb2) 1 _ rfl).1
  have b2 := ((L1.below hb2) 2 _ rfl).1
  have b3 := ((L1.below hb2) 3 _ rfl).1
  have b4 := ((L1.below hb2) 4 _ rfl).1
  have hal : Below w3.heap.size w3 (w3.alloc (.cells #[.int .i64 1] 3)) := (Below.refl _ _).alloc (Nat.le_refl _) _
  have hb4 := bl_trans hb2 hal
  go_wp2_with fail
  refine (HP.out [1] false ((HB.out [1]).trans (decide_eq_false (by simp))) _ _ (hrt.below hb4) (hra.below hb4) (rdS_new w3 #[.int .i64 1] _ 1 1 rfl (by simp [maxLen]))).mono ?_
  rintro e w5 ⟨rfl, hb5⟩
  go_wp2_with fail
  go_ret
  exact ⟨rfl, bl_trans hbw (bl_trans hb4 hb5)⟩
 ·have hz : ((ns.length : Int) == 0) = false := by rw [beq_eq_false_iff_ne]; omega
  go_wp2_with fail
  refine (drawPlaces_any A c bs w3 (hcode.below hb2) Hby.out Hlen.out).mono ?_
  rintro e w4 ⟨vp, p, rfl, hp, hp12, hpb, hb4⟩
  replace hb2 := bl_trans hb2 hb4
  replace own := own_below own hb4
  have hp1 : 0 < p.length := by rw [hp12]; decide
  obtain ⟨Ap, np, rfl, _, _⟩ := hp.form
  obtain ⟨gp, op, rfl, hgp, hcp⟩ := hp.cell (k := 0) cInt_len (by omega) hp1
  have q0 := hcp 0 _ rfl
  simp only [Nat.add_zero, Nat.mul_one] at q0
  clear hcp hb4
  have hp0 := hpb _ (List.getElem_mem (show 0 < p.length by omega))
  generalize p[0]'(by omega) = x0 at *
  obtain ⟨k, hk⟩ : ∃ k : Nat, x0.tmod (ns.length : Int) = (k : Int) := ⟨(x0 % (ns.length : Int)).toNat, by rw [Int.tmod_eq_emod_of_nonneg hp0.1]; have := Int.emod_nonneg x0 (show (ns.length : Int) ≠ 0 by omega); omega⟩
  have hkn : k < ns.length := by have := Int.emod_lt_of_pos x0 (show (0 : Int) < ns.length by omega); rw [Int.tmod_eq_emod_of_nonneg hp0.1] at hk; omega
  have hk' : x0 % (ns.length : Int) = (k : Int) := by rw [← hk, Int.tmod_eq_emod_of_nonneg hp0.1]
  obtain ⟨gN, cN, e1⟩ := own_form own (by omega)
  injection e1 with e11 e12 e13
  subst e11 e13
  clear e12
  have hgN : W1.heap.size ≤ gN := hone gN (by simp [Value.ownBlock])
  have c0 := row_cell own hkn
  have cf := own.frozenAt k
  have HX : Hid (ns ≠ ns.set k (IntKind.i64.wrap (ns[k] + 1))) := set_ne hkn (wrap_ne _)
  generalize ns[k] = x at *
  go_upto_region 11 with (fail)
  have i0 : (0 : Int) ≤ (k : Int) := by omega
  have i1 : ¬ (k : Int) < 0 := by omega
  have i2 : (k : Int) < (ns.length : Int) := by omega
  have i3 : (k : Int).toNat = k := by omega
  obtain ⟨y, hy⟩ : ∃ y, IntKind.i64.wrap (x + 1) = y := ⟨_, rfl⟩
  rw [hy] at HX
  go_upto_region 12 with (fail)
  (try rw [hy])
  have hb5 : Below W1.heap.size W1 (w4.setCell ⟨gN, k, none⟩ (.int .i64 y)) := hb2.setCell hgN _
  have own5 := row_stored own k y
  have hn5 : RdL cInt 1 (w4.setCell ⟨gN, k, none⟩ (.int .i64 y)) (.slice (some ⟨gN, 0, none⟩) ns.length k4) (ns.set k y) := by unfold RdL; rw [List.length_set]; exact RdS.of_own own5
  clear own own5 c0 cf q0
  have b0 := ((L1.below hb5) 0 _ rfl).1
  have b1 := ((L1.below hb5) 1 _ rfl).1
  have b2 := ((L1.below hb5) 2 _ rfl).1
  have b3 := ((L1.below hb5) 3 _ rfl).1
  have b4 := ((L1.below hb5) 4 _ rfl).1
  go_wp2_with fail
  refine (HP.out (ns.set k y) false ((HB.out _).trans (decide_eq_false HX.out)) _ _ (hrt.below hb5) (hra.below hb5) hn5).mono ?_
  rintro e w6 ⟨rfl, hb6⟩
  go_wp2_with fail
  go_ret
  exact ⟨rfl, bl_trans hbw (bl_trans hb5 hb6)⟩
set_option maxRecDepth 100000 in
set_option maxHeartbeats 1000000 in
theorem fnReplays_lifted (os : Os) (started : os.Started) (H : Type) (enc : TypeId × Value → H) :
  ReturnsInHanded {} Tryz.checked os 8 .any (Rows.fnReplaysSpec.pre6 enc Tryz.prog Tryz.f8 Rows.fnReplaysRow.domain false) (Rows.fnReplaysSpec.post enc Tryz.prog Tryz.f8 false true false false) := by
 refine returnsInHanded_of_change (C := Tryz.checked) tryOwn started (by kernel_rfl) Tryz.func8
  (ChangeSpec.witness6 (enc := enc) (C := Tryz.checked) false ⟨#[], #[.slice none 0 0], []⟩ 12 (by kernel_rfl) (by kernel_rfl) (by kernel_rfl) (by kernel_rfl)) ?_
 intro W base args ds gs before hval0 hW hcnd _
 have hval : ∀ (j : Nat) t v, Tryz.f8.params[j]? = some t → args[j]? = some v → Value.okWide Tryz.prog W .any base t v := hval0
 have hW' := hW
 obtain ⟨p, q, hA0, hV, rfl, hfz, hnd⟩ := hW
 have hA : DataW.TrodAll enc Tryz.prog W 0 (fun _ => true) true Tryz.f8.params.toList args.toList ds p := hA0
 rw [Tryz.params8] at hA hval
 obtain ⟨v0, vs0, d0, ds0, p0, q0, hargs, rfl, rfl, h0, r0⟩ := trodAll_cons hA
 obtain ⟨rfl, rfl, rfl⟩ := trodAll_nil r0
 obtain rfl : args = #[v0] := by cases args; simp_all
 obtain ⟨rfl, rfl⟩ := trodVars_none hV
 have e0 := h0
 have lt0 : ∀ x ∈ p0, x.block < W.heap.size := by obtain ⟨m, hm⟩ := e0; exact DataW.trod_lt m _ _ _ hm
 have ok0 := hval 0 60 v0 rfl rfl
 clear hA0 hval0 hval
 obtain ⟨xs, hrd, hby⟩ := arg_slice Tryz.underlying60 ok0 h0 (opens_slice (f := cU8) (size := 1) Tryz.underlying60 (by kernel_rfl) (by omega) cU8_len (opens_u8 Tryz.underlying5))
 obtain ⟨A, c, rfl, _⟩ := RdS.form hrd
 refine (lawFnReplays_any A c xs W hrd hby).mono fun e W' ⟨he, bel⟩ => ?_
 subst he
 exact ⟨_, rfl, _, _, _, [], _, [], hW', trodAll_mk1 (shut_bool Tryz.underlying4 _), (trodAll_cons_mk (Below.trod tryLaid (by kernel_rfl) (of_decide_eq_true (by kernel_rfl)) e0 bel lt0) trodAll_mk0), rfl, bel.frame _, fun h => by cases h⟩
theorem fnReplays_holds : Rows.FnReplaysSaid :=
 OpenClaim.holds_of_wide 8 Tryz.f8 rfl rfl rfl rfl rfl rfl rfl ⟨rfl, rfl, rfl, rfl, rfl⟩ rfl rfl rfl rfl rfl (by kernel_rfl) Tryz.func8 (by kernel_rfl)
  (of_decide_eq_true (by kernel_rfl)) (by unfold Func.isWrapper; first | (rw [if_pos (by decide +kernel)]; kernel_rfl) | (rw [if_neg (by decide +kernel)]; exact ⟨rfl, rfl⟩))
  (fun os started H enc _ => fnReplays_lifted os started H enc)
#print axioms fnReplays_holds
end Go.Proofs.YtlhdeojkpmpecaaGreat
