/- The pairs that are wound, full turns, unwinding, of the program. Written by a program (gen_z3.py). -/
import Derived.Test.YtjbhlbcjljdjmaaZ2
import Derived.Test.YtjbhlbcjljdjmaaK13
import Derived.Test.YtjbhlbcjljdjmaaCPCompany
import Derived.StillTailTactics
import Derived.BigQuiet
namespace Go.Proofs.Ytjbhlbcjljdjmaa
open Go.RowKit
theorem RowsX.apart {T T' : List Nat} {B : Nat} {w : World} {v : Value} {ll : List (List Int)} (h : RowsX T B w v ll) (hw : ∀ b ∈ T', w.heap.size ≤ b) : RowsX T' B w v ll := by
  obtain ⟨S, h1, h2, _⟩ := h
  exact ⟨S, h1, h2, fun b hb hb' => by have := (h2.2 b hb).2; have := hw b hb'; omega⟩
/-- a cell of a square table is read -/
theorem RdRows.cellT {w : World} {v : Value} {ll : List (List Int)} {m : Nat} (h : RdRows w v ll) (hq : Sq m ll) {a b : Nat} (ha : a < m) (hb : b < m) :
    ∃ go oo co g off c, v = .slice (some ⟨go, oo, none⟩) m co ∧ w.cell? ⟨go, oo + a, none⟩ = some (.slice (some ⟨g, off, none⟩) m c) ∧ w.cell? ⟨g, off + b, none⟩ = some (.int .i64 (cellT ll a b)) := by
  obtain ⟨h1, h2, h3⟩ := hq.at_ ha
  have h4 : b < (ll[a]).length := by rw [h2]; exact hb
  obtain ⟨A, co, rfl, _, _⟩ := h.form
  obtain ⟨go, oo, u, rfl, _, c1, hu⟩ := h.cell h1
  obtain ⟨Au, cu, rfl, _, _⟩ := hu.form
  obtain ⟨g, off, rfl, _, hc⟩ := hu.cell (k := b) cInt_len (by omega) h4
  have c2 := hc 0 _ rfl
  simp only [Nat.add_zero, Nat.mul_one] at c2
  rw [cellT_at h1 h4]
  refine ⟨go, oo, co, g, off, cu, by rw [hq.len], ?_, c2⟩
  rw [c1, h2]
/-- a pair of a list of pairs is read -/
theorem RdRows.pairAt {w : World} {v : Value} {ll : List (List Int)} (h : RdRows w v ll) {k : Nat} (hk : k < ll.length) {x y : Int} (hp : ll[k] = [x, y]) :
    ∃ go oo co g off c, v = .slice (some ⟨go, oo, none⟩) ll.length co ∧ w.cell? ⟨go, oo + k, none⟩ = some (.slice (some ⟨g, off, none⟩) 2 c) ∧ w.cell? ⟨g, off, none⟩ = some (.int .i64 x) ∧ w.cell? ⟨g, off + 1, none⟩ = some (.int .i64 y) := by
  obtain ⟨A, co, rfl, _, _⟩ := h.form
  obtain ⟨go, oo, u, rfl, _, c1, hu⟩ := h.cell hk
  rw [hp] at hu
  obtain ⟨Au, cu, rfl, _, _⟩ := hu.form
  obtain ⟨g, off, rfl, _, hc⟩ := hu.cell (k := 0) cInt_len (by omega) (by simp)
  obtain ⟨g2, off2, e, _, hc2⟩ := hu.cell (k := 1) cInt_len (by omega) (by simp)
  injection e with e
  injection e with e1 e2
  subst e1 e2
  have c2 := hc 0 _ rfl
  have c3 := hc2 0 _ rfl
  simp only [Nat.add_zero, Nat.mul_one, Nat.zero_mul, Nat.one_mul] at c2 c3
  exact ⟨go, oo, co, g, off, cu, rfl, c1, c2, c3⟩
theorem woundTo_49 {ll : List (List Int)} {m q q2 : Nat} (hm : m ≤ 7) (hq : q ≤ m) (hq2 : q2 ≤ m) : (woundTo ll m q ++ woundR ll q q2).length ≤ 60 := by
  rw [List.length_append]
  have h1 := woundTo_len ll m q
  have h2 := woundR_len ll q q2
  have : q * m ≤ 7 * 7 := Nat.mul_le_mul (by omega) hm
  omega
set_option maxHeartbeats 8000000 in
set_option maxRecDepth 100000 in
theorem implWound_any (m : Nat) (v : Value) (cs : List RCross) (w : World) (h : RdL cCross 2 w v cs) (hqc : crossesB m cs = true) :
    Calls Try.prog 64 #[.int .i64 m, v] w fun e w' => ∃ v', e = .returned v' ∧ RowsX [] w.heap.size w' v' (woundL m cs) ∧ Below w.heap.size w w' := by
  have h0 := h
  obtain ⟨A, c, rfl, h1, h2⟩ := h.form
  obtain ⟨hn, hlen, hcs⟩ := crosses_len hqc
  have hm : 1 ≤ m ∧ m ≤ 7 := by omega
  obtain ⟨iR, hiR, hzR0, hzR1, hzR2⟩ := info_parts infoRow
  have HQ := Lib.hid hqc
  have HSQ := Lib.hid (twL_sq hcs)
  clear hcs hqc hn
  have hC := implCrossesOk_any m _ cs w h0
  rw [HQ.out] at hC
  go_enter Try.func64, Try.ntmps64
  go_wp2_with fail
  refine hC.mono ?_
  rintro e w1 ⟨rfl, hb1⟩
  have hz1 := hb1.size
  have hrd1 := h0.below hb1
  clear hC
  go_wp2_with fail
  refine (implTwists_any m _ cs w1 hrd1 HQ.out).mono ?_
  rintro e w2 ⟨vt, rfl, ⟨St, ht, hft, _⟩, hb2⟩
  have hz2 := hb2.size
  have hxw : RowsX St w.heap.size (w2.alloc (.cells #[] 28)) (.slice (some ⟨w2.heap.size, 0, none⟩) 0 0) [] := RowsX.empty (by omega) (fun b hb => (hft.2 b hb).2)
  have htw := ht.below ((Below.refl _ _).alloc (Nat.le_refl _) (.cells #[] 28))
  have hbw : Below w.heap.size w (w2.alloc (.cells #[] 28)) := (bl_trans hb1 hb2).alloc (by omega) _
  have hSt : ∀ b ∈ St, b < (w2.alloc (.cells #[] 28)).heap.size := fun b hb => by have := (hft.2 b hb).2; simp; omega
  have hsn := hft.1
  clear hrd1 ht hft hb1 hb2
  obtain ⟨At, ct, rfl, _, _⟩ := htw.rd.form
  rw [HSQ.out.len] at htw
  (try rw [HSQ.out.len])
  go_upto_region 4 with (fail)
  have HWL : Hid (woundL m cs = woundTo (twL m cs) m m) := rfl
  generalize twL m cs = tw at *
  obtain ⟨W0, hW0⟩ : ∃ W0, w2.alloc (.cells #[] 28) = W0 := ⟨_, rfl⟩
  rw [hW0] at hxw htw hbw hSt ⊢
  clear hW0
  have hunf : woundL m cs = woundTo tw m m := HWL.out
  have HF := Lib.hid hunf
  clear hunf HWL
  go_wp2_with fail
  go_loopw [6, 7, 8, 18] (fun p _ _ i wr => ∃ q : Nat, q ≤ m ∧ i = .int .i64 q ∧ RowsX St w.heap.size wr p (woundTo tw m q) ∧ OwRows 28 3 wr St (.slice At m ct) tw ∧ W0.heap.size ≤ wr.heap.size ∧ Below w.heap.size w wr) (fun _ _ _ i _ => m - (intOf i).toNat)
  case atStart => exact ⟨0, Nat.zero_le _, rfl, hxw, htw, Nat.le_refl _, hbw⟩
  case round =>
    obtain ⟨q, hq, rfl, hx, ht, hzW, hb⟩ := hrel
    clear hxw htw hbw
    by_cases hlt : q < m
    · obtain ⟨Ap, cp, rfl, _, _⟩ := hx.rd.form
      have hx' : RowsX St w.heap.size wr (.slice Ap (woundTo tw m q).length cp) (woundTo tw m q ++ woundR tw q (q + 1)) := by rw [woundR_start, List.append_nil]; exact hx
      clear hx
      go_wp2_with fail
      go_loopw [6, 8] (fun p i wr => ∃ q2 : Nat, (q < q2 ∧ q2 ≤ m) ∧ i = .int .i64 q2 ∧ RowsX St w.heap.size wr p (woundTo tw m q ++ woundR tw q q2) ∧ OwRows 28 3 wr St (.slice At m ct) tw ∧ W0.heap.size ≤ wr.heap.size ∧ Below w.heap.size w wr) (fun _ i _ => m - (intOf i).toNat)
      case atStart => exact ⟨q + 1, ⟨by omega, by omega⟩, by go_num, hx', ht, hzW, hb⟩
      case round =>
        obtain ⟨q2, ⟨hq2, hq2'⟩, rfl, hx, ht, hzW, hb⟩ := hrel
        clear hx'
        have hz := hb.size
        have hl60 := woundTo_49 (ll := tw) hm.2 (show q ≤ m by omega) hq2'
        by_cases hlt2 : q2 < m
        · obtain ⟨go, oo, co, g, off, cu, e, c1, c2⟩ := ht.rd.cellT HSQ.out hlt hlt2
          injection e with e1 _ e3
          subst e1 e3
          have Ht := Lib.hid (fun hc => woundR_t (ll := tw) (i := q) (k := q2) hq2 hc)
          have Hf := Lib.hid (fun hc => woundR_f (ll := tw) (i := q) (k := q2) hc)
          obtain ⟨Ap, cp, rfl, _, _⟩ := hx.rd.form
          generalize cellT tw q q2 = t at *
          by_cases h0 : t = 0
          · have hr := Hf.out h0
            have HR := Lib.hid hr
            have h0' : (t != 0) = false := by rw [bne_eq_false_iff_eq]; exact h0
            clear hr h0 Ht Hf
            go_wp2_with fail
            go_roundw
            case rel => exact ⟨q2 + 1, ⟨by omega, by omega⟩, by go_num, by rw [HR.out]; exact hx, ht, hzW, hb⟩
            case measure => simp [intOf]; omega
          · have hr := Ht.out h0
            have HR := Lib.hid hr
            have h0' : (t != 0) = true := by rw [bne_iff_ne]; exact h0
            clear hr h0 Ht Hf
            have hbW : Below wr.heap.size wr ((wr.alloc (.cells #[.int .i64 q, .int .i64 q2] 3)).alloc (.cells #[.slice (some ⟨wr.heap.size, 0, none⟩) 2 2] 28)) := ((Below.refl _ _).alloc (Nat.le_refl _) _).alloc (by simp) _
            obtain ⟨vs, hvl, hov, hvT, hvB, hnext⟩ := hx.lit hz (fun b hb => by have := hSt b hb; omega) hbW (lit_own #[.int .i64 q, .int .i64 q2] [(q : Int), (q2 : Int)] (.cells #[.slice (some ⟨wr.heap.size, 0, none⟩) 2 2] 28) rfl (by simp))
            have htW := ht.below hbW
            have hbW2 : Below w.heap.size w ((wr.alloc (.cells #[.int .i64 q, .int .i64 q2] 3)).alloc (.cells #[.slice (some ⟨wr.heap.size, 0, none⟩) 2 2] 28)) := (hb.alloc hz _).alloc (by simp; omega) _
            rw [← hvl] at hl60
            have Hvl := Lib.hid hvl
            clear hvl hx
            go_wp2_with (at_builtin; refine wpList_appendB _ rfl (.tmp 36) (.tmp 40) _ rfl 0 28 iR _ 1 24 Try.underlying74 hiR hzR0 hzR1 hzR2 rfl (by omega) _ vs.length vs rfl hov _ 1 [.slice (some ⟨wr.heap.size, 0, none⟩) 2 2] rfl (rdS_newAt (wr.alloc (.cells #[.int .i64 q, .int .i64 q2] 3)) (wr.heap.size + 1) (by simp) #[.slice (some ⟨wr.heap.size, 0, none⟩) 2 2] _ 1 1 rfl (by simp [maxLen])) (by simp [Value.oneCell']) (by simp [maxLen]; omega) (by omega) (by omega) ?_; intro v4 w4 own4 gr4 at4)
            have hch := Chg.of_grown gr4
            have hx4 := Lib.hid (hnext _ _ own4 gr4 at4)
            have ht4 := Lib.hid (htW.kept hch hvT)
            have hb4 := Lib.hid (Below.chg hbW2 hch (by simp; omega) (fun b hb => (hvB b hb).1))
            have hz4 : W0.heap.size ≤ w4.heap.size := by have := hch.size; simp at this; omega
            obtain ⟨A4, c4, rfl, _, _⟩ := hx4.out.rd.form
            clear own4 gr4 at4 hch hnext hov hvT hvB
            go_wp2_with fail
            go_roundw
            case rel => exact ⟨q2 + 1, ⟨by omega, by omega⟩, by go_num, by rw [HR.out, ← List.append_assoc]; exact hx4.out, ht4.out, hz4, hb4.out⟩
            case measure => simp [intOf]; omega
        · obtain rfl : q2 = m := by omega
          obtain ⟨Ap, cp, rfl, _, _⟩ := hx.rd.form
          go_wp2_with fail
          go_roundw
          case rel => exact ⟨q + 1, by omega, by go_num, hx, ht, hzW, hb⟩
          case measure => simp [intOf]; omega
    · obtain rfl : q = m := by omega
      obtain ⟨Ap, cp, rfl, _, _⟩ := hx.rd.form
      go_wp2_with fail
      go_ret
      refine ⟨_, rfl, ?_, hb⟩
      rw [HF.out]
      obtain ⟨S, hS1, hS2, _⟩ := hx
      exact ⟨S, hS1, hS2, fun b _ => by simp⟩
set_option maxHeartbeats 8000000 in
set_option maxRecDepth 100000 in
theorem implTurn_any (m i k : Nat) (f : Bool) (w : World) (hik : i < k) (hk : k < m) (hm : m ≤ 7) :
    Calls Try.prog 123 #[.int .i64 m, .int .i64 i, .int .i64 k, .bool f] w fun e w' => ∃ v', e = .returned (.tuple #[v', .bool true]) ∧ w'.ownsRow w.heap.size 115 2 v' (turnL i k f).length ((turnL i k f).flatMap cCross) ∧ Below w.heap.size w w' := by
  obtain ⟨iX, hiX, hzX0, hzX1, hzX2⟩ := info_parts infoCross
  have hownA := World.ownsRow_made (size := 2) (e := 115) w #[] 0 (Nat.le_refl _) (by simp [maxLen]) rfl
  have hbA : Below w.heap.size w (w.alloc (.cells #[] 115)) := (Below.refl _ _).alloc (Nat.le_refl _) _
  have i1 : ¬ (i : Int) < 0 := by omega
  have i2 : ¬ (i : Int) ≥ (k : Int) := by omega
  have i3 : ¬ (k : Int) ≥ (m : Int) := by omega
  have i4 : IntKind.i64.wrap ((k : Int) - 1) = (k : Int) - 1 := IntWalk.i64_in _ (by omega)
  have i5 : IntKind.i64.wrap ((m : Int) - 1) = (m : Int) - 1 := IntWalk.i64_in _ (by omega)
  obtain ⟨d, hd⟩ : ∃ d, k = i + d + 1 := ⟨k - 1 - i, by omega⟩
  have hd1 : k - 1 - i = d := by omega
  have HT : Hid (turnL i k f = (downL i d ++ [((i : Int), f), ((i : Int), f)]) ++ upL i d) := by unfold turnL; rw [hd1]; rfl
  have hkd : (k : Int) - 1 = (i : Int) + (d : Int) := by omega
  have HK := Lib.hid hd
  clear hd
  go_enter Try.func123, Try.ntmps123
  go_wp2_with (go_at_call 53; refine (within_t (inB_iff.2 ⟨by omega, by omega⟩)).mono ?_; rintro e w' ⟨rfl, rfl⟩)
  (try rw [hkd])
  (try generalize decide ((i : Int) < 0) = b1)
  (try generalize decide ((k : Int) ≤ (i : Int)) = b2)
  (try generalize decide (k ≤ i) = b4)
  (try generalize decide (m ≤ k) = b5)
  (try generalize decide ((m : Int) ≤ (k : Int)) = b3)
  clear i1 i2 i3 i4 i5 hd1 hkd
  have hd6 : d ≤ 6 := by have := HK.out; omega
  go_loopw [10, 11] (fun p a wr => ∃ (e : Nat) (done : List RCross), e ≤ d ∧ a = .int .i64 ((i : Int) + (e : Int)) ∧ Hid (done ++ downL i e = downL i d) ∧ wr.ownsRow w.heap.size 115 2 p done.length (done.flatMap cCross) ∧ done.length + e = d ∧ Below w.heap.size w wr) (fun _ a _ => (intOf a).toNat - i)
  case atStart => exact ⟨d, [], Nat.le_refl _, rfl, rfl, hownA, by simp, hbA⟩
  case round =>
    obtain ⟨e, done, he, rfl, hdn, hown, hle, hb⟩ := hrel
    clear hownA hbA
    have hz := hb.size
    obtain ⟨Ap, cp, rfl, _, _⟩ := (RdS.of_own hown).form
    by_cases h0 : e = 0
    · subst h0
      have hdn' : done = downL i d := by have := hdn.out; rwa [downL, List.append_nil] at this
      have HD := Lib.hid hdn'
      have hdl : done.length ≤ 7 := by omega
      clear hdn hdn' hle
      rw [show (i : Int) + ((0 : Nat) : Int) = (i : Int) from Int.add_zero _]
      go_wp2_with (at_builtin; refine wpList_appendB _ rfl (.tmp 43) (.tmp 50) _ rfl w.heap.size 115 iX _ 2 16 Try.underlying44 hiX hzX0 hzX1 hzX2 rfl (by omega) _ done.length (done.flatMap cCross) rfl (hown.alloc _) _ 2 [.int .i64 i, .bool f, .int .i64 i, .bool f] rfl (rdS_new wr #[.int .i64 i, .bool f, .int .i64 i, .bool f] _ 2 2 rfl (by simp [maxLen])) (by simp [Value.oneCell']) (by simp [maxLen]; omega) (by omega) (by simp; omega) ?_; intro v4 w4 own4 gr4 at4)
      have hb4 := below_own (hown.alloc _) gr4 (by simp; omega)
      have hb5 : Below w.heap.size w w4 := (hb.alloc hz _).trans hb4
      have own5 : w4.ownsRow w.heap.size 115 2 v4 (done ++ [((i : Int), f), ((i : Int), f)]).length ((done ++ [((i : Int), f), ((i : Int), f)]).flatMap cCross) := by rw [List.length_append, List.flatMap_append]; exact own4
      have HL : Hid ((done ++ [((i : Int), f), ((i : Int), f)]).length = done.length + 2) := by show _ = _; rw [List.length_append]; rfl
      obtain ⟨A4, c4, rfl, _, _⟩ := (RdS.of_own own5).form
      have HT2 : Hid (turnL i k f = (done ++ [((i : Int), f), ((i : Int), f)]) ++ upL i d) := by rw [HD.out]; exact HT.out
      generalize done ++ [((i : Int), f), ((i : Int), f)] = dn at *
      have hdn9 : dn.length ≤ 9 := by rw [HL.out]; omega
      clear own4 gr4 at4 hb4 hown HD HL HT
      go_wp2_with fail
      go_loopw [10, 12] (fun p a wr => ∃ e : Nat, e ≤ d ∧ a = .int .i64 ((i : Int) + 1 + (e : Int)) ∧ wr.ownsRow w.heap.size 115 2 p (dn ++ upL i e).length ((dn ++ upL i e).flatMap cCross) ∧ Below w.heap.size w wr) (fun _ a _ => k - (intOf a).toNat)
      case atStart => exact ⟨0, Nat.zero_le _, int_eq (by simp), by rw [show dn ++ upL i 0 = dn from List.append_nil dn]; exact own5, hb5⟩
      case round =>
        obtain ⟨e, he, rfl, hown, hb⟩ := hrel
        clear own5 hb5
        have hz := hb.size
        obtain ⟨Ap, cp, rfl, _, _⟩ := (RdS.of_own hown).form
        have hlu : (dn ++ upL i e).length = dn.length + e := by rw [List.length_append, upL_len]
        have hl16 : (dn ++ upL i e).length ≤ 16 := by omega
        have HS : Hid (dn ++ upL i (e + 1) = (dn ++ upL i e) ++ [(((i + 1 + e : Nat) : Int), true)]) := by show _ = _; rw [upL, ← List.append_assoc, show i + e + 1 = i + 1 + e by omega]
        by_cases hlt : e < d
        · have hlt' : (i : Int) + 1 + (e : Int) < (k : Int) := by have := HK.out; omega
          clear hlu
          obtain ⟨a, ha⟩ : ∃ a, i + 1 + e = a := ⟨_, rfl⟩
          have ha' : (i : Int) + 1 + (e : Int) = (a : Int) := by omega
          rw [ha] at HS
          rw [ha'] at hlt' ⊢
          clear ha'
          have HA := Lib.hid ha
          clear ha
          generalize dn ++ upL i e = du at *
          go_wp2_with (at_builtin; refine wpList_appendB _ rfl (.tmp 59) (.tmp 62) _ rfl w.heap.size 115 iX _ 2 16 Try.underlying44 hiX hzX0 hzX1 hzX2 rfl (by omega) _ du.length (du.flatMap cCross) rfl (hown.alloc _) _ 1 [.int .i64 a, .bool true] rfl (rdS_new wr #[.int .i64 a, .bool true] _ 2 1 rfl (by simp [maxLen])) (by simp [Value.oneCell']) (by simp [maxLen]; omega) (by omega) (by simp; omega) ?_; intro v4 w4 own4 gr4 at4)
          have hb4 := below_own (hown.alloc _) gr4 (by simp; omega)
          clear gr4 at4
          go_wp2_with fail
          go_roundw
          case rel => exact ⟨e + 1, by omega, int_eq (by have := HA.out; omega), by rw [HS.out, List.length_append, List.flatMap_append]; exact own4, (hb.alloc hz _).trans hb4⟩
          case measure => have := HA.out; simp [intOf]; omega
        · obtain rfl : e = d := by omega
          have hlt' : ¬ (i : Int) + 1 + (e : Int) < (k : Int) := by have := HK.out; omega
          clear hlu HS
          generalize dn ++ upL i e = du at *
          go_wp2_with fail
          go_ret2
          rw [HT2.out]
          exact ⟨_, rfl, hown, hb⟩
    · obtain ⟨e, rfl⟩ : ∃ e', e = e' + 1 := ⟨e - 1, by omega⟩
      have hgt : ((i + (e + 1) : Nat) : Int) > (i : Int) := by omega
      have HS : Hid ((done ++ [(((i + (e + 1) : Nat) : Int), false)]) ++ downL i e = downL i d) := by have := hdn.out; rw [downL] at this; rw [List.append_assoc]; exact this
      have hdl : done.length ≤ 7 := by omega
      have HLE := Lib.hid hle
      clear hdn h0 hle
      obtain ⟨a, ha⟩ : ∃ a, i + (e + 1) = a := ⟨_, rfl⟩
      have ha' : (i : Int) + ((e + 1 : Nat) : Int) = (a : Int) := by omega
      rw [ha] at hgt HS
      rw [ha']
      clear ha'
      have HA := Lib.hid ha
      have hw1 : IntKind.i64.wrap ((a : Int) - 1) = (a : Int) - 1 := IntWalk.i64_in _ (by omega)
      clear ha
      go_wp2_with (at_builtin; refine wpList_appendB _ rfl (.tmp 38) (.tmp 41) _ rfl w.heap.size 115 iX _ 2 16 Try.underlying44 hiX hzX0 hzX1 hzX2 rfl (by omega) _ done.length (done.flatMap cCross) rfl (hown.alloc _) _ 1 [.int .i64 a, .bool false] rfl (rdS_new wr #[.int .i64 a, .bool false] _ 2 1 rfl (by simp [maxLen])) (by simp [Value.oneCell']) (by simp [maxLen]; omega) (by omega) (by simp; omega) ?_; intro v4 w4 own4 gr4 at4)
      have hb4 := below_own (hown.alloc _) gr4 (by simp; omega)
      clear gr4 at4
      go_wp2_with fail
      go_roundw
      case rel => exact ⟨e, done ++ [((a : Int), false)], by omega, int_eq (by have := HA.out; omega), HS.out, by rw [List.length_append, List.flatMap_append]; exact own4, by rw [List.length_append]; have := HLE.out; simp; omega, (hb.alloc hz _).trans hb4⟩
      case measure => have := HA.out; simp [intOf]; omega
def RetUnw (ok : Bool) (l : List RCross) (w : World) (e : Ending) (w' : World) : Prop := ∃ v', e = .returned (.tuple #[v', .bool ok]) ∧ w'.ownsRow w.heap.size 115 2 v' l.length (l.flatMap cCross) ∧ Below w.heap.size w w'
def unwV (n : Int) (cs : List RCross) : List RCross := if unwB n cs = true then unwindL n.toNat cs else []
theorem unwB_t {m : Nat} {cs : List RCross} (h1 : crossesB m cs = true) (h2 : orderF m cs = upN m) : unwB m cs = true ∧ unwV m cs = unwindL m cs := by
  have : unwB m cs = true := by unfold unwB; rw [h1]; exact decide_eq_true h2
  exact ⟨this, by unfold unwV; rw [if_pos this]; rfl⟩
theorem unwB_f1 {n : Int} {cs : List RCross} (h : crossesB n cs = false) : unwB n cs = false ∧ unwV n cs = [] := by
  have : unwB n cs = false := by unfold unwB; rw [h]; rfl
  exact ⟨this, by unfold unwV; rw [this]; rfl⟩
theorem unwB_f2 {m : Nat} {cs : List RCross} (h2 : ¬ orderF m cs = upN m) : unwB m cs = false ∧ unwV m cs = [] := by
  have : unwB m cs = false := by unfold unwB; rw [Int.toNat_natCast, decide_eq_false h2, Bool.and_false]
  exact ⟨this, by unfold unwV; rw [this]; rfl⟩
theorem woundPair {ll : List (List Int)} {m k : Nat} (hk : k < (woundTo ll m m).length) : ∃ i j : Nat, (woundTo ll m m)[k] = [(i : Int), (j : Int)] ∧ i < j ∧ j < m := by
  obtain ⟨i, j, e, _, h1, h2, _⟩ := woundTo_mem (List.getElem_mem hk)
  exact ⟨i, j, e, h1, h2⟩
theorem unwR_pair (ll : List (List Int)) (i j : Nat) : unwR ll [(i : Int), (j : Int)] = manyL (turnL i j (decide (cellT ll i j < 0))) (timesT (cellT ll i j)) := rfl
theorem many_len {i j m : Nat} {f : Bool} {q : Nat} (hj : j < m) (hm : m ≤ 7) (hq : q ≤ 20) : (manyL (turnL i j f) q).length ≤ 400 := by
  rw [manyL_len]
  have h1 := turnL_len i j f
  have : q * (turnL i j f).length ≤ 20 * 14 := Nat.mul_le_mul hq (by omega)
  omega
theorem unwTo_len {ll ps : List (List Int)} {m : Nat} (hm : m ≤ 7) (hps : ∀ r ∈ ps, ∃ i j : Nat, r = [(i : Int), (j : Int)] ∧ i < j ∧ j < m) (hbd : ∀ i j, -40 ≤ cellT ll i j ∧ cellT ll i j ≤ 40) : (unwTo ll ps).length ≤ ps.length * 400 := by
  induction ps with
  | nil => simp [unwTo]
  | cons r ps ih =>
    unfold unwTo at ih ⊢
    rw [List.flatMap_cons, List.length_append, List.length_cons, Nat.add_mul]
    have h1 := ih (fun x hx => hps x (List.mem_cons_of_mem _ hx))
    obtain ⟨i, j, rfl, hij, hj⟩ := hps r List.mem_cons_self
    have hb := hbd i j
    have h2 : (unwR ll [(i : Int), (j : Int)]).length ≤ 400 := by rw [unwR_pair]; exact many_len hj hm (by unfold timesT; omega)
    omega
theorem wound_mem {ll : List (List Int)} {m : Nat} : ∀ r ∈ woundTo ll m m, ∃ i j : Nat, r = [(i : Int), (j : Int)] ∧ i < j ∧ j < m := fun r hr => by
  obtain ⟨i, j, e, _, h1, h2, _⟩ := woundTo_mem hr
  exact ⟨i, j, e, h1, h2⟩
theorem twL_40 {m : Nat} {cs : List RCross} (h : ∀ c ∈ cs, 0 ≤ c.1 ∧ c.1 ≤ (m : Int) - 2) (hl : cs.length ≤ 40) (i j : Nat) : -40 ≤ cellT (twL m cs) i j ∧ cellT (twL m cs) i j ≤ 40 := by
  have := twL_bd h cs.length (Nat.le_refl _) i j
  rw [List.take_length] at this
  omega
theorem unwV_len (n : Int) (cs : List RCross) : (unwV n cs).length ≤ 100000 := by
  unfold unwV
  split
  · rename_i h
    unfold unwB at h
    rw [Bool.and_eq_true] at h
    obtain ⟨hn, hlen, hcs⟩ := crosses_len h.1
    obtain ⟨m, rfl⟩ := Int.eq_ofNat_of_zero_le (show 0 ≤ n by omega)
    have h1 := unwTo_len (ll := twL m cs) (ps := woundL m cs) (m := m) (by omega) wound_mem (twL_40 hcs (by omega))
    have h2 := woundTo_len (twL m cs) m m
    have h3 : m * m ≤ 7 * 7 := Nat.mul_le_mul (by omega) (by omega)
    have h4 : (woundL m cs).length * 400 ≤ 49 * 400 := Nat.mul_le_mul_right _ (by unfold woundL; omega)
    show (unwTo (twL m cs) (woundL m cs)).length ≤ 100000
    omega
  · simp
theorem many_snoc (l : List RCross) (q : Nat) : manyL l (q + 1) = manyL l q ++ l := rfl
/-- rows that lie apart from what grows -/
theorem rows_grow {w W w' : World} {S : List Nat} {v p p' : Value} {ll : List (List Int)} (h : OwRows 28 3 w S v ll) (hb : Below w.heap.size w W) (hS : ∀ b ∈ S, b < w.heap.size) (hap : ∀ b ∈ S, b ∉ p.ownBlock.toList) (gr : W.grownBy w' p.ownBlock) (hat : p'.ownBlock = p.ownBlock ∨ p'.ownBlock = some W.heap.size) :
    OwRows 28 3 w' S v ll ∧ ∀ b ∈ S, b ∉ p'.ownBlock.toList := by
  refine ⟨(h.below hb).chg (Chg.of_grown gr) hap, fun b hb1 hb2 => ?_⟩
  rcases hat with e | e
  · rw [e] at hb2; exact hap b hb1 hb2
  · rw [e] at hb2
    have h1 := hS b hb1
    have h2 := hb.size
    simp at hb2
    omega
/-- a pair of a list of pairs of the call's own -/
theorem OwRows.pairAt {w : World} {S : List Nat} {v : Value} {ll : List (List Int)} (h : OwRows 28 3 w S v ll) (hS : S.Nodup) {k : Nat} (hk : k < ll.length) {x y : Int} (hp : ll[k] = [x, y]) :
    ∃ go co g c, v = .slice (some ⟨go, 0, none⟩) ll.length co ∧ w.cell? ⟨go, k, none⟩ = some (.slice (some ⟨g, 0, none⟩) 2 c) ∧ w.cell? ⟨g, 0, none⟩ = some (.int .i64 x) ∧ w.cell? ⟨g, 1, none⟩ = some (.int .i64 y) ∧ g ∈ S := by
  have hl : (ll[k]).length = 2 := by rw [hp]; rfl
  obtain ⟨go, co, g, c, e, c1, c2, _, _, n2, _, _⟩ := h.pick hS hk (b := 0) (by omega)
  obtain ⟨go', co', g', c', e', d1, d2, _, _, _, _, _⟩ := h.pick hS hk (b := 1) (by omega)
  rw [e] at e'
  injection e' with e1 _ e3
  injection e1 with e1
  injection e1 with e1
  subst e1
  rw [c1] at d1
  simp only [Option.some.injEq] at d1
  injection d1 with d1 _ d3
  injection d1 with d1
  injection d1 with d1
  subst d1
  refine ⟨go, co, g, c, e, by rw [c1, hl], ?_, ?_, n2⟩
  · rw [c2]; simp [hp]
  · rw [d2]; simp [hp]
theorem size_any (t : Int) (w : World) (ht : -40 ≤ t ∧ t ≤ 40) :
    Calls Try.prog 122 #[.int .i64 t] w fun e w' => e = .returned (.int .i64 (t.natAbs : Nat)) ∧ w = w' := by
  have hw : IntKind.i64.wrap (-t) = -t := IntWalk.i64_in _ (by omega)
  by_cases h : t < -t
  · have e1 : ((t.natAbs : Nat) : Int) = -t := by omega
    rw [e1]
    go_enter Try.func122, Try.ntmps122
    go_wp2_with fail
    go_ret
    exact ⟨by simp <;> omega, rfl⟩
  · have e1 : ((t.natAbs : Nat) : Int) = t := by omega
    rw [e1]
    go_enter Try.func122, Try.ntmps122
    go_wp2_with fail
    go_ret
    exact ⟨by simp <;> omega, rfl⟩
theorem act70ua {a : Act} (h : a.tmps.size = 70) (hd : a.defers = []) : ∃ x0 x1 x2 x3 x4 x5 x6 x7 x8 x9 x10 x11 x12 x13 x14 x15 x16 x17 x18 x19 x20 x21 x22 x23 x24 x25 x26 x27 x28 x29 x30 x31 x32 x33 x34 x35 x36 x37 x38 x39 x40 x41 x42 x43 x44 x45 x46 x47 x48 x49 x50 x51 x52 x53 x54 x55 x56 x57 x58 x59 x60 x61 x62 x63 x64 x65 x66 x67 x68 x69 : Value, a = ⟨#[x0, x1, x2, x3, x4, x5, x6, x7, x8, x9, x10, x11, x12, x13, x14, x15, x16, x17, x18, x19, x20, x21, x22, x23, x24, x25, x26, x27, x28, x29, x30, x31, x32, x33, x34, x35, x36, x37, x38, x39, x40, x41, x42, x43, x44, x45, x46, x47, x48, x49, x50, x51, x52, x53, x54, x55, x56, x57, x58, x59, x60, x61, x62, x63, x64, x65, x66, x67, x68, x69], []⟩ := by
  obtain ⟨⟨l⟩, d⟩ := a
  subst hd
  match l, h with
  | x0 :: x1 :: x2 :: x3 :: x4 :: x5 :: x6 :: x7 :: x8 :: x9 :: x10 :: x11 :: x12 :: x13 :: x14 :: x15 :: x16 :: x17 :: x18 :: x19 :: x20 :: x21 :: x22 :: x23 :: x24 :: x25 :: x26 :: x27 :: x28 :: x29 :: x30 :: x31 :: x32 :: x33 :: x34 :: x35 :: x36 :: x37 :: x38 :: x39 :: x40 :: x41 :: x42 :: x43 :: x44 :: x45 :: x46 :: x47 :: x48 :: x49 :: x50 :: x51 :: x52 :: x53 :: x54 :: x55 :: x56 :: x57 :: x58 :: x59 :: x60 :: x61 :: x62 :: x63 :: x64 :: x65 :: x66 :: x67 :: x68 :: x69 :: [], _ => exact ⟨x0, x1, x2, x3, x4, x5, x6, x7, x8, x9, x10, x11, x12, x13, x14, x15, x16, x17, x18, x19, x20, x21, x22, x23, x24, x25, x26, x27, x28, x29, x30, x31, x32, x33, x34, x35, x36, x37, x38, x39, x40, x41, x42, x43, x44, x45, x46, x47, x48, x49, x50, x51, x52, x53, x54, x55, x56, x57, x58, x59, x60, x61, x62, x63, x64, x65, x66, x67, x68, x69, rfl⟩
def pua (B m p q : Nat) (g cg n : Nat) (t : Int) (f : Bool) (xs : List Value) (i : Nat) (v : Value) (_ : Nat → Nat) (w : World) : Prop :=
  match i with
  | 0 => v = .int .i64 m
  | 1 => v = .slice (some ⟨g, 0, none⟩) 2 cg
  | 2 => v = .pointer (some ⟨g, 0, none⟩)
  | 3 => v = .int .i64 p
  | 4 => v = .slice (some ⟨g, 0, none⟩) 2 cg
  | 5 => v = .pointer (some ⟨g, 1, none⟩)
  | 6 => v = .int .i64 q
  | 7 => v = .int .i64 t
  | 8 => v = .bool f
  | 9 => ∃ A c, v = .tuple #[.slice A n c, .bool true] ∧ w.ownsRow B 115 2 (.slice A n c) n xs
  | 10 => ∃ A c, v = .tuple #[.slice A n c, .bool true] ∧ w.ownsRow B 115 2 (.slice A n c) n xs
  | 11 => ∃ A c, v = .slice A n c ∧ w.ownsRow B 115 2 (.slice A n c) n xs
  | 12 => v = .bool true
  | 13 => ∃ A c, v = .slice A n c ∧ w.ownsRow B 115 2 (.slice A n c) n xs
  | _ => True
set_option maxHeartbeats 8000000 in
set_option maxRecDepth 100000 in
theorem implUnwindAll_any (n : Int) (v : Value) (cs : List RCross) (w : World) (h : RdL cCross 2 w v cs) :
    Calls Try.prog 72 #[.int .i64 n, v] w (RetUnw (unwB n cs) (unwV n cs) w) := by
  have h0 := h
  obtain ⟨A, c, rfl, h1, h2⟩ := h.form
  obtain ⟨iX, hiX, hzX0, hzX1, hzX2⟩ := info_parts infoCross
  go_enter Try.func72, Try.ntmps72
  go_wp2_with fail
  refine twoB (implCrossesOk_any n _ cs _ h0) (fun w1 hq hb1 => ?_) (fun w1 hq hb1 => ?_)
  · obtain ⟨hn, hlen, hcs⟩ := crosses_len hq.out
    obtain ⟨m, rfl⟩ := Int.eq_ofNat_of_zero_le (show 0 ≤ n by omega)
    have hm : 1 ≤ m ∧ m ≤ 7 := by omega
    have hz1 := hb1.size
    have hrd1 := h0.below hb1
    have HSQ := Lib.hid (twL_sq hcs)
    have HBD := Lib.hid (twL_40 hcs (by omega))
    clear hcs hn
    go_wp2_with fail
    refine twoB (implIsHome_any m _ cs w1 hrd1 hq.out) (fun w2 hh hb2 => ?_) (fun w2 hh hb2 => ?_)
    · have HU := Lib.hid (unwB_t hq.out (of_decide_eq_true hh.out))
      have hz2 := hb2.size
      have hrd2 := hrd1.below hb2
      go_wp2_with fail
      refine (implTwists_any m _ cs w2 hrd2 hq.out).mono ?_
      rintro e w3 ⟨vt, rfl, hxt, hb3⟩
      have hz3 := hb3.size
      have ht3 := hxt.rd
      obtain ⟨At, ct, rfl, _, _⟩ := ht3.form
      rw [HSQ.out.len] at ht3
      (try rw [HSQ.out.len])
      have hrd3 := (hrd2.below hb3).below ((Below.refl _ _).alloc (Nat.le_refl _) (.cells #[] 115))
      have hb03 : Below w.heap.size w w3 := bl_trans (bl_trans hb1 hb2) hb3
      have hz03 := hb03.size
      have hownA := World.ownsRow_made (size := 2) (e := 115) w3 #[] 0 (Nat.le_refl _) (by simp [maxLen]) rfl
      clear hxt hrd2 hrd1 hb1 hb2 hb3
      go_wp2_with fail
      refine (implWound_any m _ cs _ hrd3 hq.out).mono ?_
      rintro e w4 ⟨vp, rfl, ⟨Sp, hp, hfp, _⟩, hb4⟩
      have hz4 := hb4.size
      simp at hz4
      obtain ⟨Ap, cp, rfl, _, _⟩ := hp.rd.form
      have hown4 := own_below hownA hb4
      have hb34 : Below w3.heap.size w3 w4 := Below.trans ((Below.refl _ _).alloc (Nat.le_refl _) _) (hb4.mono (by simp))
      have hap4 : Hid (∀ b ∈ Sp, b ∉ (Value.slice (some ⟨w3.heap.size, 0, none⟩) 0 0).ownBlock.toList) := fun b hb hb' => by
        have := (hfp.2 b hb).1
        simp [Value.ownBlock] at this hb'
        omega
      have hSn := hfp.1
      have hSp : ∀ b ∈ Sp, b < w4.heap.size := fun b hb => (hfp.2 b hb).2
      have HPm : Hid (∀ k (hk : k < (woundL m cs).length), ∃ i j : Nat, (woundL m cs)[k] = [(i : Int), (j : Int)] ∧ i < j ∧ j < m) := fun k hk => woundPair hk
      have HPl : Hid (∀ k, (unwTo (twL m cs) ((woundL m cs).take k)).length ≤ 49 * 400) := fun k => by
        have e1 := unwTo_len (ll := twL m cs) (ps := (woundL m cs).take k) hm.2 (fun r hr => wound_mem r (List.mem_of_mem_take hr)) HBD.out
        have h2 := woundTo_len (twL m cs) m m
        have h3 : m * m ≤ 7 * 7 := Nat.mul_le_mul (by omega) (by omega)
        have h4 : ((woundL m cs).take k).length ≤ 49 := by rw [List.length_take]; unfold woundL; omega
        have h5 := Nat.mul_le_mul_right 400 h4
        omega
      have HUL : Hid (unwindL m cs = unwTo (twL m cs) (woundL m cs)) := rfl
      have hlp : (woundL m cs).length ≤ 49 := by
        have h2 := woundTo_len (twL m cs) m m
        have h3 : m * m ≤ 7 * 7 := Nat.mul_le_mul (by omega) (by omega)
        unfold woundL; omega
      clear hownA hfp hb4 hrd3
      generalize woundL m cs = ps at *
      generalize twL m cs = tw at *
      go_wp2_with fail
      go_loopw [7, 9, 10, 11, 12, 31, 49] (fun p _ _ _ _ i _ wr => ∃ k : Nat, k ≤ ps.length ∧ i = .int .i64 k ∧ wr.ownsRow w3.heap.size 115 2 p (unwTo tw (ps.take k)).length ((unwTo tw (ps.take k)).flatMap cCross) ∧ OwRows 28 3 wr Sp (.slice Ap ps.length cp) ps ∧ Hid (∀ b ∈ Sp, b ∉ p.ownBlock.toList) ∧ w4.heap.size ≤ wr.heap.size ∧ Below w3.heap.size w3 wr) (fun _ _ _ _ _ i _ _ => ps.length - (intOf i).toNat)
      case atStart => exact ⟨0, Nat.zero_le _, rfl, hown4, hp, hap4, Nat.le_refl _, hb34⟩
      case round =>
        obtain ⟨k, hk, rfl, hown, hp, hap, hzw, hb⟩ := hrel
        clear hown4 hap4 hb34
        obtain ⟨Ao, co, rfl, _, _⟩ := (RdS.of_own hown).form
        by_cases hlt : k < ps.length
        · obtain ⟨i, j, hpk, hij, hjm⟩ := HPm.out k hlt
          have HSN := Lib.hid (unwTo_snoc tw ps hlt)
          have HPK := Lib.hid hpk
          obtain ⟨go, cop, g, cg, e, c1, c2, c3, hgS⟩ := hp.pairAt hSn hlt hpk
          injection e with e1 _ e3
          subst e1 e3
          obtain ⟨gt, ot, cot, gr, offr, cr, e, d1, d2⟩ := (ht3.below hb).cellT HSQ.out (show i < m by omega) hjm
          injection e with e1 _ e3
          subst e1 e3
          clear hpk
          have HTT : Hid (unwR tw ps[k] = manyL (turnL i j (decide (cellT tw i j < 0))) (timesT (cellT tw i j))) := by show _ = _; rw [HPK.out, unwR_pair]
          rw [HTT.out] at HSN
          clear HTT HPK
          have htb := HBD.out i j
          generalize cellT tw i j = t at *
          have hi0 : (i : Int) < (m : Int) := by omega
          have hj0 : (j : Int) < (m : Int) := by omega
          go_wp2_with fail
          go_quiet (fail)
          rename_i nq
          have hdr := below_drewN (Below.refl wr.heap.size wr) nq
          have hownW := own_below hown hdr
          have hpW := hp.below hdr
          have hbW := below_drewN hb nq
          have hzW : w4.heap.size ≤ (wr.drewN nq).heap.size := by simp; omega
          have hc2 := carry hdr c2
          have hc3 := carry hdr c3
          have hl0 := HPl.out k
          obtain ⟨dn1, hd1⟩ : ∃ dn1, unwTo tw (ps.take (k + 1)) = dn1 := ⟨_, rfl⟩
          rw [hd1] at HSN
          have HD1 := Lib.hid hd1
          obtain ⟨N, hN⟩ : ∃ N, t.natAbs = N := ⟨_, rfl⟩
          have hSz := size_any t (wr.drewN nq) htb
          rw [timesT, hN] at HSN
          rw [hN] at hSz
          have hN40 : N ≤ 40 := by omega
          clear c1 c2 c3 d1 d2 hown hp hb hzw hN hdr hd1
          generalize wr.drewN nq = W1 at *
          generalize unwTo tw (ps.take k) = d0 at *
          go_wp2_with (go_at_call 122; refine hSz.mono ?_; rintro e w' ⟨rfl, rfl⟩)
          obtain ⟨T, hT⟩ : ∃ T, N / 2 = T := ⟨_, rfl⟩
          have hT2 : (N : Int) / 2 = (T : Int) := by omega
          rw [hT] at HSN
          rw [hT2]
          have hT20 : T ≤ 20 := by omega
          have HML : Hid (∀ a, a ≤ T → (manyL (turnL i j (decide (t < 0))) a).length ≤ 400) := fun a ha => many_len hjm hm.2 (by omega)
          have hTL : (turnL i j (decide (t < 0))).length ≤ 16 := by have := turnL_len i j (decide (t < 0)); omega
          have HTu : Hid (∀ w, Calls Try.prog 123 #[.int .i64 m, .int .i64 i, .int .i64 j, .bool (decide (t < 0))] w fun e w' => ∃ v', e = .returned (.tuple #[v', .bool true]) ∧ w'.ownsRow w.heap.size 115 2 v' (turnL i j (decide (t < 0))).length ((turnL i j (decide (t < 0))).flatMap cCross) ∧ Below w.heap.size w w') := fun w => implTurn_any m i j (decide (t < 0)) w hij hjm hm.2
          generalize turnL i j (decide (t < 0)) = TL at *
          have hd00 : W1.ownsRow w3.heap.size 115 2 (.slice Ao d0.length co) (d0 ++ manyL TL 0).length ((d0 ++ manyL TL 0).flatMap cCross) := by rw [show d0 ++ manyL TL 0 = d0 from List.append_nil d0]; exact hownW
          clear hSz hT hT2 hN40 hownW
          go_loopw [7, 11, 12, 49] (fun p _ _ q wr => ∃ a : Nat, a ≤ T ∧ q = .int .i64 a ∧ wr.ownsRow w3.heap.size 115 2 p (d0 ++ manyL TL a).length ((d0 ++ manyL TL a).flatMap cCross) ∧ OwRows 28 3 wr Sp (.slice (some ⟨go, 0, none⟩) ps.length cp) ps ∧ Hid (∀ b ∈ Sp, b ∉ p.ownBlock.toList) ∧ w4.heap.size ≤ wr.heap.size ∧ wr.cell? ⟨g, 0, none⟩ = some (.int .i64 i) ∧ wr.cell? ⟨g, 1, none⟩ = some (.int .i64 j) ∧ Below w3.heap.size w3 wr) (fun _ _ _ q _ => T - (intOf q).toNat)
          case atStart => exact ⟨0, Nat.zero_le _, rfl, hd00, hpW, hap, hzW, hc2, hc3, hbW⟩
          case round =>
            obtain ⟨a, ha, rfl, hown, hp, hap, hzw, c2, c3, hb⟩ := hrel
            clear hd00 hpW hzW hc2 hc3 hbW
            have hml := HML.out a ha
            obtain ⟨Ao, co, rfl, _, _⟩ := (RdS.of_own hown).form
            by_cases hlt2 : a < T
            · have HS2 : Hid (d0 ++ manyL TL (a + 1) = (d0 ++ manyL TL a) ++ TL) := by show _ = _; rw [many_snoc, List.append_assoc]
              have hda : (d0 ++ manyL TL a).length ≤ 20000 := by rw [List.length_append]; omega
              generalize d0 ++ manyL TL a = da at *
              go_upto_region 10 with (fail)
              refine region_made (n := 70) 14 (by kernel_rfl) rfl (by kernel_rfl) (fun w' => Below wr.heap.size wr w') (fun _ => 0) (pua wr.heap.size m i j g cg TL.length t (decide (t < 0)) (TL.flatMap cCross)) (Below.refl _ _).drew ?_ ?_ ?_
              · intro i v gh gh' w1 w2 hp hJ hb' hg
                match i, hp with
                | 0, hp => exact hp
                | 1, hp => exact hp
                | 2, hp => exact hp
                | 3, hp => exact hp
                | 4, hp => exact hp
                | 5, hp => exact hp
                | 6, hp => exact hp
                | 7, hp => exact hp
                | 8, hp => exact hp
                | 9, ⟨A', c', hv, ho⟩ => exact ⟨A', c', hv, own_below ho hb'⟩
                | 10, ⟨A', c', hv, ho⟩ => exact ⟨A', c', hv, own_below ho hb'⟩
                | 11, ⟨A', c', hv, ho⟩ => exact ⟨A', c', hv, own_below ho hb'⟩
                | 12, hp => exact hp
                | 13, ⟨A', c', hv, ho⟩ => exact ⟨A', c', hv, own_below ho hb'⟩
                | _ + 14, _ => trivial
              · refine ⟨?_, ?_, ?_, ?_, ?_, ?_, ?_, ?_, ?_, ?_, ?_, ?_, ?_, ?_, trivial⟩
                all_goals
                  intro a gh w5 hag hJ hd
                  have ag0 : a.tmps.getD 0 undef = .int .i64 m := hag.kept 0 (by kernel_rfl)
                  have ag9 : a.tmps.getD 9 undef = .slice (some ⟨g, 0, none⟩) 2 cg := hag.kept 9 (by kernel_rfl)
                  have ag10 : a.tmps.getD 10 undef = .int .i64 t := hag.kept 10 (by kernel_rfl)
                  clear hag
                · go_wp2_with fail
                  exact ⟨rfl, _, rfl, rfl, hJ, Below.refl _ _⟩
                · go_wp2_with fail
                  exact ⟨rfl, _, rfl, rfl, hJ, Below.refl _ _⟩
                · have e0 : a.tmps.getD 53 undef = .slice (some ⟨g, 0, none⟩) 2 cg := hd 1 (by kernel_rfl) _ rfl
                  go_wp2_with fail
                  exact ⟨rfl, _, rfl, rfl, hJ, Below.refl _ _⟩
                · have e0 : a.tmps.getD 54 undef = .pointer (some ⟨g, 0, none⟩) := hd 2 (by kernel_rfl) _ rfl
                  have k0 := carry hJ c2
                  go_wp2_with fail
                  exact ⟨rfl, _, rfl, rfl, hJ, Below.refl _ _⟩
                · go_wp2_with fail
                  exact ⟨rfl, _, rfl, rfl, hJ, Below.refl _ _⟩
                · have e0 : a.tmps.getD 56 undef = .slice (some ⟨g, 0, none⟩) 2 cg := hd 4 (by kernel_rfl) _ rfl
                  go_wp2_with fail
                  exact ⟨rfl, _, rfl, rfl, hJ, Below.refl _ _⟩
                · have e0 : a.tmps.getD 57 undef = .pointer (some ⟨g, 1, none⟩) := hd 5 (by kernel_rfl) _ rfl
                  have k0 := carry hJ c3
                  go_wp2_with fail
                  exact ⟨rfl, _, rfl, rfl, hJ, Below.refl _ _⟩
                · go_wp2_with fail
                  exact ⟨rfl, _, rfl, rfl, hJ, Below.refl _ _⟩
                · have e0 : a.tmps.getD 59 undef = .int .i64 t := hd 7 (by kernel_rfl) _ rfl
                  go_wp2_with fail
                  exact ⟨rfl, _, rfl, rfl, hJ, Below.refl _ _⟩
                · have e0 : a.tmps.getD 52 undef = .int .i64 m := hd 0 (by kernel_rfl) _ rfl
                  have e1 : a.tmps.getD 55 undef = .int .i64 i := hd 3 (by kernel_rfl) _ rfl
                  have e2 : a.tmps.getD 58 undef = .int .i64 j := hd 6 (by kernel_rfl) _ rfl
                  have e3 : a.tmps.getD 60 undef = .bool (decide (t < 0)) := hd 8 (by kernel_rfl) _ rfl
                  go_wp2_with fail
                  refine (HTu.out _).mono ?_
                  rintro e w6 ⟨v5, rfl, own5, hb5⟩
                  obtain ⟨A5, c5, rfl, _, _⟩ := (RdS.of_own own5).form
                  go_wp2_with fail
                  exact ⟨rfl, _, rfl, ⟨A5, c5, rfl, own_mono own5 hJ.size⟩, bl_trans hJ hb5, hb5⟩
                · obtain ⟨A', c', e0, ho⟩ : ∃ A c, a.tmps.getD 61 undef = .tuple #[.slice A TL.length c, .bool true] ∧ w5.ownsRow wr.heap.size 115 2 (.slice A TL.length c) TL.length (TL.flatMap cCross) := hd 9 (by kernel_rfl) _ rfl
                  go_wp2_with fail
                  exact ⟨rfl, _, rfl, ⟨A', c', rfl, ho⟩, hJ, Below.refl _ _⟩
                · obtain ⟨A', c', e0, ho⟩ : ∃ A c, a.tmps.getD 51 undef = .tuple #[.slice A TL.length c, .bool true] ∧ w5.ownsRow wr.heap.size 115 2 (.slice A TL.length c) TL.length (TL.flatMap cCross) := hd 10 (by kernel_rfl) _ rfl
                  go_wp2_with fail
                  exact ⟨rfl, _, rfl, ⟨A', c', rfl, ho⟩, hJ, Below.refl _ _⟩
                · obtain ⟨A', c', e0, ho⟩ : ∃ A c, a.tmps.getD 51 undef = .tuple #[.slice A TL.length c, .bool true] ∧ w5.ownsRow wr.heap.size 115 2 (.slice A TL.length c) TL.length (TL.flatMap cCross) := hd 10 (by kernel_rfl) _ rfl
                  go_wp2_with fail
                  exact ⟨rfl, _, rfl, rfl, hJ, Below.refl _ _⟩
                · obtain ⟨A', c', e0, ho⟩ : ∃ A c, a.tmps.getD 62 undef = .slice A TL.length c ∧ w5.ownsRow wr.heap.size 115 2 (.slice A TL.length c) TL.length (TL.flatMap cCross) := hd 11 (by kernel_rfl) _ rfl
                  go_wp2_with fail
                  exact ⟨rfl, _, rfl, ⟨A', c', rfl, ho⟩, hJ, Below.refl _ _⟩
              · intro a gh w5 hag hJ hd
                obtain ⟨x0, x1, x2, x3, x4, x5, x6, x7, x8, x9, x10, x11, x12, x13, x14, x15, x16, x17, x18, x19, x20, x21, x22, x23, x24, x25, x26, x27, x28, x29, x30, x31, x32, x33, x34, x35, x36, x37, x38, x39, x40, x41, x42, x43, x44, x45, x46, x47, x48, x49, x50, x51, x52, x53, x54, x55, x56, x57, x58, x59, x60, x61, x62, x63, x64, x65, x66, x67, x68, x69, rfl⟩ := act70ua hag.size hag.defers
                have ag0 : x0 = .int .i64 m := hag.kept 0 (by kernel_rfl)
                have ag1 : x1 = .slice A cs.length c := hag.kept 1 (by kernel_rfl)
                have ag2 : x2 = undef := hag.kept 2 (by kernel_rfl)
                have ag3 : x3 = undef := hag.kept 3 (by kernel_rfl)
                have ag4 : x4 = .slice none 0 0 := hag.kept 4 (by kernel_rfl)
                have ag5 : x5 = .bool false := hag.kept 5 (by kernel_rfl)
                have ag6 : x6 = .slice (some ⟨gt, ot, none⟩) m ct := hag.kept 6 (by kernel_rfl)
                have ag7 : x7 = .slice Ao da.length co := hag.kept 7 (by kernel_rfl)
                have ag8 : x8 = undef := hag.kept 8 (by kernel_rfl)
                have ag9 : x9 = .slice (some ⟨g, 0, none⟩) 2 cg := hag.kept 9 (by kernel_rfl)
                have ag10 : x10 = .int .i64 t := hag.kept 10 (by kernel_rfl)
                have ag13 : x13 = .int .i64 m := hag.kept 13 (by kernel_rfl)
                have ag14 : x14 = .slice A cs.length c := hag.kept 14 (by kernel_rfl)
                have ag15 : x15 = .bool true := hag.kept 15 (by kernel_rfl)
                have ag16 : x16 = .bool false := hag.kept 16 (by kernel_rfl)
                have ag17 : x17 = .bool false := hag.kept 17 (by kernel_rfl)
                have ag18 : x18 = .int .i64 m := hag.kept 18 (by kernel_rfl)
                have ag19 : x19 = .slice A cs.length c := hag.kept 19 (by kernel_rfl)
                have ag20 : x20 = .bool true := hag.kept 20 (by kernel_rfl)
                have ag21 : x21 = .bool false := hag.kept 21 (by kernel_rfl)
                have ag22 : x22 = .bool false := hag.kept 22 (by kernel_rfl)
                have ag23 : x23 = .int .i64 m := hag.kept 23 (by kernel_rfl)
                have ag24 : x24 = .slice A cs.length c := hag.kept 24 (by kernel_rfl)
                have ag25 : x25 = .slice (some ⟨gt, ot, none⟩) m ct := hag.kept 25 (by kernel_rfl)
                have ag26 : x26 = .slice (some ⟨w3.heap.size, 0, none⟩) 0 0 := hag.kept 26 (by kernel_rfl)
                have ag27 : x27 = .int .i64 m := hag.kept 27 (by kernel_rfl)
                have ag28 : x28 = .slice A cs.length c := hag.kept 28 (by kernel_rfl)
                have ag29 : x29 = .slice (some ⟨go, 0, none⟩) ps.length cp := hag.kept 29 (by kernel_rfl)
                have ag30 : x30 = .int .i64 ps.length := hag.kept 30 (by kernel_rfl)
                have ag31 : x31 = .int .i64 k := hag.kept 31 (by kernel_rfl)
                have ag32 : x32 = .bool true := hag.kept 32 (by kernel_rfl)
                have ag33 : x33 = .pointer (some ⟨go, k, none⟩) := hag.kept 33 (by kernel_rfl)
                have ag34 : x34 = .slice (some ⟨g, 0, none⟩) 2 cg := hag.kept 34 (by kernel_rfl)
                have ag35 : x35 = .slice (some ⟨gt, ot, none⟩) m ct := hag.kept 35 (by kernel_rfl)
                have ag36 : x36 = .slice (some ⟨g, 0, none⟩) 2 cg := hag.kept 36 (by kernel_rfl)
                have ag37 : x37 = .pointer (some ⟨g, 0, none⟩) := hag.kept 37 (by kernel_rfl)
                have ag38 : x38 = .int .i64 i := hag.kept 38 (by kernel_rfl)
                have ag39 : x39 = .pointer (some ⟨gt, ot + i, none⟩) := hag.kept 39 (by kernel_rfl)
                have ag40 : x40 = .slice (some ⟨gr, offr, none⟩) m cr := hag.kept 40 (by kernel_rfl)
                have ag41 : x41 = .slice (some ⟨g, 0, none⟩) 2 cg := hag.kept 41 (by kernel_rfl)
                have ag42 : x42 = .pointer (some ⟨g, 1, none⟩) := hag.kept 42 (by kernel_rfl)
                have ag43 : x43 = .int .i64 j := hag.kept 43 (by kernel_rfl)
                have ag44 : x44 = .pointer (some ⟨gr, offr + j, none⟩) := hag.kept 44 (by kernel_rfl)
                have ag45 : x45 = .int .i64 t := hag.kept 45 (by kernel_rfl)
                have ag46 : x46 = .int .i64 t := hag.kept 46 (by kernel_rfl)
                have ag47 : x47 = .int .i64 N := hag.kept 47 (by kernel_rfl)
                have ag48 : x48 = .int .i64 T := hag.kept 48 (by kernel_rfl)
                have ag49 : x49 = .int .i64 a := hag.kept 49 (by kernel_rfl)
                have ag50 : x50 = .bool true := hag.kept 50 (by kernel_rfl)
                have ag68 : x68 = u68 := hag.kept 68 (by kernel_rfl)
                have ag69 : x69 = undef := hag.kept 69 (by kernel_rfl)
                clear hag
                subst ag0 ag1 ag2 ag3 ag4 ag5 ag6 ag7 ag8 ag9 ag10 ag13 ag14 ag15 ag16 ag17 ag18 ag19 ag20 ag21 ag22 ag23 ag24 ag25 ag26 ag27 ag28 ag29 ag30 ag31 ag32 ag33 ag34 ag35 ag36 ag37 ag38 ag39 ag40 ag41 ag42 ag43 ag44 ag45 ag46 ag47 ag48 ag49 ag50 ag68 ag69
                obtain ⟨A5, c5, e0, own5⟩ : ∃ A c, x11 = .slice A TL.length c ∧ w5.ownsRow wr.heap.size 115 2 (.slice A TL.length c) TL.length (TL.flatMap cCross) := hd 13 (by kernel_rfl) _ rfl
                have e2 : x63 = .bool true := hd 12 (by kernel_rfl) _ rfl
                subst e0 e2
                change wpList _ _ _ [_] _ _
                have hb5' : Below wr.heap.size wr w5 := hJ
                have hown5 := own_below hown hb5'
                have hz5 := hb5'.size
                have hz3' := hb.size
                have c2' := carry hb5' c2
                have c3' := carry hb5' c3
                have hbw5 : Below w3.heap.size w3 w5 := bl_trans hb hb5'
                clear c2 c3
                go_wp2_with (at_builtin; refine wpList_appendB _ rfl (.tmp 64) (.tmp 65) _ rfl w3.heap.size 115 iX _ 2 16 Try.underlying44 hiX hzX0 hzX1 hzX2 rfl (by omega) _ da.length (da.flatMap cCross) rfl hown5 _ TL.length (TL.flatMap cCross) rfl (RdS.of_own own5) (oneCell_flat cCross_one TL) (by simp [maxLen]; omega) (by omega) (by omega) ?_; intro v6 w6 own6 gr6 at6)
                have hch := Chg.of_grown gr6
                obtain ⟨hp6, hap6⟩ := rows_grow hp hb5' (fun b hb => by have := hSp b hb; omega) hap.out gr6 at6
                have hz6 := gr6.size
                have c2'' := carryChg hch c2' (hap.out g hgS)
                have c3'' := carryChg hch c3' (hap.out g hgS)
                have hb6 : Below w3.heap.size w3 w6 := hbw5.trans (below_own hown5 gr6 (by omega))
                have HAP := Lib.hid hap6
                obtain ⟨A6, c6, rfl, _, _⟩ := (RdS.of_own own6).form
                clear gr6 at6 hch hap6 hown5 own5 hb5' hJ hd
                go_wp2_with fail
                go_roundw
                case rel => exact ⟨a + 1, by omega, by go_num, by rw [HS2.out, List.length_append, List.flatMap_append]; exact own6, hp6, HAP.out, by omega, c2'', c3'', hb6⟩
                case measure => simp [intOf]; omega
            · obtain rfl : a = T := by omega
              rw [← HSN.out] at hown hap ⊢
              go_wp2_with fail
              go_roundw
              case rel => exact ⟨k + 1, by omega, by go_num, by rw [HD1.out]; exact hown, hp, hap, hzw, hb⟩
              case measure => simp [intOf]; omega
        · obtain rfl : k = ps.length := by omega
          rw [List.take_length] at hown ⊢
          go_wp2_with fail
          go_ret2
          rw [HU.out.1, HU.out.2, HUL.out]
          exact ⟨_, rfl, own_mono hown hz03, hb03.trans (hb.mono hz03)⟩
    · have hno : ¬ orderF m cs = upN m := of_decide_eq_false hh.out
      have HU := Lib.hid (unwB_f2 hno)
      clear hno
      go_wp2_with fail
      go_ret2
      rw [HU.out.1, HU.out.2]
      exact ⟨_, rfl, World.ownsRow_nil _ _ _ _, bl_trans hb1 hb2⟩
  · have HU := Lib.hid (unwB_f1 hq.out)
    go_wp2_with fail
    go_ret2
    rw [HU.out.1, HU.out.2]
    exact ⟨_, rfl, World.ownsRow_nil _ _ _ _, hb1⟩
end Go.Proofs.Ytjbhlbcjljdjmaa
