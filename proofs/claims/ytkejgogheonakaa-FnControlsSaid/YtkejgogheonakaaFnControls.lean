/- FnControls: the law returns true for every input. No condition. Written by a program (gen_fc.py). -/
import Derived.Test.YtkejgogheonakaaU2
import Derived.Test.YtkejgogheonakaaU3
import Derived.Test.YtkejgogheonakaaW3
import Derived.Test.YtkejgogheonakaaO3
import Derived.OpenShut
namespace Go.Proofs.Ytkejgogheonakaa
open Go.ChangeShapes Go.WideShapes Go.ChangeAt Go.RowKit Go.Deep
theorem tiltOk_of {d : List Int} {a b : Int} (h : (tiltF d a b).2 = true) : tiltOk d a b = true := by
  cases e : tiltOk d a b
  · rw [tiltF, if_neg (by rw [e]; simp)] at h; cases h
  · rfl
theorem implPulls7 (ht : Int) (v1 v2 : Value) (d1 : List Int) (d2 : List RCord) (w : World) (h : RdControl w v1 v2 d1 d2) (hk : CtlOk 7 ht d1 d2) :
    Calls Try.prog 23 #[.agg #[.int .i64 ht, v1, v2], .int .i64 7] w fun e w' => ∃ v', e = .returned v' ∧ w'.ownsRow w.heap.size 3 1 v' 7 ((pullsL ht d1 d2 7).flatMap cInt) ∧ Below w.heap.size w w' := implPullsOf_t 7 ht v1 v2 d1 d2 w h hk (by omega)
theorem implCtl7 (ht : Int) (v1 v2 : Value) (d1 : List Int) (d2 : List RCord) (w : World) (h : RdControl w v1 v2 d1 d2) (hk : CtlOk 7 ht d1 d2) :
    Calls Try.prog 27 #[.agg #[.int .i64 ht, v1, v2], .int .i64 7] w fun e w' => e = .returned (.bool true) ∧ Below w.heap.size w w' := implControlOk_t 7 ht v1 v2 d1 d2 w h hk (by omega)
theorem quietL {P : Program} {f : FuncId} {args : Array Value} {w : World} {n : Nat} {v : Value}
    (h : Calls P f args (w.drewN n) fun e w' => e = .returned v ∧ w.drewN n = w') : Calls P f args (w.drewN n) fun e w'' => e = .returned v ∧ ∃ m, w'' = w.drewN m :=
  h.mono fun _ _ ⟨he, hm⟩ => ⟨he, n, hm.symm⟩
def atV (bs : List Int) (k : Nat) : Int := if bs.length = 0 then 0 else bs.getD ((k * 5 + 1) % bs.length) 0
theorem atV_bd {bs : List Int} (h : ∀ x ∈ bs, 0 ≤ x ∧ x ≤ 255) (k : Nat) : 0 ≤ atV bs k ∧ atV bs k ≤ 255 := by
  unfold atV
  split
  · omega
  · rename_i h0
    have hlt : (k * 5 + 1) % bs.length < bs.length := Nat.mod_lt _ (by omega)
    rw [getD_at hlt]
    exact h _ (List.getElem_mem hlt)
set_option maxHeartbeats 1000000 in
theorem at_v (A : Option Addr) (c : Nat) (bs : List Int) (k : Nat) (w : World) (h : RdL cU8 1 w (.slice A bs.length c) bs) (hby : ∀ x ∈ bs, 0 ≤ x ∧ x ≤ 255) (hlen : bs.length ≤ 1048576) (hk : k ≤ 1048576) :
    Calls Try.prog 24 #[.slice A bs.length c, .int .i64 k] w fun e w' => e = .returned (.int .i64 (atV bs k)) ∧ w = w' := by
  by_cases hl : bs.length = 0
  · have hl' : ((bs.length : Int) == 0) = true := by rw [beq_iff_eq]; omega
    have hv : atV bs k = 0 := by unfold atV; rw [if_pos hl]
    rw [hv]
    go_enter Try.func24, Try.ntmps24
    go_wp2_with fail
    go_ret
    exact ⟨rfl, rfl⟩
  · have hl' : ((bs.length : Int) == 0) = false := by rw [beq_eq_false_iff_ne]; omega
    have hlt : (k * 5 + 1) % bs.length < bs.length := Nat.mod_lt _ (by omega)
    have ht : ((k : Int) * 5 + 1).tmod bs.length = (((k * 5 + 1) % bs.length : Nat) : Int) := by rw [Int.tmod_eq_emod_of_nonneg (by omega)]; rfl
    have hv : atV bs k = bs[(k * 5 + 1) % bs.length] := by unfold atV; rw [if_neg hl, getD_at hlt]
    rw [hv]
    generalize (k * 5 + 1) % bs.length = n at *
    obtain ⟨g, off, rfl, hg, hc⟩ := h.cell (fun _ => rfl) (by omega) hlt
    have k0 := hc 0 _ rfl
    simp only [Nat.add_zero, Nat.mul_one] at k0
    clear hc
    have hx := hby _ (List.getElem_mem hlt)
    generalize bs[n] = x at *
    clear hv
    go_enter Try.func24, Try.ntmps24
    go_wp2_with fail
    go_ret
    exact ⟨rfl, rfl⟩
theorem at_v1 (A : Option Addr) (c : Nat) (bs : List Int) (w : World) (h : RdL cU8 1 w (.slice A bs.length c) bs) (hby : ∀ x ∈ bs, 0 ≤ x ∧ x ≤ 255) (hlen : bs.length ≤ 1048576) :
    Calls Try.prog 24 #[.slice A bs.length c, .int .i64 1] w fun e w' => e = .returned (.int .i64 (atV bs 1)) ∧ w = w' := at_v A c bs 1 w h hby hlen (by omega)
def dsum (a b : List Int) (k : Nat) : Int := (a.take k).sum - (b.take k).sum
theorem dsum_succ {a b : List Int} {k : Nat} (ha : k < a.length) (hb : k < b.length) : dsum a b (k + 1) = dsum a b k + a[k] - b[k] := by
  unfold dsum
  rw [take_snoc_l a ha, take_snoc_l b hb, List.sum_append_int, List.sum_append_int]
  simp; omega
theorem dsum_bd {a b : List Int} (ha : ∀ x ∈ a, -13 ≤ x ∧ x ≤ 13) (hb : ∀ x ∈ b, -10 ≤ x ∧ x ≤ 10) (hl : a.length = b.length) (k : Nat) (hk : k ≤ a.length) : -(23 * (k : Int)) ≤ dsum a b k ∧ dsum a b k ≤ 23 * (k : Int) := by
  induction k with
  | zero => simp [dsum]
  | succ k ih =>
    have := ih (by omega)
    rw [dsum_succ (by omega) (by omega)]
    have h1 := ha _ (List.getElem_mem (show k < a.length by omega))
    have h2 := hb _ (List.getElem_mem (show k < b.length by omega))
    omega
theorem rd_len {w : World} {v : Value} {n : Nat} {l : List Int} (h : RdS w 1 v n (l.flatMap cInt)) (hl : l.length = n) : RdL cInt 1 w v l := by unfold RdL; rw [hl]; exact h
set_option maxHeartbeats 8000000 in
set_option maxRecDepth 100000 in
theorem lawFnControls_any (A : Option Addr) (c : Nat) (bs : List Int) (w : World) (h : RdL cU8 1 w (.slice A bs.length c) bs) (hby : ∀ x ∈ bs, 0 ≤ x ∧ x ≤ 255) :
    Calls Try.prog 4 #[.slice A bs.length c] w fun e w' => e = .returned (.bool true) ∧ Below w.heap.size w w' := by
  have Hby := Lib.hid hby
  clear hby
  go_enter Try.func4, Try.ntmps4
  go_wp2_with (go_at_call 13; refine twoB (big_any _ _ _ _) (fun wb hc hb => ?_) (fun wb hc hb => ?_))
  · go_ret
    exact ⟨rfl, hb⟩
  have hlen : bs.length ≤ 1048576 := by have := hc.out; simp at this; omega
  clear hc
  refine (drawControl_any A c bs wb (h.below hb) Hby.out hlen).mono ?_
  rintro e w1 ⟨ht, v1, v2, d1, d2, rfl, hrd, ⟨hok, hht⟩, hb1⟩
  obtain ⟨A1, n1, rfl, hn1, hn1'⟩ := hrd.1.form
  obtain ⟨A2, n2, rfl, hn2, hn2'⟩ := hrd.2.form
  have hbw : Below w.heap.size w w1 := bl_trans hb hb1
  have hcode := h.below hbw
  have hh := hok.ht
  have har := hok.arms
  have hcl := hok.len
  have Hok := Lib.hid hok
  clear hok hb hb1 h
  have hrc : RdControl w1 (.slice A1 d1.length n1) (.slice A2 d2.length n2) d1 d2 := hrd
  clear hrd
  go_upto_region 4 with (fail)
  have hal : Below w1.heap.size w1 (w1.alloc (.cells #[.int .i64 ht, .slice A1 d1.length n1, .slice A2 d2.length n2] 34)) := (Below.refl _ _).alloc (Nat.le_refl _) _
  have Lc : Loc (w1.alloc (.cells #[.int .i64 ht, .slice A1 d1.length n1, .slice A2 d2.length n2] 34)) w1.heap.size [.int .i64 ht, .slice A1 d1.length n1, .slice A2 d2.length n2] := Loc.new w1 #[.int .i64 ht, .slice A1 d1.length n1, .slice A2 d2.length n2] 34
  obtain ⟨cb, hcb⟩ : ∃ g, w1.heap.size = g := ⟨_, rfl⟩
  rw [hcb] at Lc
  replace hrc := hrc.below hal
  replace hcode := hcode.below hal
  replace hbw : Below w.heap.size w (w1.alloc (.cells #[.int .i64 ht, .slice A1 d1.length n1, .slice A2 d2.length n2] 34)) := bl_trans hbw hal
  generalize w1.alloc (.cells #[.int .i64 ht, .slice A1 d1.length n1, .slice A2 d2.length n2] 34) = W1 at *
  rw [hcb]
  clear hcb hal
  have c0 := (Lc 0 _ rfl).1
  have c1 := (Lc 1 _ rfl).1
  have c2 := (Lc 2 _ rfl).1
  go_wp2_with fail
  refine (implPulls7 ht _ _ d1 d2 _ hrc Hok.out).mono ?_
  rintro e w2 ⟨vp, rfl, ownp, hb2⟩
  obtain ⟨Ap, np, rfl, _, _⟩ := (RdS.of_own ownp).form
  have hrp : RdL cInt 1 w2 (.slice Ap 7 np) (pullsL ht d1 d2 7) := rd_len (RdS.of_own ownp) (pullsL_len _ _ _ _)
  clear ownp c0 c1 c2
  replace Lc := Lc.below hb2
  replace hrc := hrc.below hb2
  replace hcode := hcode.below hb2
  replace hbw := bl_trans hbw hb2
  have c0 := (Lc 0 _ rfl).1
  have c1 := (Lc 1 _ rfl).1
  have c2 := (Lc 2 _ rfl).1
  clear hb2
  go_wp2_with fail
  refine (at_any A c bs 0 _ hcode Hby.out hlen (by omega) (by omega)).mono ?_
  rintro e w3 ⟨r, rfl, hr, hb3⟩
  have em : r.tmod 20 = r % 20 := Int.tmod_eq_emod_of_nonneg (by omega)
  obtain ⟨b, hbe⟩ : ∃ b : Int, r % 20 = b := ⟨_, rfl⟩
  have hbb : 0 ≤ b ∧ b ≤ 19 := by omega
  rw [hbe] at em
  clear hbe c0 c1 c2
  replace Lc := Lc.below hb3
  replace hrc := hrc.below hb3
  replace hcode := hcode.below hb3
  replace hrp := hrp.below hb3
  replace hbw := bl_trans hbw hb3
  have c0 := (Lc 0 _ rfl).1
  have c1 := (Lc 1 _ rfl).1
  have c2 := (Lc 2 _ rfl).1
  clear hb3
  go_wp2_with fail
  have hszc : szControl d1 d2 ≤ 1048576 := by unfold szControl; omega
  refine (implLiftControl_any ht b _ _ d1 d2 _ hrc hszc).mono ?_
  rintro e w4 ⟨y1, y2, S4, rfl, ow4, _, hb4⟩
  obtain ⟨hl1, hl2⟩ := ctl_lift Hok.out hbb
  rw [hl1, hl2]
  have hrl : RdControl w4 y1 y2 d1 d2 := ow4.rd
  obtain ⟨B1, m1, rfl, hm1, hm1'⟩ := hrl.1.form
  obtain ⟨B2, m2, rfl, hm2, hm2'⟩ := hrl.2.form
  clear ow4 em c0 c1 c2
  have hok2 : CtlOk 7 (ht + b) d1 d2 := ⟨by omega, Hok.out.arms, Hok.out.arm, Hok.out.len, Hok.out.cord, Hok.out.once⟩
  have Hok2 := Lib.hid hok2
  clear hok2
  replace Lc := Lc.below hb4
  replace hrc := hrc.below hb4
  replace hcode := hcode.below hb4
  replace hrp := hrp.below hb4
  replace hbw := bl_trans hbw hb4
  clear hb4
  go_upto_region 7 with (fail)
  have hal : Below w4.heap.size w4 (w4.alloc (.cells #[.int .i64 (ht + b), .slice B1 d1.length m1, .slice B2 d2.length m2] 34)) := (Below.refl _ _).alloc (Nat.le_refl _) _
  have Ll : Loc (w4.alloc (.cells #[.int .i64 (ht + b), .slice B1 d1.length m1, .slice B2 d2.length m2] 34)) w4.heap.size [.int .i64 (ht + b), .slice B1 d1.length m1, .slice B2 d2.length m2] := Loc.new w4 #[.int .i64 (ht + b), .slice B1 d1.length m1, .slice B2 d2.length m2] 34
  obtain ⟨lb, hlb⟩ : ∃ g, w4.heap.size = g := ⟨_, rfl⟩
  rw [hlb] at Ll
  replace Lc := Lc.below hal
  replace hrc := hrc.below hal
  replace hcode := hcode.below hal
  replace hrp := hrp.below hal
  replace hrl := hrl.below hal
  replace hbw : Below w.heap.size w (w4.alloc (.cells #[.int .i64 (ht + b), .slice B1 d1.length m1, .slice B2 d2.length m2] 34)) := bl_trans hbw hal
  generalize w4.alloc (.cells #[.int .i64 (ht + b), .slice B1 d1.length m1, .slice B2 d2.length m2] 34) = W4 at *
  rw [hlb]
  clear hlb hal
  have l0 := (Ll 0 _ rfl).1
  have l1 := (Ll 1 _ rfl).1
  have l2 := (Ll 2 _ rfl).1
  go_wp2_with fail
  refine (implPulls7 (ht + b) _ _ d1 d2 _ hrl Hok2.out).mono ?_
  rintro e w5 ⟨vq, rfl, ownq, hb5⟩
  obtain ⟨Aq, nq, rfl, _, _⟩ := (RdS.of_own ownq).form
  have hrq : RdL cInt 1 w5 (.slice Aq 7 nq) (pullsL (ht + b) d1 d2 7) := rd_len (RdS.of_own ownq) (pullsL_len _ _ _ _)
  clear ownq l0 l1 l2 Ll hrl
  replace Lc := Lc.below hb5
  replace hrc := hrc.below hb5
  replace hcode := hcode.below hb5
  replace hrp := hrp.below hb5
  replace hbw := bl_trans hbw hb5
  have c0 := (Lc 0 _ rfl).1
  have c1 := (Lc 1 _ rfl).1
  have c2 := (Lc 2 _ rfl).1
  clear hb5
  go_wp2_with fail
  refine (implJointsHeld_any ht _ _ d1 d2 _ hrc).mono ?_
  rintro e w6 ⟨vh, rfl, ownh, hb6⟩
  have hlh := heldL_len Hok.out (show 7 ≤ 12 by omega)
  have hrh0 := RdS.of_own ownh
  obtain ⟨Ah, nh, rfl, _, _⟩ := hrh0.form
  have hrh : RdL cInt 1 w6 (.slice Ah (heldL d2 12).length nh) (heldL d2 12) := hrh0
  clear ownh hrh0 c0 c1 c2
  replace Lc := Lc.below hb6
  replace hrc := hrc.below hb6
  replace hcode := hcode.below hb6
  replace hrp := hrp.below hb6
  replace hrq := hrq.below hb6
  replace hbw := bl_trans hbw hb6
  have c0 := (Lc 0 _ rfl).1
  have c1 := (Lc 1 _ rfl).1
  have c2 := (Lc 2 _ rfl).1
  clear hb6
  have hlI : (((heldL d2 12).length : Nat) : Int) = (d2.length : Nat) := by rw [hlh]
  have hlB : (((heldL d2 12).length : Int) != (d2.length : Int)) = false := by rw [hlI]; exact bne_self_eq_false _
  clear hlh
  have Hheld := Lib.hid (fun j (hj : j < 12) => heldL_mem (d2 := d2) hj)
  go_wp2_with fail
  refine (implCtl7 ht _ _ d1 d2 _ hrc Hok.out).mono ?_
  rintro e w7 ⟨rfl, hb7⟩
  clear c0 c1 c2
  replace Lc := Lc.below hb7
  replace hrc := hrc.below hb7
  replace hcode := hcode.below hb7
  replace hrp := hrp.below hb7
  replace hrq := hrq.below hb7
  replace hrh := hrh.below hb7
  replace hbw := bl_trans hbw hb7
  have c0 := (Lc 0 _ rfl).1
  have c1 := (Lc 1 _ rfl).1
  have c2 := (Lc 2 _ rfl).1
  clear hb7
  have Hpl := Lib.hid (fun j => pull_law Hok.out j b hbb.1 d2.length (Nat.le_refl _))
  rw [List.take_length] at Hpl
  generalize heldL d2 12 = H at *
  obtain ⟨P, hP⟩ : ∃ P, pullsL ht d1 d2 7 = P := ⟨_, rfl⟩
  obtain ⟨Q, hQ⟩ : ∃ Q, pullsL (ht + b) d1 d2 7 = Q := ⟨_, rfl⟩
  have hPl : P.length = 7 := by rw [← hP]; exact pullsL_len _ _ _ _
  have hQl : Q.length = 7 := by rw [← hQ]; exact pullsL_len _ _ _ _
  have HP := Lib.hid (fun j (hj : j < P.length) => (by subst hP; exact pullsL_get hj : P[j] = pullTo ht d1 d2 j))
  have HQ := Lib.hid (fun j (hj : j < Q.length) => (by subst hQ; exact pullsL_get hj : Q[j] = pullTo (ht + b) d1 d2 j))
  rw [hP] at hrp
  rw [hQ] at hrq
  clear hP hQ
  have hrp' : RdL cInt 1 w7 (.slice Ap P.length np) P := by rw [hPl]; exact hrp
  have hrq' : RdL cInt 1 w7 (.slice Aq Q.length nq) Q := by rw [hQl]; exact hrq
  clear hrp hrq
  go_wp2_with fail
  go_loopw [10] (fun i wr => ∃ (j d : Nat), j ≤ 7 ∧ i = .int .i64 j ∧ wr = w7.drewN d) (fun i _ => 7 - (intOf i).toNat)
  case atStart => exact ⟨0, 0, Nat.zero_le _, rfl, rfl⟩
  case round =>
    obtain ⟨j, nd, hj, rfl, rfl⟩ := hrel
    by_cases hlt : j < 7
    · obtain ⟨gp, op, rfl, hgp, hcp⟩ := hrp'.cell (k := j) cInt_len (by omega) (by omega)
      obtain ⟨gq, oq, rfl, hgq, hcq⟩ := hrq'.cell (k := j) cInt_len (by omega) (by omega)
      have kp := hcp 0 _ rfl
      have kq := hcq 0 _ rfl
      simp only [Nat.add_zero, Nat.mul_one] at kp kq
      rw [HP.out j (by omega)] at kp
      rw [HQ.out j (by omega)] at kq
      clear hcp hcq
      have hh := Hheld.out j (by omega)
      have hhas := fun W hr => has_any (.slice Ah H.length nh) H (j : Int) W hr
      have kp1 : (w7.drewN nd).cell? ⟨gp, op + j, none⟩ = some (.int .i64 (pullTo ht d1 d2 j)) := kp
      have kq1 : (w7.drewN nd).cell? ⟨gq, oq + j, none⟩ = some (.int .i64 (pullTo (ht + b) d1 d2 j)) := kq
      have hrhz : RdL cInt 1 (w7.drewN nd) (.slice Ah H.length nh) H := hrh
      clear kp kq
      obtain ⟨wz, hwz⟩ : ∃ wz, w7.drewN nd = wz := ⟨_, rfl⟩
      rw [hwz] at kp1 kq1 hrhz ⊢
      have Hwz := Lib.hid hwz
      clear hwz
      have hpl := Hpl.out j
      generalize pullTo ht d1 d2 j = x at *
      generalize pullTo (ht + b) d1 d2 j = y at *
      have hxy : (hasB H j = decide (0 ≤ x)) ∧ (decide (x < 0) = decide (y < 0)) ∧ -1 ≤ x ∧ x ≤ 200 ∧ x ≤ y ∧ y ≤ x + b ∧ (0 < x → y = x + b) := by
        rcases hpl with ⟨rfl, rfl, hf⟩ | ⟨h1, h2, h3, h4, h5, hf⟩
        · exact ⟨by (cases e : hasB H j <;> first | rfl | (rw [hasB_iff, hh, hf] at e; cases e)), rfl, by omega, by omega, by omega, by omega, by omega⟩
        · exact ⟨by rw [decide_eq_true h1, hasB_iff, hh]; exact hf, by rw [decide_eq_false (show ¬ x < 0 by omega), decide_eq_false (show ¬ y < 0 by omega)], by omega, h2, h3, h4, h5⟩
      obtain ⟨hhb, hdd, hx1, hx2, hx3, hx4, hx5⟩ := hxy
      have HD := Lib.hid hdd
      clear hpl hdd
      by_cases hx0 : 0 < x
      · have h8 := hx5 hx0
        subst h8
        rw [hhb] at hhas
        have HH := Lib.hid (fun n : Nat => quietL (w := wz) (n := n) (hhas (wz.drewN n) hrhz))
        clear hhas hh hhb
        go_wp2_with fail
        have df0 : IntKind.i64.wrap (x + b) = x + b := IntWalk.i64_in _ (by omega)
        have df1 : decide (x < 0) = false := decide_eq_false (by omega)
        have df2 : decide (x + b < 0) = false := decide_eq_false (by omega)
        have df3 : decide (x + b < x) = false := decide_eq_false (by omega)
        have df4 : decide (0 < x) = true := decide_eq_true (by omega)
        have df5 : decide (0 ≤ x) = true := decide_eq_true (by omega)
        go_quiet ((go_at_call 28; exact HH.out _))
        rename_i nq
        clear df0 df1 df2 df3 df4 df5
        go_wp2_with fail
        go_roundw
        case rel => exact ⟨j + 1, nd + nq, by omega, by go_num, by rw [← Hwz.out]; simp⟩
        case measure => simp [intOf]; omega
      · clear hx5
        rw [hhb] at hhas
        have HH := Lib.hid (fun n : Nat => quietL (w := wz) (n := n) (hhas (wz.drewN n) hrhz))
        clear hhas hh hhb
        go_wp2_with fail
        have df0 : IntKind.i64.wrap (x + b) = x + b := IntWalk.i64_in _ (by omega)
        have df1 : decide (y < x) = false := decide_eq_false (by omega)
        have df2 : decide (x + b < y) = false := decide_eq_false (by omega)
        have df3 : decide (0 < x) = false := decide_eq_false (by omega)
        have df4 : decide (x < 0) = decide (y < 0) := HD.out
        go_quiet ((go_at_call 28; exact HH.out _))
        rename_i nq
        clear df0 df1 df2 df3 df4
        go_wp2_with fail
        go_roundw
        case rel => exact ⟨j + 1, nd + nq, by omega, by go_num, by rw [← Hwz.out]; simp⟩
        case measure => simp [intOf]; omega
    · obtain rfl : j = 7 := by omega
      have Lc8 : Loc (w7.drewN nd) cb [.int .i64 ht, .slice A1 d1.length n1, .slice A2 d2.length n2] := Lc.drewN nd
      have hrc8 : RdControl (w7.drewN nd) (.slice A1 d1.length n1) (.slice A2 d2.length n2) d1 d2 := hrc
      have hcode8 : RdL cU8 1 (w7.drewN nd) (.slice A bs.length c) bs := hcode
      have hbw8 : Below w.heap.size w (w7.drewN nd) := below_drewN hbw nd
      clear Lc hrc hcode hbw c0 c1 c2 hrp' hrq' hrh Hpl Hheld HP HQ
      generalize w7.drewN nd = w8 at *
      have c0 := (Lc8 0 _ rfl).1
      have c1 := (Lc8 1 _ rfl).1
      have c2 := (Lc8 2 _ rfl).1
      have hab := atV_bd Hby.out 1
      have HA := Lib.hid (fun n : Nat => quietL (w := w8) (n := n) (at_v1 A c bs (w8.drewN n) hcode8 Hby.out hlen))
      obtain ⟨a, hae, hal⟩ : ∃ a : Nat, (atV bs 1).tmod (d1.length : Int) = (a : Int) ∧ a < d1.length := by
        rw [Int.tmod_eq_emod_of_nonneg (by omega)]
        have h1 := Int.emod_nonneg (atV bs 1) (show (d1.length : Int) ≠ 0 by omega)
        have h2 := Int.emod_lt_of_pos (atV bs 1) (show (0 : Int) < d1.length by omega)
        exact ⟨((atV bs 1) % (d1.length : Int)).toNat, by omega, by omega⟩
      generalize atV bs 1 = av at *
      go_wp2_with fail
      go_quiet ((go_at_call 24; exact HA.out _))
      rename_i nq
      have Lc9 : Loc (w8.drewN nq) cb [.int .i64 ht, .slice A1 d1.length n1, .slice A2 d2.length n2] := Lc8.drewN nq
      have hrc9 : RdControl (w8.drewN nq) (.slice A1 d1.length n1) (.slice A2 d2.length n2) d1 d2 := hrc8
      have hbw9 : Below w.heap.size w (w8.drewN nq) := below_drewN hbw8 nq
      clear Lc8 hrc8 hcode8 hbw8 c0 c1 c2 HA
      generalize w8.drewN nq = w9 at *
      have c0 := (Lc9 0 _ rfl).1
      have c1 := (Lc9 1 _ rfl).1
      have c2 := (Lc9 2 _ rfl).1
      obtain ⟨d', ht1, hdl, hds, hdb, ht2⟩ := tilt_law Hok.out hal
      have hT1 := implTilt_yes ht 3 a (.slice A1 d1.length n1) (.slice A2 d2.length n2) d1 d2 w9 hrc9 hszc (tiltOk_of (by rw [ht1]))
      rw [ht1] at hT1
      have HT1 := Lib.hid hT1
      clear hT1 ht1
      have Ht2 := Lib.hid ht2
      clear ht2
      have Hds := Lib.hid hds
      clear hds
      have Hdb := Lib.hid hdb
      clear hdb
      (try rw [hae])
      go_wp2_with fail
      (try rw [hae])
      refine HT1.out.mono ?_
      rintro e w10 ⟨y1, y2, S10, rfl, ow10, _, hb10⟩
      have hrt : RdControl w10 y1 y2 d' d2 := ow10.rd
      obtain ⟨D1, k1, rfl, hk1, hk1'⟩ := hrt.1.form
      obtain ⟨D2, k2, rfl, hk2, hk2'⟩ := hrt.2.form
      clear ow10 c0 c1 c2
      have hdB : (((d'.length : Nat) : Int) != (d1.length : Int)) = false := by rw [hdl]; exact bne_self_eq_false _
      have Hdl := Lib.hid hdl
      clear hdl
      have hbw := hbw9
      have Lc := Lc9
      have hrc := hrc9
      clear hbw9 Lc9 hrc9
      replace Lc := Lc.below hb10
      replace hrc := hrc.below hb10
      replace hbw := bl_trans hbw hb10
      clear hb10
      go_upto_region 18 with (fail)
      have hal : Below w10.heap.size w10 (w10.alloc (.cells #[.int .i64 ht, .slice D1 d'.length k1, .slice D2 d2.length k2] 34)) := (Below.refl _ _).alloc (Nat.le_refl _) _
      have Lt : Loc (w10.alloc (.cells #[.int .i64 ht, .slice D1 d'.length k1, .slice D2 d2.length k2] 34)) w10.heap.size [.int .i64 ht, .slice D1 d'.length k1, .slice D2 d2.length k2] := Loc.new w10 #[.int .i64 ht, .slice D1 d'.length k1, .slice D2 d2.length k2] 34
      obtain ⟨tb, htb⟩ : ∃ g, w10.heap.size = g := ⟨_, rfl⟩
      rw [htb] at Lt
      replace Lc := Lc.below hal
      replace hrc := hrc.below hal
      replace hrt := hrt.below hal
      replace hbw : Below w.heap.size w (w10.alloc (.cells #[.int .i64 ht, .slice D1 d'.length k1, .slice D2 d2.length k2] 34)) := bl_trans hbw hal
      generalize w10.alloc (.cells #[.int .i64 ht, .slice D1 d'.length k1, .slice D2 d2.length k2] 34) = W10 at *
      rw [htb]
      clear htb hal
      have t0 := (Lt 0 _ rfl).1
      have t1 := (Lt 1 _ rfl).1
      have t2 := (Lt 2 _ rfl).1
      have c0 := (Lc 0 _ rfl).1
      have c1 := (Lc 1 _ rfl).1
      have c2 := (Lc 2 _ rfl).1
      go_wp2_with fail
      go_loopw [14, 15] (fun s i wr => ∃ (k d : Nat), k ≤ d1.length ∧ i = .int .i64 k ∧ s = .int .i64 (dsum d' d1 k) ∧ wr = W10.drewN d) (fun _ i _ => d1.length - (intOf i).toNat)
      case atStart => exact ⟨0, 0, Nat.zero_le _, rfl, rfl, rfl⟩
      case round =>
        obtain ⟨k, nd2, hk, rfl, rfl, rfl⟩ := hrel
        have hsb := dsum_bd Hdb.out Hok.out.arm Hdl.out k (by have := Hdl.out; omega)
        by_cases hltk : k < d1.length
        · obtain ⟨gc, oc, rfl, hgc, hcc⟩ := hrc.1.cell (k := k) cInt_len (by omega) hltk
          have hkd : k < d'.length := by have := Hdl.out; omega
          obtain ⟨gt, ot, rfl, hgt, hct⟩ := hrt.1.cell (k := k) cInt_len (by omega) hkd
          have kc := hcc 0 _ rfl
          have kt := hct 0 _ rfl
          simp only [Nat.add_zero, Nat.mul_one] at kc kt
          clear hcc hct
          have hx1 := Hok.out.arm _ (List.getElem_mem hltk)
          have hx2 := Hdb.out _ (List.getElem_mem (show k < d'.length by have := Hdl.out; omega))
          have Hss := Lib.hid (dsum_succ (a := d') (b := d1) (k := k) (by have := Hdl.out; omega) hltk)
          generalize d1[k] = x at *
          generalize d'[k] = y at *
          generalize dsum d' d1 k = S at *
          have hw1 := IntWalk.i64_in (S + y) (by omega)
          have hw2 := IntWalk.i64_in (S + y - x) (by omega)
          go_wp2_with fail
          go_quiet (fail)
          clear hw1 hw2
          go_wp2_with fail
          go_roundw
          case rel => exact ⟨k + 1, _, by omega, by go_num, int_eq (by rw [Hss.out]), rfl⟩
          case measure => simp [intOf]; omega
        · obtain rfl : k = d1.length := by omega
          have hz : dsum d' d1 d1.length = 0 := by unfold dsum; rw [List.take_length, ← Hdl.out, List.take_length, Hds.out]; omega
          rw [hz]
          clear hz hsb
          have Lt' : Loc (W10.drewN nd2) tb [.int .i64 ht, .slice D1 d'.length k1, .slice D2 d2.length k2] := Lt.drewN nd2
          have Lc' : Loc (W10.drewN nd2) cb [.int .i64 ht, .slice A1 d1.length n1, .slice A2 d2.length n2] := Lc.drewN nd2
          have hrc' : RdControl (W10.drewN nd2) (.slice A1 d1.length n1) (.slice A2 d2.length n2) d1 d2 := hrc
          have hrt' : RdControl (W10.drewN nd2) (.slice D1 d'.length k1) (.slice D2 d2.length k2) d' d2 := hrt
          have hbw' : Below w.heap.size w (W10.drewN nd2) := below_drewN hbw nd2
          clear Lt Lc hrc hrt hbw t0 t1 t2 c0 c1 c2
          generalize W10.drewN nd2 = w11 at *
          have t0 := (Lt' 0 _ rfl).1
          have t1 := (Lt' 1 _ rfl).1
          have t2 := (Lt' 2 _ rfl).1
          have c1 := (Lc' 1 _ rfl).1
          have hszt : szControl d' d2 ≤ 1048576 := by have := Hdl.out; unfold szControl; omega
          have hT2 := implTilt_yes ht (-3) a (.slice D1 d'.length k1) (.slice D2 d2.length k2) d' d2 w11 hrt' hszt (tiltOk_of (by rw [Ht2.out]))
          rw [Ht2.out] at hT2
          have HT2 := Lib.hid hT2
          clear hT2
          go_wp2_with fail
          refine HT2.out.mono ?_
          rintro e w12 ⟨y1, y2, S12, rfl, ow12, _, hb12⟩
          have hru : RdControl w12 y1 y2 d1 d2 := ow12.rd
          obtain ⟨E1, j1, rfl, _, _⟩ := hru.1.form
          obtain ⟨E2, j2, rfl, _, _⟩ := hru.2.form
          clear ow12 t0 t1 t2 c1 Lt' hrt'
          have hbw := bl_trans hbw' hb12
          have Lc := Lc'.below hb12
          have hrc := hrc'.below hb12
          clear hbw' Lc' hrc' hb12
          go_upto_region 26 with (fail)
          have hal : Below w12.heap.size w12 (w12.alloc (.cells #[.int .i64 ht, .slice E1 d1.length j1, .slice E2 d2.length j2] 34)) := (Below.refl _ _).alloc (Nat.le_refl _) _
          have Lu : Loc (w12.alloc (.cells #[.int .i64 ht, .slice E1 d1.length j1, .slice E2 d2.length j2] 34)) w12.heap.size [.int .i64 ht, .slice E1 d1.length j1, .slice E2 d2.length j2] := Loc.new w12 #[.int .i64 ht, .slice E1 d1.length j1, .slice E2 d2.length j2] 34
          obtain ⟨ub, hub⟩ : ∃ g, w12.heap.size = g := ⟨_, rfl⟩
          rw [hub] at Lu
          replace Lc := Lc.below hal
          replace hrc := hrc.below hal
          replace hru := hru.below hal
          replace hbw : Below w.heap.size w (w12.alloc (.cells #[.int .i64 ht, .slice E1 d1.length j1, .slice E2 d2.length j2] 34)) := bl_trans hbw hal
          generalize w12.alloc (.cells #[.int .i64 ht, .slice E1 d1.length j1, .slice E2 d2.length j2] 34) = W12 at *
          rw [hub]
          clear hub hal
          have u0 := (Lu 0 _ rfl).1
          have u1 := (Lu 1 _ rfl).1
          have u2 := (Lu 2 _ rfl).1
          have c0 := (Lc 0 _ rfl).1
          have c1 := (Lc 1 _ rfl).1
          have c2 := (Lc 2 _ rfl).1
          go_wp2_with fail
          refine (sameInts_any _ _ d1 d1 _ hru.1 hrc.1).mono ?_
          rintro e w13 ⟨rfl, hb13⟩
          rw [decide_eq_true (rfl : d1 = d1)]
          go_wp2_with fail
          go_ret
          exact ⟨rfl, bl_trans hbw hb13⟩

set_option maxRecDepth 100000 in
set_option maxHeartbeats 1000000 in
theorem fnControls_lifted (os : Os) (started : os.Started) (H : Type) (enc : TypeId × Value → H) :
    ReturnsInHanded {} Try.checked os 4 .any (Rows.fnControlsSpec.pre6 enc Try.prog Try.f4 Rows.fnControlsRow.domain false) (Rows.fnControlsSpec.post enc Try.prog Try.f4 false true false false) := by
  refine returnsInHanded_of_change (C := Try.checked) tryOwn started (by kernel_rfl) Try.func4
    (ChangeSpec.witness6 (enc := enc) (C := Try.checked) false ⟨#[], #[.slice none 0 0], []⟩ 12 (by kernel_rfl) (by kernel_rfl) (by kernel_rfl) (by kernel_rfl)) ?_
  intro W base args ds gs before hval0 hW hcnd _
  have hval : ∀ (j : Nat) t v, Try.f4.params[j]? = some t → args[j]? = some v → Value.okWide Try.prog W .any base t v := hval0
  have hW' := hW
  obtain ⟨p, q, hA0, hV, rfl, hfz, hnd⟩ := hW
  have hA : DataW.TrodAll enc Try.prog W 0 (fun _ => true) true Try.f4.params.toList args.toList ds p := hA0
  rw [Try.params4] at hA hval
  obtain ⟨v0, vs0, d0, ds0, p0, q0, hargs, rfl, rfl, h0, r0⟩ := trodAll_cons hA
  obtain ⟨rfl, rfl, rfl⟩ := trodAll_nil r0
  obtain rfl : args = #[v0] := by cases args; simp_all
  obtain ⟨rfl, rfl⟩ := trodVars_none hV
  have e0 := h0
  have lt0 : ∀ x ∈ p0, x.block < W.heap.size := by obtain ⟨m, hm⟩ := e0; exact DataW.trod_lt m _ _ _ hm
  have ok0 := hval 0 22 v0 rfl rfl
  clear hA0 hval0 hval
  obtain ⟨xs, hrd, hby⟩ := arg_slice Try.underlying22 ok0 h0 (opens_slice (f := cU8) (size := 1) Try.underlying22 (by kernel_rfl) (by omega) cU8_len (opens_u8 Try.underlying5))
  obtain ⟨A, c, rfl, _⟩ := RdS.form hrd
  refine (lawFnControls_any A c xs W hrd hby).mono fun e W' ⟨he, bel⟩ => ?_
  subst he
  exact ⟨_, rfl, _, _, _, [], _, [], hW', trodAll_mk1 (shut_bool Try.underlying4 _), (trodAll_cons_mk (Below.trod tryLaid (by kernel_rfl) (of_decide_eq_true (by kernel_rfl)) e0 bel lt0) trodAll_mk0), rfl, bel.frame _, fun h => by cases h⟩

theorem fnControls_holds : Rows.FnControlsSaid :=
  OpenClaim.holds_of_wide 4 Try.f4 rfl rfl rfl rfl rfl rfl rfl ⟨rfl, rfl, rfl, rfl, rfl⟩ rfl rfl rfl rfl rfl (by kernel_rfl) Try.func4 (by kernel_rfl)
    (of_decide_eq_true (by kernel_rfl)) (by unfold Func.isWrapper; first | (rw [if_pos (by decide +kernel)]; kernel_rfl) | (rw [if_neg (by decide +kernel)]; exact ⟨rfl, rfl⟩))
    (fun os started H enc _ => fnControls_lifted os started H enc)
#print axioms fnControls_holds
end Go.Proofs.Ytkejgogheonakaa
