/- Lemmas and contracts that this claim's theorem rests on. Conditions: those that each states. -/
import Derived.Test.YtkbacoadejglkaaGreatDoorBdY7x8
namespace Go.Proofs.YtkbacoadejglkaaGreatDoor
set_option maxHeartbeats 16000000
set_option maxRecDepth 100000
open Go.RowKit
theorem zx8 {a : Act} (h : a.tmps.size = 82) (hd : a.defers = []) : ∃ x0 x1 x2 x3 x4 x5 x6 x7 x8 x9 x10 x11 x12 x13 x14 x15 x16 x17 x18 x19 x20 x21 x22 x23 x24 x25 x26 x27 x28 x29 x30 x31 x32 x33 x34 x35 x36 x37 x38 x39 x40 x41 x42 x43 x44 x45 x46 x47 x48 x49 x50 x51 x52 x53 x54 x55 x56 x57 x58 x59 x60 x61 x62 x63 x64 x65 x66 x67 x68 x69 x70 x71 x72 x73 x74 x75 x76 x77 x78 x79 x80 x81 : Value, a = ⟨#[x0, x1, x2, x3, x4, x5, x6, x7, x8, x9, x10, x11, x12, x13, x14, x15, x16, x17, x18, x19, x20, x21, x22, x23, x24, x25, x26, x27, x28, x29, x30, x31, x32, x33, x34, x35, x36, x37, x38, x39, x40, x41, x42, x43, x44, x45, x46, x47, x48, x49, x50, x51, x52, x53, x54, x55, x56, x57, x58, x59, x60, x61, x62, x63, x64, x65, x66, x67, x68, x69, x70, x71, x72, x73, x74, x75, x76, x77, x78, x79, x80, x81], []⟩ := by
 obtain ⟨⟨l⟩, d⟩ := a; subst hd
 match l, h with
 | x0 :: x1 :: x2 :: x3 :: x4 :: x5 :: x6 :: x7 :: x8 :: x9 :: x10 :: x11 :: x12 :: x13 :: x14 :: x15 :: x16 :: x17 :: x18 :: x19 :: x20 :: x21 :: x22 :: x23 :: x24 :: x25 :: x26 :: x27 :: x28 :: x29 :: x30 :: x31 :: x32 :: x33 :: x34 :: x35 :: x36 :: x37 :: x38 :: x39 :: x40 :: x41 :: x42 :: x43 :: x44 :: x45 :: x46 :: x47 :: x48 :: x49 :: x50 :: x51 :: x52 :: x53 :: x54 :: x55 :: x56 :: x57 :: x58 :: x59 :: x60 :: x61 :: x62 :: x63 :: x64 :: x65 :: x66 :: x67 :: x68 :: x69 :: x70 :: x71 :: x72 :: x73 :: x74 :: x75 :: x76 :: x77 :: x78 :: x79 :: x80 :: x81 :: [], _ => exact ⟨x0, x1, x2, x3, x4, x5, x6, x7, x8, x9, x10, x11, x12, x13, x14, x15, x16, x17, x18, x19, x20, x21, x22, x23, x24, x25, x26, x27, x28, x29, x30, x31, x32, x33, x34, x35, x36, x37, x38, x39, x40, x41, x42, x43, x44, x45, x46, x47, x48, x49, x50, x51, x52, x53, x54, x55, x56, x57, x58, x59, x60, x61, x62, x63, x64, x65, x66, x67, x68, x69, x70, x71, x72, x73, x74, x75, x76, x77, x78, x79, x80, x81, rfl⟩
def psa (B m pl cp go k p q : Nat) (g cg n : Nat) (t : Int) (f : Bool) (xs : List Value) (i : Nat) (v : Value) (_ : Nat -> Nat) (w : World) : Prop :=
 match i with
 | 0 => v = .int .i64 m
 | 1 => v = .slice (some ⟨go, 0, none⟩) pl cp
 | 2 => v = .int .i64 k
 | 3 => v = .pointer (some ⟨go, k, none⟩)
 | 4 => v = .slice (some ⟨g, 0, none⟩) 2 cg
 | 5 => v = .pointer (some ⟨g, 0, none⟩)
 | 6 => v = .int .i64 p
 | 7 => v = .slice (some ⟨go, 0, none⟩) pl cp
 | 8 => v = .int .i64 k
 | 9 => v = .pointer (some ⟨go, k, none⟩)
 | 10 => v = .slice (some ⟨g, 0, none⟩) 2 cg
 | 11 => v = .pointer (some ⟨g, 1, none⟩)
 | 12 => v = .int .i64 q
 | 13 => v = .int .i64 t
 | 14 => v = .bool f
 | 15 => ∃ A c, v = .tuple #[.slice A n c, .bool true] /\ w.ownsRow B 82 2 (.slice A n c) n xs
 | 16 => ∃ A c, v = .tuple #[.slice A n c, .bool true] /\ w.ownsRow B 82 2 (.slice A n c) n xs
 | 17 => ∃ A c, v = .slice A n c /\ w.ownsRow B 82 2 (.slice A n c) n xs
 | 18 => v = .bool true
 | 19 => ∃ A c, v = .slice A n c /\ w.ownsRow B 82 2 (.slice A n c) n xs
 | _ => True
theorem ziz (n : Int) (v : Value) (cs : List zad) (w : World) (h : RdL zah 2 w v cs) :
  Calls Tryz.prog 131 #[.int .i64 n, v] w (zqx (unwB n cs) (unwV n cs) w) := by
 have h0 := h; obtain ⟨A, c, rfl, h1, h2⟩ := h.form; obtain ⟨iX, hiX, hzX0, hzX1, hzX2⟩ := info_parts zco; have hownA := World.ownsRow_made (size := 2) (e := 82) w #[] 0 (Nat.le_refl _) (by simp [maxLen]) rfl
 have hbA : Below w.heap.size w (w.alloc (.cells #[] 82)) := (Below.refl _ _).alloc (Nat.le_refl _) _; have hrdA := h0.below hbA
 go_enter Tryz.func131, Tryz.ntmps131
 go_wp2_with fail; refine twoB (zbs n _ cs _ hrdA) (fun w1 hq hb1 => ?_) (fun w1 hq hb1 => ?_)
 ·obtain ⟨hn, hlen, hcs⟩ := za2 hq.out
  obtain ⟨m, rfl⟩ := Int.eq_ofNat_of_zero_le (show 0 <= n by omega)
  have hm : 1 <= m /\ m <= 7 := by omega
  have hrd1 := hrdA.below hb1; have HSQ := Lib.hid (zjg hcs); have HBD := Lib.hid (zuf hcs (by omega))
  have HO := Lib.hid (zcf.order hcs); have hown1 := zac hownA hb1; have hb01 : Below w.heap.size w w1 := zab hbA hb1; have hC := zcu (m : Int) _ cs w1 hrd1; rw [zjm hq.out] at hC; clear hcs hn hrdA hownA hbA hb1; go_wp2_with fail; refine hC.mono ?_; rintro e w2 ⟨v2, rfl, own2, hb2⟩; have hr2 : RdL cInt 1 w2 v2 (zao m cs) := RdS.of_own own2; obtain ⟨A2, c2, rfl, _, _⟩ := hr2.form; have hown2 := zac hown1 hb2; have hrd2 := hrd1.below hb2; have hb02 : Below w.heap.size w w2 := zab hb01 hb2; have hCI := zd0 _ _ w2 hr2 (HO.out.okB hm); have HI : Hid (inv (zao m cs) = 0 ↔ zao m cs = upN m) := HO.out.inv_zero; obtain ⟨ol, hol⟩ : ∃ ol, (zao m cs).length = ol := ⟨_, rfl⟩; rw [hol] at hCI hr2; rw [hol]; obtain ⟨I, hI⟩ : ∃ I, inv (zao m cs) = I := ⟨_, rfl⟩; rw [hI] at hCI HI; clear own2 hb2 hC hown1 hrd1 hb01 hol hI; go_wp2_with fail
  refine hCI.mono ?_; rintro e w3 ⟨rfl, hb3⟩; have hown3 := zac hown2 hb3; have hrd3 := hrd2.below hb3; have hb03 : Below w.heap.size w w3 := zab hb02 hb3; clear hCI hr2 hown2 hrd2 hb02 hb3
  by_cases hI0 : I = 0
  ·have HU := Lib.hid (zxm hq.out (HI.out.1 hI0))
   subst hI0; clear HI; go_wp2_with fail; refine (zib m _ cs _ hrd3 hq.out).mono ?_; rintro e w4 ⟨vp, rfl, ⟨Sp, hp, hfp, _⟩, hb4⟩; have hz4 := hb4.size; obtain ⟨Ap, cp, rfl, _, _⟩ := hp.rd.form; have hown4 := zac hown3 hb4; have hb04 : Below w.heap.size w w4 := zab hb03 hb4
   have hap4 : Hid (∀ b ∈ Sp, b ∉ (Value.slice (some ⟨w.heap.size, 0, none⟩) 0 0).ownBlock.toList) := fun b hb hb' => by
    have := (hfp.2 b hb).1; have h2 := (zc8 hown3 w.heap.size (by simp [Value.ownBlock])).2
    simp [Value.ownBlock] at hb'
    omega
   have hSp : ∀ b ∈ Sp, b < w4.heap.size := fun b hb => (hfp.2 b hb).2
   have hSn := hfp.1; have HPm : Hid (∀ k (hk : k < (zbk m cs).length), ∃ i j : Nat, (zbk m cs)[k] = [(i : Int), (j : Int)] /\ i < j /\ j < m) := fun k hk => zon hk
   have HPl : Hid (∀ k, (zfd (twL m cs) ((zbk m cs).take k)).length <= 49 * 400) := fun k => by
    have e1 := zlf (ll := twL m cs) (ps := (zbk m cs).take k) hm.2 (fun r hr => zkx r (List.mem_of_mem_take hr)) HBD.out
    have h2 := zdr (twL m cs) m m; have h3 : m * m <= 7 * 7 := Nat.mul_le_mul (by omega) (by omega)
    have h4 : ((zbk m cs).take k).length <= 49 := by rw [List.length_take]; unfold zbk; omega
    have h5 := Nat.mul_le_mul_right 400 h4
    omega
   have HUL : Hid (zm0 m cs = zfd (twL m cs) (zbk m cs)) := rfl
   have hlp : (zbk m cs).length <= 49 := by
    have h2 := zdr (twL m cs) m m; have h3 : m * m <= 7 * 7 := Nat.mul_le_mul (by omega) (by omega)
    unfold zbk; omega
   have HTO : Hid (∀ (i j : Nat) (W : World) (v : Value), RdL zah 2 W v cs -> i < m -> j < m -> Calls Tryz.prog 163 #[.int .i64 m, v, .int .i64 i, .int .i64 j] W fun e w' => e = .returned (.int .i64 (cellT (twL m cs) i j)) /\ Below W.heap.size W w') := fun i j W v hr hi hj => zll m i j v cs W hr hq.out hi hj
   clear hown3 hfp hb4 hrd3 hb03; generalize zbk m cs = ps at *
   generalize twL m cs = tw at *
   go_wp2_with fail
   go_loopw [6, 8, 9, 10, 11, 12] (fun p i _ _ _ _ wr => ∃ k : Nat, k <= ps.length /\ i = .int .i64 k /\ wr.ownsRow w.heap.size 82 2 p (zfd tw (ps.take k)).length ((zfd tw (ps.take k)).flatMap zah) /\ zbj 37 3 wr Sp (.slice Ap ps.length cp) ps /\ Hid (∀ b ∈ Sp, b ∉ p.ownBlock.toList) /\ w4.heap.size <= wr.heap.size /\ Below w.heap.size w wr) (fun _ i _ _ _ _ _ => ps.length - (intOf i).toNat)
   case atStart => exact ⟨0, Nat.zero_le _, rfl, hown4, hp, hap4, Nat.le_refl _, hb04⟩
   case round =>
    obtain ⟨k, hk, rfl, hown, hp, hap, hzw, hb⟩ := hrel; clear hown4 hap4 hb04; have hz := hb.size; obtain ⟨Ao, co, rfl, _, _⟩ := (RdS.of_own hown).form
    by_cases hlt : k < ps.length
    ·obtain ⟨i, j, hpk, hij, hjm⟩ := HPm.out k hlt
     have HSN := Lib.hid (zme tw ps hlt); have HPK := Lib.hid hpk; obtain ⟨go, cop, g, cg, e, c1, c2, c3, hgS⟩ := hp.pairAt hSn hlt hpk
     injection e with e1 e2 e3
     subst e1 e3; clear e2 hpk; have HTT : Hid (unwR tw ps[k] = zc7 (zdk i j (decide (cellT tw i j < 0))) (zkj (cellT tw i j))) := by show _ = _; rw [HPK.out, zkm]
     rw [HTT.out] at HSN; clear HTT; have htb := HBD.out i j; have hTO := HTO.out i j wr.drew _ (h0.below hb.drew) (by omega) hjm
     obtain ⟨t, ht⟩ : ∃ t, cellT tw i j = t := ⟨_, rfl⟩; rw [ht] at hTO htb HSN; have hl0 := HPl.out k; obtain ⟨dn1, hd1⟩ : ∃ dn1, zfd tw (ps.take (k + 1)) = dn1 := ⟨_, rfl⟩; rw [hd1] at HSN; have HD1 := Lib.hid hd1; clear ht hd1; generalize zfd tw (ps.take k) = d0 at *
     go_upto_region 8 with (fail)
     go_still_tail 14, (by kernel_rfl)
     change wpList _ _ _ _ _ (World.drew wr); go_wp2_with fail; refine hTO.mono ?_; rintro e wq ⟨rfl, hb5⟩; have hb5' : Below wr.heap.size wr wq := zab ((Below.refl _ _).drew) hb5; have hown5 := zac hown hb5'; have hp5 := hp.below hb5'; have hb05 : Below w.heap.size w wq := zab hb hb5'; have hz5 := hb5'.size; have c1' := za5 hb5' c1; have c2' := za5 hb5' c2; have c3' := za5 hb5' c3; clear c1 c2 c3 hown hp hb hb5 hb5' hTO
     go_upto_region 9 with (fail)
     have hTL : (zdk i j (decide (t < 0))).length <= 16 := by have := zk7 i j (decide (t < 0)); omega
     have HTu : Hid (∀ w, Calls Tryz.prog 164 #[.int .i64 m, .int .i64 i, .int .i64 j, .bool (decide (t < 0))] w fun e w' => ∃ v', e = .returned (.tuple #[v', .bool true]) /\ w'.ownsRow w.heap.size 82 2 v' (zdk i j (decide (t < 0))).length ((zdk i j (decide (t < 0))).flatMap zah) /\ Below w.heap.size w w') := fun w => znt m i j (decide (t < 0)) w hij hjm hm.2
     have HML : Hid (∀ a, a <= 20 -> (zc7 (zdk i j (decide (t < 0))) a).length <= 400) := fun a ha => zna hjm hm.2 ha
     generalize zdk i j (decide (t < 0)) = TL at *
     refine zba (n := 82) 20 (by kernel_rfl) rfl (by kernel_rfl) (fun w' => Below wq.heap.size wq w') (fun _ => 0) (psa wq.heap.size m ps.length cp go k i j g cg TL.length t (decide (t < 0)) (TL.flatMap zah)) (Below.refl _ _).drew ?_ ?_ ?_
     ·intro i v gh gh' w1 w2 hp hJ hb' hg
      match i, hp with
      | 0, hp => exact hp
      | 1, hp => exact hp
      | 2, hp => exact hp
      | 3, hp => exact hp
      | 4, hp => exact hp
      | 5, hp => exact hp
      | 6, hp => exact hp
      | 7, hp => exact hp
      | 8, hp => exact hp
      | 9, hp => exact hp
      | 10, hp => exact hp
      | 11, hp => exact hp
      | 12, hp => exact hp
      | 13, hp => exact hp
      | 14, hp => exact hp
      | 15, ⟨A', c', hv, ho⟩ => exact ⟨A', c', hv, zac ho hb'⟩
      | 16, ⟨A', c', hv, ho⟩ => exact ⟨A', c', hv, zac ho hb'⟩
      | 17, ⟨A', c', hv, ho⟩ => exact ⟨A', c', hv, zac ho hb'⟩
      | 18, hp => exact hp
      | 19, ⟨A', c', hv, ho⟩ => exact ⟨A', c', hv, zac ho hb'⟩
      | _ + 20, _ => trivial
     ·refine ⟨?_, ?_, ?_, ?_, ?_, ?_, ?_, ?_, ?_, ?_, ?_, ?_, ?_, ?_, ?_, ?_, ?_, ?_, ?_, ?_, trivial⟩
      all_goals
       intro a gh w5 hag hJ hd; have ag0 : a.tmps.getD 0 undef = .int .i64 m := hag.k 0
       have ag7 : a.tmps.getD 7 undef = .slice (some ⟨go, 0, none⟩) ps.length cp := hag.k 7
       have ag8 : a.tmps.getD 8 undef = .int .i64 k := hag.k 8
       have ag9 : a.tmps.getD 9 undef = .int .i64 t := hag.k 9
       clear hag
      ·go_wp2_with fail
       exact mp0 hJ rfl
      ·go_wp2_with fail
       exact mp0 hJ rfl
      ·go_wp2_with fail
       exact mp0 hJ rfl
      ·have e0 : a.tmps.getD 52 undef = .slice (some ⟨go, 0, none⟩) ps.length cp := hd 1 (by kernel_rfl) _ rfl
       have e1 : a.tmps.getD 53 undef = .int .i64 k := hd 2 (by kernel_rfl) _ rfl
       go_wp2_with fail; exact mp0 hJ rfl
      ·have e0 : a.tmps.getD 54 undef = .pointer (some ⟨go, k, none⟩) := hd 3 (by kernel_rfl) _ rfl
       have k0 := za5 hJ c1'; go_wp2_with fail; exact mp0 hJ rfl
      ·have e0 : a.tmps.getD 55 undef = .slice (some ⟨g, 0, none⟩) 2 cg := hd 4 (by kernel_rfl) _ rfl
       go_wp2_with fail; exact mp0 hJ rfl
      ·have e0 : a.tmps.getD 56 undef = .pointer (some ⟨g, 0, none⟩) := hd 5 (by kernel_rfl) _ rfl
       have k0 := za5 hJ c2'; go_wp2_with fail; exact mp0 hJ rfl
      ·go_wp2_with fail
       exact mp0 hJ rfl
      ·go_wp2_with fail
       exact mp0 hJ rfl
      ·have e0 : a.tmps.getD 58 undef = .slice (some ⟨go, 0, none⟩) ps.length cp := hd 7 (by kernel_rfl) _ rfl
       have e1 : a.tmps.getD 59 undef = .int .i64 k := hd 8 (by kernel_rfl) _ rfl
       go_wp2_with fail; exact mp0 hJ rfl
      ·have e0 : a.tmps.getD 60 undef = .pointer (some ⟨go, k, none⟩) := hd 9 (by kernel_rfl) _ rfl
       have k0 := za5 hJ c1'; go_wp2_with fail; exact mp0 hJ rfl
      ·have e0 : a.tmps.getD 61 undef = .slice (some ⟨g, 0, none⟩) 2 cg := hd 10 (by kernel_rfl) _ rfl
       go_wp2_with fail; exact mp0 hJ rfl
      ·have e0 : a.tmps.getD 62 undef = .pointer (some ⟨g, 1, none⟩) := hd 11 (by kernel_rfl) _ rfl
       have k0 := za5 hJ c3'; go_wp2_with fail; exact mp0 hJ rfl
      ·go_wp2_with fail
       exact mp0 hJ rfl
      ·have e0 : a.tmps.getD 64 undef = .int .i64 t := hd 13 (by kernel_rfl) _ rfl
       go_wp2_with fail; exact mp0 hJ rfl
      ·have e0 : a.tmps.getD 51 undef = .int .i64 m := hd 0 (by kernel_rfl) _ rfl
       have e1 : a.tmps.getD 57 undef = .int .i64 i := hd 6 (by kernel_rfl) _ rfl
       have e2 : a.tmps.getD 63 undef = .int .i64 j := hd 12 (by kernel_rfl) _ rfl
       have e3 : a.tmps.getD 65 undef = .bool (decide (t < 0)) := hd 14 (by kernel_rfl) _ rfl
       go_wp2_with fail; refine (HTu.out _).mono ?_; rintro e w6 ⟨v5, rfl, own5, hb5⟩; obtain ⟨A5, c5, rfl, _, _⟩ := (RdS.of_own own5).form; go_wp2_with fail; exact ⟨rfl, _, rfl, ⟨A5, c5, rfl, zaj own5 hJ.size⟩, zab hJ hb5, hb5⟩
      ·obtain ⟨A', c', e0, ho⟩ : ∃ A c, a.tmps.getD 66 undef = .tuple #[.slice A TL.length c, .bool true] /\ w5.ownsRow wq.heap.size 82 2 (.slice A TL.length c) TL.length (TL.flatMap zah) := hd 15 (by kernel_rfl) _ rfl
       go_wp2_with fail; exact ⟨rfl, _, rfl, ⟨A', c', rfl, ho⟩, hJ, Below.refl _ _⟩
      ·obtain ⟨A', c', e0, ho⟩ : ∃ A c, a.tmps.getD 50 undef = .tuple #[.slice A TL.length c, .bool true] /\ w5.ownsRow wq.heap.size 82 2 (.slice A TL.length c) TL.length (TL.flatMap zah) := hd 16 (by kernel_rfl) _ rfl
       go_wp2_with fail; exact ⟨rfl, _, rfl, ⟨A', c', rfl, ho⟩, hJ, Below.refl _ _⟩
      ·obtain ⟨A', c', e0, ho⟩ : ∃ A c, a.tmps.getD 50 undef = .tuple #[.slice A TL.length c, .bool true] /\ w5.ownsRow wq.heap.size 82 2 (.slice A TL.length c) TL.length (TL.flatMap zah) := hd 16 (by kernel_rfl) _ rfl
       go_wp2_with fail; exact mp0 hJ rfl
      ·obtain ⟨A', c', e0, ho⟩ : ∃ A c, a.tmps.getD 67 undef = .slice A TL.length c /\ w5.ownsRow wq.heap.size 82 2 (.slice A TL.length c) TL.length (TL.flatMap zah) := hd 17 (by kernel_rfl) _ rfl
       go_wp2_with fail; exact ⟨rfl, _, rfl, ⟨A', c', rfl, ho⟩, hJ, Below.refl _ _⟩
     ·intro a gh w5 hag hJ hd
      obtain ⟨x0, x1, x2, x3, x4, x5, x6, x7, x8, x9, x10, x11, x12, x13, x14, x15, x16, x17, x18, x19, x20, x21, x22, x23, x24, x25, x26, x27, x28, x29, x30, x31, x32, x33, x34, x35, x36, x37, x38, x39, x40, x41, x42, x43, x44, x45, x46, x47, x48, x49, x50, x51, x52, x53, x54, x55, x56, x57, x58, x59, x60, x61, x62, x63, x64, x65, x66, x67, x68, x69, x70, x71, x72, x73, x74, x75, x76, x77, x78, x79, x80, x81, rfl⟩ := zx8 hag.size hag.defers; have ag0 : x0 = .int .i64 m := hag.k 0
      have ag1 : x1 = .slice A cs.length c := hag.k 1
      have ag2 : x2 = undef := hag.k 2
      have ag3 : x3 = undef := hag.k 3
      have ag4 : x4 = .slice none 0 0 := hag.k 4
      have ag5 : x5 = .bool false := hag.k 5
      have ag6 : x6 = .slice Ao d0.length co := hag.k 6
      have ag7 : x7 = .slice (some ⟨go, 0, none⟩) ps.length cp := hag.k 7
      have ag8 : x8 = .int .i64 k := hag.k 8
      have ag9 : x9 = .int .i64 t := hag.k 9
      have ag13 : x13 = .slice (some ⟨w.heap.size, 0, none⟩) 0 0 := hag.k 13
      have ag14 : x14 = .int .i64 m := hag.k 14
      have ag15 : x15 = .slice A cs.length c := hag.k 15
      have ag16 : x16 = .bool true := hag.k 16
      have ag17 : x17 = .bool false := hag.k 17
      have ag18 : x18 = .bool false := hag.k 18
      have ag19 : x19 = .int .i64 m := hag.k 19
      have ag20 : x20 = .slice A cs.length c := hag.k 20
      have ag21 : x21 = .slice A2 ol c2 := hag.k 21
      have ag22 : x22 = .int .i64 0 := hag.k 22
      have ag23 : x23 = .bool false := hag.k 23
      have ag24 : x24 = .bool false := hag.k 24
      have ag25 : x25 = undef := hag.k 25
      have ag26 : x26 = .int .i64 m := hag.k 26
      have ag27 : x27 = .slice A cs.length c := hag.k 27
      have ag28 : x28 = .slice (some ⟨go, 0, none⟩) ps.length cp := hag.k 28
      have ag81 : x81 = undef := hag.k 81
      clear hag; subst ag0 ag1 ag2 ag3 ag4 ag5 ag6 ag7 ag8 ag9 ag13 ag14 ag15 ag16 ag17 ag18 ag19 ag20 ag21 ag22 ag23 ag24 ag25 ag26 ag27 ag28 ag81; obtain ⟨A5, c5, e0, own5⟩ : ∃ A c, x10 = .slice A TL.length c /\ w5.ownsRow wq.heap.size 82 2 (.slice A TL.length c) TL.length (TL.flatMap zah) := hd 19 (by kernel_rfl) _ rfl
      have e2 : x68 = .bool true := hd 18 (by kernel_rfl) _ rfl
      subst e0 e2; change wpList _ _ _ [_] _ _; have hpw := hp5.below hJ; have hownw := zac hown5 hJ; have hbw := zab hb05 hJ; have hzw2 : w4.heap.size <= w5.heap.size := by have := hJ.size; omega
      have hapw := Lib.hid (zia own5 hown5 (Nat.le_refl _)); have ownTL := zaj own5 (Nat.zero_le _); obtain ⟨N, hN⟩ : ∃ N, t.natAbs = N := ⟨_, rfl⟩; rw [zkj, hN] at HSN; have hcase : (t = -(N : Int) /\ 0 < N) ∨ t = (N : Int) := by omega
      have hN40 : N <= 40 := by omega
      have hd00 : w5.ownsRow w.heap.size 82 2 (.slice Ao d0.length co) (d0 ++ zc7 TL 0).length ((d0 ++ zc7 TL 0).flatMap zah) := by rw [show d0 ++ zc7 TL 0 = d0 from List.append_nil d0]; exact hownw
      clear hJ hd own5 hown5 hp5 hb05 hN htb HBD hownw; obtain ⟨T, hT⟩ : ∃ T, N / 2 = T := ⟨_, rfl⟩; have hT2 : (N : Int) / 2 = (T : Int) := by omega
      rw [hT] at HSN; have hT20 : T <= 20 := by omega
      have HT := Lib.hid hT; clear hT; have hw9 : IntKind.i64.wrap (-(N : Int)) = -(N : Int) := IntWalk.i64_in _ (by omega)
      have hw8 : IntKind.i64.wrap (N : Int) = (N : Int) := IntWalk.i64_in _ (by omega)
      have hN1 : ¬ (N : Int) < -(N : Int) := by omega
      rcases hcase with ⟨rfl, hNp⟩ | rfl
      all_goals
       (try have hN2 : -(N : Int) < (N : Int) := by omega)
       go_upto_region 11 with (fail)
       (try rw [hT2])
       clear hw8 hw9 hN1 hN40 hT2
       (try clear hN2 hNp)
       go_loopw [6, 12] (fun p b wr => ∃ a : Nat, a <= T /\ b = .int .i64 ((T - a : Nat) : Int) /\ wr.ownsRow w.heap.size 82 2 p (d0 ++ zc7 TL a).length ((d0 ++ zc7 TL a).flatMap zah) /\ zbj 37 3 wr Sp (.slice (some ⟨go, 0, none⟩) ps.length cp) ps /\ Hid (∀ b ∈ Sp, b ∉ p.ownBlock.toList) /\ wr.ownsRow 0 82 2 (.slice A5 TL.length c5) TL.length (TL.flatMap zah) /\ Hid (zfy (.slice A5 TL.length c5) p) /\ w4.heap.size <= wr.heap.size /\ Below w.heap.size w wr) (fun _ b _ => (intOf b).toNat)
       case atStart => exact ⟨0, Nat.zero_le _, rfl, hd00, hpw, hap, ownTL, hapw, hzw2, hbw⟩
       case round =>
        obtain ⟨a, ha, rfl, hown, hp, hap, hTLo, hapT, hzw, hb⟩ := hrel; clear hd00 hpw ownTL hapw hzw2 hbw; have hml := HML.out a (by omega)
        have hz3 := hb.size; obtain ⟨Ao, co, rfl, _, _⟩ := (RdS.of_own hown).form
        by_cases hlt2 : a < T
        ·have HS2 : Hid (d0 ++ zc7 TL (a + 1) = (d0 ++ zc7 TL a) ++ TL) := by show _ = _; rw [zo7, List.append_assoc]
         have hda : (d0 ++ zc7 TL a).length <= 20000 := by rw [List.length_append]; omega
         generalize d0 ++ zc7 TL a = da at *
         obtain ⟨r, hr⟩ : ∃ r, T - a = r + 1 := ⟨T - a - 1, by omega⟩
         have hr2 : T - (a + 1) = r := by omega
         rw [hr]; have HR := Lib.hid (And.intro hr hr2); have hr0 : ((r + 1 : Nat) : Int) > 0 := by omega
         have hw7 : IntKind.i64.wrap (((r + 1 : Nat) : Int) - 1) = (r : Int) := by rw [IntWalk.i64_in _ (by omega)]; omega
         have hw6 : (r : Int) + 1 > 0 := by omega
         have hw5 : IntKind.i64.wrap (r : Int) = (r : Int) := IntWalk.i64_in _ (by omega)
         have HRb : Hid (r <= 20) := by show r <= 20; omega
         clear hr hr2
         go_wp2_with (at_builtin; refine zae _ rfl (.tmp 78) (.tmp 79) _ rfl w.heap.size 82 iX _ 2 16 Tryz.underlying33 hiX hzX0 hzX1 hzX2 rfl (by omega) _ da.length (da.flatMap zah) rfl hown _ TL.length (TL.flatMap zah) rfl (RdS.of_own hTLo) (zar zea TL) (by simp [maxLen]; omega) (by omega) (by omega) ?_; intro v6 w6 own6 gr6 at6)
         have hch := Chg.of_grown gr6; obtain ⟨hp6, hap6⟩ := zo2 hp (Below.refl _ _) (fun b hb => by have := hSp b hb; omega) hap.out gr6 at6
         have hz6 := gr6.size; have hb6 : Below w.heap.size w w6 := hb.trans (zag hown gr6 (by omega))
         have HAP := Lib.hid hap6; have hTL6 := Lib.hid (za0 hTLo hch hapT.out); have hapT6 := Lib.hid (zfp hTLo hapT.out (Nat.le_refl _) at6); obtain ⟨A6, c6, rfl, _, _⟩ := (RdS.of_own own6).form; clear gr6 at6 hch hap6 hTLo hapT; go_wp2_with fail; go_roundw
         case rel => exact ⟨a + 1, hlt2, (by first | exact zcn (show (r : Int) = ((T - (a + 1) : Nat) : Int) from by rw [HR.out.2]) | exact zcn (show wrap64 (r : Int) = ((T - (a + 1) : Nat) : Int) from by rw [HR.out.2]; exact IntWalk.wrap64_in _ (by have := HRb.out; omega))), by rw [HS2.out, List.length_append, List.flatMap_append]; exact own6, hp6, HAP.out, hTL6.out, hapT6.out, Nat.le_trans hzw hz6, hb6⟩
         case measure => first | exact Nat.lt_succ_self r | (rw [IntWalk.wrap64_in (r : Int) (by have := HRb.out; omega)]; exact Nat.lt_succ_self r)
        ·obtain rfl : a = T := by omega
         rw [<- HSN.out] at hown hap ⊢; rw [Nat.sub_self]; go_wp2_with fail; go_roundw
         case rel => exact ⟨k + 1, by omega, by go_num, by rw [HD1.out]; exact hown, hp, hap, hzw, hb⟩
         case measure => simp [intOf]; omega
    ·obtain rfl : k = ps.length := by omega
     rw [List.take_length] at hown ⊢; go_wp2_with fail; go_ret2; rw [HU.out.1, HU.out.2, HUL.out]; exact ⟨_, rfl, hown, hb⟩
  ·have HU := Lib.hid (zui (m := m) (fun e => hI0 (HI.out.2 e)))
   have hI' : ((I : Int) != 0) = true := by rw [bne_iff_ne]; omega
   clear HI; go_wp2_with fail; go_ret2; rw [HU.out.1, HU.out.2]; exact ⟨_, rfl, hown3, hb03⟩
 ·have HU := Lib.hid (ztx hq.out)
  have hown1 := zac hownA hb1; have hb01 : Below w.heap.size w w1 := zab hbA hb1; go_wp2_with fail; go_ret2; rw [HU.out.1, HU.out.2]; exact ⟨_, rfl, hown1, hb01⟩
def untB (n : Int) (cs : List zad) (pl : List RPl) : Bool := unwB n cs && zcq n cs pl (unwV n cs)
def untC (n : Int) (cs : List zad) (pl : List RPl) : List zad := if untB n cs pl = true then cs ++ unwV n cs else cs
theorem zxq (n : Int) (cs : List zad) (pl : List RPl) : zam (untC n cs pl) pl <= zam cs pl ∨ zam (untC n cs pl) pl <= 1000 := by
 unfold untC
 split
 ·rename_i h
  rw [untB, Bool.and_eq_true] at h; have := ztq n cs pl (unwV n cs)
  rwa [zdi, if_pos h.2] at this
 ·exact .inl (Nat.le_refl _)
theorem zzn {n : Int} {cs hl uc : List zad} {pl : List RPl} {ub : Bool} (h : ub = (true && zcq n cs pl hl) /\ uc = if ub = true then cs ++ hl else cs) : zcq n cs pl hl = ub /\ zdi n cs pl hl = uc := by
 obtain ⟨h1, h2⟩ := h; rw [Bool.true_and] at h1; exact ⟨h1.symm, by rw [h2, h1]; rfl⟩
theorem zz1 {n : Int} {cs hl uc : List zad} {pl : List RPl} {ub : Bool} (h : ub = (false && zcq n cs pl hl) /\ uc = if ub = true then cs ++ hl else cs) : false = ub /\ cs = uc := by
 obtain ⟨h1, h2⟩ := h; rw [Bool.false_and] at h1; exact ⟨h1.symm, by rw [h2, h1]; rfl⟩
theorem zk1 (n : Int) (v1 v2 : Value) (cs : List zad) (pl : List RPl) (w : World) (h : zaq w v1 v2 cs pl) (hsz : zam cs pl <= 1048576) :
  Calls Tryz.prog 120 #[.agg #[.int .i64 n, v1, v2]] w (zbb n (untB n cs pl) (untC n cs pl) pl w) := by
 obtain ⟨⟨A1, n1, rfl⟩, ⟨A2, n2, rfl⟩⟩ := h.forms; have hU := fun W v hr => zip n v cs W hr
 have HU : Hid (∀ (W : World) (v : Value), RdL zah 2 W v cs -> Calls Tryz.prog 152 #[.int .i64 n, v] W (zqx (unwB n cs) (unwV n cs) W)) := fun W v hr => hU W v hr
 clear hU; have hll := zr2 n cs; have HG := Lib.hid (show untB n cs pl = (unwB n cs && zcq n cs pl (unwV n cs)) /\ untC n cs pl = if untB n cs pl = true then cs ++ unwV n cs else cs from ⟨rfl, rfl⟩)
 generalize untB n cs pl = ub at *
 generalize untC n cs pl = uc at *
 generalize unwB n cs = u at *
 generalize unwV n cs = hl at *
 cases u
 ·skip
  obtain ⟨rfl, rfl⟩ := zz1 HG.out; clear HG
  go_enter Tryz.func120, Tryz.ntmps120
  go_wp2_with fail; refine (HU.out _ _ (h.below (bM)).1).mono ?_
  rintro e W1 ⟨vl, rfl, ownl, q⟩; have hvl : RdL zah 2 W1 vl hl := RdS.of_own ownl; clear ownl; obtain ⟨Al, cl, rfl, _, _⟩ := hvl.form; have Lc : Loc W1 (w.heap.size) [.int .i64 n, .slice A1 cs.length n1, .slice A2 pl.length n2] := by have := ((Loc.new w #[.int .i64 n, .slice A1 cs.length n1, .slice A2 pl.length n2] 36).alloc _).below q; simpa using this
  have Lr : Loc W1 (w.heap.size + 1) [.int .i64 0, .slice none 0 0, .slice none 0 0] := by have := (Loc.new (w.alloc (.cells #[.int .i64 n, .slice A1 cs.length n1, .slice A2 pl.length n2] 36)) #[.int .i64 0, .slice none 0 0, .slice none 0 0] 36).below q; simpa using this
  have hb : Below w.heap.size w W1 := Below.trans (bM) (q.mono (by simp <;> omega))
  have hz0 : w.heap.size + 1 + 1 <= W1.heap.size := by have := q.size; simp at this; omega
  clear q; obtain ⟨c0, c1, c2⟩ := Lc.a3; go_wp2_with fail; refine (zb5 n _ _ cs pl _ (h.below hb) hsz).mono ?_; rintro e W2 ⟨x1, x2, S, rfl, ow, f1, q⟩; clear c0 c1 c2; obtain ⟨⟨B1, k1, rfl⟩, ⟨B2, k2, rfl⟩⟩ := ow.rd.forms; clear hvl hll; have hzq : W1.heap.size <= W2.heap.size := by have := q.size; (try simp at this); omega
  replace Lc := Lc.below q; replace Lr := Lr.below q; replace hb : Below w.heap.size w W2 := hb.trans (q.mono hb.size); have hlow : W1.heap.size <= W1.heap.size := by first | exact Nat.le_refl _ | (simp; done) | (simp; omega) | omega
  have FK := Lib.hid (zaa f1 hlow (Nat.le_refl _)); have DK : Hid (∀ x ∈ S, x ∉ [w.heap.size, w.heap.size + 1]) := (fun x hx => by have := (FK.out.2 x hx).1; simp; omega)
  have OK := Lib.hid ow; clear ow f1 hlow; clear q; obtain ⟨r0, r1, r2⟩ := Lr.a3; obtain ⟨rf0, rf1, rf2⟩ := Lr.b3; go_wp2_with fail; refine bodyPost_ret (v := .tuple #[.agg #[.int .i64 n, .slice B1 cs.length k1, .slice B2 pl.length k2], .bool false]) (by simp [results, Tryz.results120, go_sem, *]) rfl (⟨_, _, S, rfl, ?_, ?_, ?_⟩)
  ·exact OK.out.chg (T := [w.heap.size + 1]) (cS) (fun x hx hx' => DK.out x hx (by simp at hx'; subst hx'; simp))
  ·exact zaa FK.out (by omega) (by simp)
  ·exact Below.chg hb (S := [w.heap.size + 1]) (cS) hb.size (fun x hx => by simp at hx; omega)
 ·skip
  have HW : Hid (∀ (W : World) (vl v1 v2 : Value), zaq W v1 v2 cs pl -> RdL zah 2 W vl hl -> Calls Tryz.prog 150 #[.agg #[.int .i64 n, v1, v2], vl] W (zbb n ub uc pl W)) := by
   obtain ⟨e1, e2⟩ := zzn HG.out; rw [<- e1, <- e2]; exact fun W vl v1 v2 h1 h2 => zgm n v1 v2 vl cs pl hl W h1 h2 (by omega) hsz
  clear HG
  go_enter Tryz.func120, Tryz.ntmps120
  go_wp2_with fail; refine (HU.out _ _ (h.below (bM)).1).mono ?_
  rintro e W1 ⟨vl, rfl, ownl, q⟩; have hvl : RdL zah 2 W1 vl hl := RdS.of_own ownl; clear ownl; obtain ⟨Al, cl, rfl, _, _⟩ := hvl.form; have Lc : Loc W1 (w.heap.size) [.int .i64 n, .slice A1 cs.length n1, .slice A2 pl.length n2] := by have := ((Loc.new w #[.int .i64 n, .slice A1 cs.length n1, .slice A2 pl.length n2] 36).alloc _).below q; simpa using this
  have Lr : Loc W1 (w.heap.size + 1) [.int .i64 0, .slice none 0 0, .slice none 0 0] := by have := (Loc.new (w.alloc (.cells #[.int .i64 n, .slice A1 cs.length n1, .slice A2 pl.length n2] 36)) #[.int .i64 0, .slice none 0 0, .slice none 0 0] 36).below q; simpa using this
  have hb : Below w.heap.size w W1 := Below.trans (bM) (q.mono (by simp <;> omega))
  have hz0 : w.heap.size + 1 + 1 <= W1.heap.size := by have := q.size; simp at this; omega
  clear q; obtain ⟨c0, c1, c2⟩ := Lc.a3; go_wp2_with fail; refine (HW.out _ _ _ _ (h.below hb) hvl).mono ?_; rintro e W2 ⟨x1, x2, S, rfl, ow, f1, q⟩; clear c0 c1 c2; obtain ⟨⟨B1, k1, rfl⟩, ⟨B2, k2, rfl⟩⟩ := ow.rd.forms; clear hvl; have hzq : W1.heap.size <= W2.heap.size := by have := q.size; (try simp at this); omega
  replace Lc := Lc.below q; replace Lr := Lr.below q; replace hb : Below w.heap.size w W2 := hb.trans (q.mono hb.size); have hlow : W1.heap.size <= W1.heap.size := by first | exact Nat.le_refl _ | (simp; done) | (simp; omega) | omega
  have FK := Lib.hid (zaa f1 hlow (Nat.le_refl _)); have DK : Hid (∀ x ∈ S, x ∉ [w.heap.size, w.heap.size + 1]) := (fun x hx => by have := (FK.out.2 x hx).1; simp; omega)
  have OK := Lib.hid ow; clear ow f1 hlow; clear q; obtain ⟨r0, r1, r2⟩ := Lr.a3; obtain ⟨rf0, rf1, rf2⟩ := Lr.b3; go_wp2_with fail; refine bodyPost_ret (v := .tuple #[.agg #[.int .i64 n, .slice B1 uc.length k1, .slice B2 pl.length k2], .bool ub]) (by simp [results, Tryz.results120, go_sem, *]) rfl (⟨_, _, S, rfl, ?_, ?_, ?_⟩)
  ·exact OK.out.chg (T := [w.heap.size + 1]) (cS) (fun x hx hx' => DK.out x hx (by simp at hx'; subst hx'; simp))
  ·exact zaa FK.out (by omega) (by simp)
  ·exact Below.chg hb (S := [w.heap.size + 1]) (cS) hb.size (fun x hx => by simp at hx; omega)
theorem zkn (n : Int) (v1 v2 : Value) (cs : List zad) (pl : List RPl) (w : World) (h : zaq w v1 v2 cs pl) (hsz : zam cs pl <= 1048576) :
  Calls Tryz.prog 98 #[.agg #[.int .i64 n, v1, v2]] w (zbb n (untB n cs pl) (untC n cs pl) pl w) := by
 obtain ⟨⟨A1, n1, rfl⟩, ⟨A2, n2, rfl⟩⟩ := h.forms; have hU := fun W v hr => ziz n v cs W hr
 have HU : Hid (∀ (W : World) (v : Value), RdL zah 2 W v cs -> Calls Tryz.prog 131 #[.int .i64 n, v] W (zqx (unwB n cs) (unwV n cs) W)) := fun W v hr => hU W v hr
 clear hU; have hll := zr2 n cs; have HG := Lib.hid (show untB n cs pl = (unwB n cs && zcq n cs pl (unwV n cs)) /\ untC n cs pl = if untB n cs pl = true then cs ++ unwV n cs else cs from ⟨rfl, rfl⟩)
 generalize untB n cs pl = ub at *
 generalize untC n cs pl = uc at *
 generalize unwB n cs = u at *
 generalize unwV n cs = hl at *
 cases u
 ·skip
  obtain ⟨rfl, rfl⟩ := zz1 HG.out; clear HG
  go_enter Tryz.func98, Tryz.ntmps98
  go_wp2_with fail; refine (HU.out _ _ (h.below (bM)).1).mono ?_
  rintro e W1 ⟨vl, rfl, ownl, q⟩; have hvl : RdL zah 2 W1 vl hl := RdS.of_own ownl; clear ownl; obtain ⟨Al, cl, rfl, _, _⟩ := hvl.form; have Lc : Loc W1 (w.heap.size) [.int .i64 n, .slice A1 cs.length n1, .slice A2 pl.length n2] := by have := ((Loc.new w #[.int .i64 n, .slice A1 cs.length n1, .slice A2 pl.length n2] 36).alloc _).below q; simpa using this
  have Lr : Loc W1 (w.heap.size + 1) [.int .i64 0, .slice none 0 0, .slice none 0 0] := by have := (Loc.new (w.alloc (.cells #[.int .i64 n, .slice A1 cs.length n1, .slice A2 pl.length n2] 36)) #[.int .i64 0, .slice none 0 0, .slice none 0 0] 36).below q; simpa using this
  have hb : Below w.heap.size w W1 := Below.trans (bM) (q.mono (by simp <;> omega))
  have hz0 : w.heap.size + 1 + 1 <= W1.heap.size := by have := q.size; simp at this; omega
  clear q; obtain ⟨c0, c1, c2⟩ := Lc.a3; go_wp2_with fail; refine (zdt n _ _ cs pl _ (h.below hb) hsz).mono ?_; rintro e W2 ⟨x1, x2, S, rfl, ow, f1, q⟩; clear c0 c1 c2; obtain ⟨⟨B1, k1, rfl⟩, ⟨B2, k2, rfl⟩⟩ := ow.rd.forms; clear hvl hll; have hzq : W1.heap.size <= W2.heap.size := by have := q.size; (try simp at this); omega
  replace Lc := Lc.below q; replace Lr := Lr.below q; replace hb : Below w.heap.size w W2 := hb.trans (q.mono hb.size); have hlow : W1.heap.size <= W1.heap.size := by first | exact Nat.le_refl _ | (simp; done) | (simp; omega) | omega
  have FK := Lib.hid (zaa f1 hlow (Nat.le_refl _)); have DK : Hid (∀ x ∈ S, x ∉ [w.heap.size, w.heap.size + 1]) := (fun x hx => by have := (FK.out.2 x hx).1; simp; omega)
  have OK := Lib.hid ow; clear ow f1 hlow; clear q; obtain ⟨r0, r1, r2⟩ := Lr.a3; obtain ⟨rf0, rf1, rf2⟩ := Lr.b3; go_wp2_with fail; refine bodyPost_ret (v := .tuple #[.agg #[.int .i64 n, .slice B1 cs.length k1, .slice B2 pl.length k2], .bool false]) (by simp [results, Tryz.results98, go_sem, *]) rfl (⟨_, _, S, rfl, ?_, ?_, ?_⟩)
  ·exact OK.out.chg (T := [w.heap.size + 1]) (cS) (fun x hx hx' => DK.out x hx (by simp at hx'; subst hx'; simp))
  ·exact zaa FK.out (by omega) (by simp)
  ·exact Below.chg hb (S := [w.heap.size + 1]) (cS) hb.size (fun x hx => by simp at hx; omega)
 ·skip
  have HW : Hid (∀ (W : World) (vl v1 v2 : Value), zaq W v1 v2 cs pl -> RdL zah 2 W vl hl -> Calls Tryz.prog 129 #[.agg #[.int .i64 n, v1, v2], vl] W (zbb n ub uc pl W)) := by
   obtain ⟨e1, e2⟩ := zzn HG.out; rw [<- e1, <- e2]; exact fun W vl v1 v2 h1 h2 => zis n v1 v2 vl cs pl hl W h1 h2 (by omega) hsz
  clear HG
  go_enter Tryz.func98, Tryz.ntmps98
  go_wp2_with fail; refine (HU.out _ _ (h.below (bM)).1).mono ?_
  rintro e W1 ⟨vl, rfl, ownl, q⟩; have hvl : RdL zah 2 W1 vl hl := RdS.of_own ownl; clear ownl; obtain ⟨Al, cl, rfl, _, _⟩ := hvl.form; have Lc : Loc W1 (w.heap.size) [.int .i64 n, .slice A1 cs.length n1, .slice A2 pl.length n2] := by have := ((Loc.new w #[.int .i64 n, .slice A1 cs.length n1, .slice A2 pl.length n2] 36).alloc _).below q; simpa using this
  have Lr : Loc W1 (w.heap.size + 1) [.int .i64 0, .slice none 0 0, .slice none 0 0] := by have := (Loc.new (w.alloc (.cells #[.int .i64 n, .slice A1 cs.length n1, .slice A2 pl.length n2] 36)) #[.int .i64 0, .slice none 0 0, .slice none 0 0] 36).below q; simpa using this
  have hb : Below w.heap.size w W1 := Below.trans (bM) (q.mono (by simp <;> omega))
  have hz0 : w.heap.size + 1 + 1 <= W1.heap.size := by have := q.size; simp at this; omega
  clear q; obtain ⟨c0, c1, c2⟩ := Lc.a3; go_wp2_with fail; refine (HW.out _ _ _ _ (h.below hb) hvl).mono ?_; rintro e W2 ⟨x1, x2, S, rfl, ow, f1, q⟩; clear c0 c1 c2; obtain ⟨⟨B1, k1, rfl⟩, ⟨B2, k2, rfl⟩⟩ := ow.rd.forms; clear hvl; have hzq : W1.heap.size <= W2.heap.size := by have := q.size; (try simp at this); omega
  replace Lc := Lc.below q; replace Lr := Lr.below q; replace hb : Below w.heap.size w W2 := hb.trans (q.mono hb.size); have hlow : W1.heap.size <= W1.heap.size := by first | exact Nat.le_refl _ | (simp; done) | (simp; omega) | omega
  have FK := Lib.hid (zaa f1 hlow (Nat.le_refl _)); have DK : Hid (∀ x ∈ S, x ∉ [w.heap.size, w.heap.size + 1]) := (fun x hx => by have := (FK.out.2 x hx).1; simp; omega)
  have OK := Lib.hid ow; clear ow f1 hlow; clear q
  go_upto_region 5 with (fail)
  replace Lc : Loc (W2.alloc (.cells #[.int .i64 n, .slice B1 uc.length k1, .slice B2 pl.length k2] 36)) (w.heap.size) [.int .i64 n, .slice A1 cs.length n1, .slice A2 pl.length n2] := Lc.alloc _; replace Lr : Loc (W2.alloc (.cells #[.int .i64 n, .slice B1 uc.length k1, .slice B2 pl.length k2] 36)) (w.heap.size + 1) [.int .i64 0, .slice none 0 0, .slice none 0 0] := Lr.alloc _; obtain ⟨go, hgo⟩ : ∃ g, W2.heap.size = g := ⟨_, rfl⟩; have Lo : Loc (W2.alloc (.cells #[.int .i64 n, .slice B1 uc.length k1, .slice B2 pl.length k2] 36)) W2.heap.size [.int .i64 n, .slice B1 uc.length k1, .slice B2 pl.length k2] := Loc.new W2 #[.int .i64 n, .slice B1 uc.length k1, .slice B2 pl.length k2] 36; rw [hgo] at Lo; replace OK := Lib.hid (OK.out.below (w' := (W2.alloc (.cells #[.int .i64 n, .slice B1 uc.length k1, .slice B2 pl.length k2] 36))) ((Below.refl _ _).alloc (Nat.le_refl _) _)); replace DK : Hid (∀ x ∈ S, x ∉ [w.heap.size, w.heap.size + 1, go]) := (fun x hx => by have := DK.out x hx; have := (FK.out.2 x hx).2; simp at *; omega)
  replace FK := Lib.hid (zaa (w' := (W2.alloc (.cells #[.int .i64 n, .slice B1 uc.length k1, .slice B2 pl.length k2] 36))) FK.out (Nat.le_refl _) (by simp))
  replace hb : Below w.heap.size w (W2.alloc (.cells #[.int .i64 n, .slice B1 uc.length k1, .slice B2 pl.length k2] 36)) := hb.alloc hb.size _; have hlto : go < (W2.alloc (.cells #[.int .i64 n, .slice B1 uc.length k1, .slice B2 pl.length k2] 36)).heap.size := by simp; omega
  have hne_c_o : w.heap.size < go := by omega
  have hne_r_o : w.heap.size + 1 < go := by omega
  generalize W2.alloc (.cells #[.int .i64 n, .slice B1 uc.length k1, .slice B2 pl.length k2] 36) = W3 at *
  rw [hgo]; clear hgo; obtain ⟨o0, o1, o2⟩ := Lo.a3; obtain ⟨r0, r1, r2⟩ := Lr.a3; obtain ⟨rf0, rf1, rf2⟩ := Lr.b3; go_wp2_with fail; refine bodyPost_ret (v := .tuple #[.agg #[.int .i64 n, .slice B1 uc.length k1, .slice B2 pl.length k2], .bool ub]) (by simp [results, Tryz.results98, go_sem, *]) rfl (⟨_, _, S, rfl, ?_, ?_, ?_⟩)
  ·exact OK.out.chg (T := [w.heap.size + 1]) (cS) (fun x hx hx' => DK.out x hx (by simp at hx'; subst hx'; simp))
  ·exact zaa FK.out (by omega) (by simp)
  ·exact Below.chg hb (S := [w.heap.size + 1]) (cS) hb.size (fun x hx => by simp at hx; omega)
def putC (n : Int) (cs : List zad) (pl : List RPl) : List zad := zmu n (untC n (goC n cs pl) pl) pl
def putT (t : Th) : Th × Bool := becF t ⟨t.n, t.m, putC t.n t.cs t.pl, t.pl, t.ds⟩ (goB t.n t.cs t.pl && untB t.n (goC t.n t.cs t.pl) t.pl)
theorem zoi {n : Int} {cs l : List zad} {pl : List RPl} (h : zcq n cs pl l = true) : za7 n (zdi n cs pl l) pl = true := by
 rw [zdi, if_pos h]; rw [zcq, Bool.and_eq_true] at h; exact h.2
theorem zqd {n : Int} {cs : List zad} {pl : List RPl} (h : untB n cs pl = true) : za7 n (untC n cs pl) pl = true := by
 rw [untC, if_pos h]; rw [untB, Bool.and_eq_true] at h; have := zoi h.2
 rwa [zdi, if_pos h.2] at this
theorem zoe {n : Int} {cs : List zad} {pl : List RPl} (h : za7 n cs pl = true) : za7 n (zmu n cs pl) pl = true := by
 rw [zmu, if_pos h]; obtain ⟨h1, h2⟩ := zhz h; obtain ⟨hn, _, _⟩ := za2 h1; obtain ⟨m, rfl⟩ := Int.eq_ofNat_of_zero_le (show 0 <= n by omega)
 rw [za7, Bool.and_eq_true]; refine ⟨?_, h2⟩; unfold redL; rw [if_pos h1]; exact zsx h1
theorem zxu {n m : Int} {cs : List zad} {pl : List RPl} {ds : List Int} (h : zau n m cs pl ds = true) (h2 : untB n (goC n cs pl) pl = true) : zau n m (putC n cs pl) pl ds = true := by
 unfold zau at h ⊢; rw [Bool.and_eq_true, Bool.and_eq_true] at h ⊢; exact ⟨⟨zoe (zqd h2), h.1.2⟩, h.2⟩
theorem zh0 (n m : Int) (v1 v2 v3 : Value) (cs : List zad) (pl : List RPl) (ds : List Int) (w : World) (h : zak w v1 v2 v3 cs pl ds) (hsz : zas cs pl ds <= 1048576) :
  Calls Tryz.prog 81 #[.agg #[.int .i64 n, v1, v2, v3, .int .i64 m]] w (zhf w.heap.size (putT ⟨n, m, cs, pl, ds⟩) w) := by
 obtain ⟨⟨A1, n1, rfl⟩, ⟨A2, n2, rfl⟩, ⟨A3, n3, rfl⟩⟩ := h.forms; have hszc : zam cs pl <= 1048576 := by unfold zas at hsz; omega
 have hs1 := zzr n cs pl; have hs2 := zxq n (goC n cs pl) pl; unfold putT; have HG : Hid (∀ W v1 v2, zaq W v1 v2 cs pl -> Calls Tryz.prog 119 #[.agg #[.int .i64 n, v1, v2]] W (zbb n (goB n cs pl) (goC n cs pl) pl W)) := fun W v1 v2 hr => zlr n v1 v2 cs pl W hr (by omega)
 have HU : Hid (∀ W v1 v2, zaq W v1 v2 (goC n cs pl) pl -> Calls Tryz.prog 120 #[.agg #[.int .i64 n, v1, v2]] W (zbb n (untB n (goC n cs pl) pl) (untC n (goC n cs pl) pl) pl W)) := fun W v1 v2 hr => zk1 n v1 v2 (goC n cs pl) pl W hr (by omega)
 have HT : Hid (∀ W v1 v2, zaq W v1 v2 (untC n (goC n cs pl) pl) pl -> Calls Tryz.prog 121 #[.agg #[.int .i64 n, v1, v2]] W (zc4 n (putC n cs pl) pl W)) := fun W v1 v2 hr => zn9 n v1 v2 (untC n (goC n cs pl) pl) pl W hr (by omega)
 have HOK : Hid (zau n m cs pl ds = true -> untB n (goC n cs pl) pl = true -> zau n m (putC n cs pl) pl ds = true) := fun h h2 => zxu h h2
 clear hs1 hs2; generalize putC n cs pl = c3 at *
 generalize untC n (goC n cs pl) pl = c2 at *
 generalize untB n (goC n cs pl) pl = b2 at *
 generalize goC n cs pl = c1 at *
 generalize goB n cs pl = b1 at *
 obtain ⟨⟨⟨rn, rm, rcs, rpl, rds⟩, rb⟩, hres⟩ : ∃ res, becF ⟨n, m, cs, pl, ds⟩ ⟨n, m, c3, pl, ds⟩ (b1 && b2) = res := ⟨_, rfl⟩; rw [hres]; change Calls _ _ _ _ (RetT w.heap.size rn rm rb rcs rpl rds w); have Hres := Lib.hid hres; clear hres
 go_enter Tryz.func81, Tryz.ntmps81
 go_wp2_with fail; refine (zay n m _ _ _ cs pl ds _ (h.below (bM)) hsz).mono ?_
 rintro e W1 ⟨x1, x2, x3, S, rfl, ow, f1, q⟩; obtain ⟨⟨B1, k1, rfl⟩, ⟨B2, k2, rfl⟩, ⟨B3, k3, rfl⟩⟩ := ow.rd.forms; have Lc : Loc W1 (w.heap.size) [.int .i64 n, .slice A1 cs.length n1, .slice A2 pl.length n2, .slice A3 ds.length n3, .int .i64 m] := by have := ((Loc.new w #[.int .i64 n, .slice A1 cs.length n1, .slice A2 pl.length n2, .slice A3 ds.length n3, .int .i64 m] 39).alloc _).below q; simpa using this
 have Lr : Loc W1 (w.heap.size + 1) [.int .i64 0, .slice none 0 0, .slice none 0 0, .slice none 0 0, .int .i64 0] := by have := (Loc.new (w.alloc (.cells #[.int .i64 n, .slice A1 cs.length n1, .slice A2 pl.length n2, .slice A3 ds.length n3, .int .i64 m] 39)) #[.int .i64 0, .slice none 0 0, .slice none 0 0, .slice none 0 0, .int .i64 0] 39).below q; simpa using this
 have hb : Below w.heap.size w W1 := Below.trans (bM) (q.mono (by simp <;> omega))
 have hz0 : w.heap.size + 1 + 1 <= W1.heap.size := by have := q.size; simp at this; omega
 have hlow : w.heap.size + 1 + 1 <= (((w.alloc (.cells #[.int .i64 n, .slice A1 cs.length n1, .slice A2 pl.length n2, .slice A3 ds.length n3, .int .i64 m] 39)).alloc (.cells #[.int .i64 0, .slice none 0 0, .slice none 0 0, .slice none 0 0, .int .i64 0] 39))).heap.size := by first | exact Nat.le_refl _ | (simp; done) | (simp; omega) | omega
 have FK := Lib.hid (zaa f1 hlow (Nat.le_refl _)); have DK : Hid (∀ x ∈ S, x ∉ [w.heap.size, w.heap.size + 1]) := (fun x hx => by have := (FK.out.2 x hx).1; simp; omega)
 have OK := Lib.hid ow; clear ow f1 hlow; clear q
 go_upto_region 2 with (fail)
 replace Lc : Loc (W1.alloc (.cells #[.int .i64 n, .slice B1 cs.length k1, .slice B2 pl.length k2, .slice B3 ds.length k3, .int .i64 m] 39)) (w.heap.size) [.int .i64 n, .slice A1 cs.length n1, .slice A2 pl.length n2, .slice A3 ds.length n3, .int .i64 m] := Lc.alloc _; replace Lr : Loc (W1.alloc (.cells #[.int .i64 n, .slice B1 cs.length k1, .slice B2 pl.length k2, .slice B3 ds.length k3, .int .i64 m] 39)) (w.heap.size + 1) [.int .i64 0, .slice none 0 0, .slice none 0 0, .slice none 0 0, .int .i64 0] := Lr.alloc _; obtain ⟨go, hgo⟩ : ∃ g, W1.heap.size = g := ⟨_, rfl⟩; have Lo : Loc (W1.alloc (.cells #[.int .i64 n, .slice B1 cs.length k1, .slice B2 pl.length k2, .slice B3 ds.length k3, .int .i64 m] 39)) W1.heap.size [.int .i64 n, .slice B1 cs.length k1, .slice B2 pl.length k2, .slice B3 ds.length k3, .int .i64 m] := Loc.new W1 #[.int .i64 n, .slice B1 cs.length k1, .slice B2 pl.length k2, .slice B3 ds.length k3, .int .i64 m] 39
 rw [hgo] at Lo; replace OK := Lib.hid (OK.out.below (w' := (W1.alloc (.cells #[.int .i64 n, .slice B1 cs.length k1, .slice B2 pl.length k2, .slice B3 ds.length k3, .int .i64 m] 39))) ((Below.refl _ _).alloc (Nat.le_refl _) _)); replace DK : Hid (∀ x ∈ S, x ∉ [w.heap.size, w.heap.size + 1, go]) := (fun x hx => by have := DK.out x hx; have := (FK.out.2 x hx).2; simp at *; omega)
 replace FK := Lib.hid (zaa (w' := (W1.alloc (.cells #[.int .i64 n, .slice B1 cs.length k1, .slice B2 pl.length k2, .slice B3 ds.length k3, .int .i64 m] 39))) FK.out (Nat.le_refl _) (by simp))
 replace hb : Below w.heap.size w (W1.alloc (.cells #[.int .i64 n, .slice B1 cs.length k1, .slice B2 pl.length k2, .slice B3 ds.length k3, .int .i64 m] 39)) := hb.alloc hb.size _; have hlto : go < (W1.alloc (.cells #[.int .i64 n, .slice B1 cs.length k1, .slice B2 pl.length k2, .slice B3 ds.length k3, .int .i64 m] 39)).heap.size := by simp; omega
 have hne_c_o : w.heap.size < go := by omega
 have hne_r_o : w.heap.size + 1 < go := by omega
 generalize W1.alloc (.cells #[.int .i64 n, .slice B1 cs.length k1, .slice B2 pl.length k2, .slice B3 ds.length k3, .int .i64 m] 39) = W2 at *
 rw [hgo]; clear hgo; obtain ⟨o0, o1, o2⟩ := Lo.a3; go_wp2_with fail; refine (HG.out _ _ _ (OK.out.rd.1)).mono ?_; rintro e W3 ⟨x4, x5, SX, rfl, oX, fX, q⟩; clear o0 o1 o2; obtain ⟨⟨C1, l1, rfl⟩, ⟨C2, l2, rfl⟩⟩ := oX.rd.forms; have hzq : W2.heap.size <= W3.heap.size := by have := q.size; (try simp at this); omega
 replace Lc := Lc.below q; replace Lr := Lr.below q; replace Lo := Lo.below q; replace OK := Lib.hid (OK.out.below q); replace FK := Lib.hid (zaa (w' := W3) FK.out (Nat.le_refl _) hzq); replace hb : Below w.heap.size w W3 := hb.trans (q.mono hb.size); have hlow : W2.heap.size <= W2.heap.size := by first | exact Nat.le_refl _ | (simp; done) | (simp; omega) | omega
 have FX := Lib.hid (zaa fX hlow (Nat.le_refl _)); have DX : Hid (∀ x ∈ SX, x ∉ [w.heap.size, w.heap.size + 1, go]) := (fun x hx => by have := (FX.out.2 x hx).1; simp; omega)
 have OX := Lib.hid oX; clear oX fX hlow; clear q
 go_upto_region 3 with (fail)
 replace Lc : Loc (W3.alloc (.cells #[.int .i64 n, .slice C1 c1.length l1, .slice C2 pl.length l2] 36)) (w.heap.size) [.int .i64 n, .slice A1 cs.length n1, .slice A2 pl.length n2, .slice A3 ds.length n3, .int .i64 m] := Lc.alloc _; replace Lr : Loc (W3.alloc (.cells #[.int .i64 n, .slice C1 c1.length l1, .slice C2 pl.length l2] 36)) (w.heap.size + 1) [.int .i64 0, .slice none 0 0, .slice none 0 0, .slice none 0 0, .int .i64 0] := Lr.alloc _; replace Lo : Loc (W3.alloc (.cells #[.int .i64 n, .slice C1 c1.length l1, .slice C2 pl.length l2] 36)) (go) [.int .i64 n, .slice B1 cs.length k1, .slice B2 pl.length k2, .slice B3 ds.length k3, .int .i64 m] := Lo.alloc _; obtain ⟨gp, hgp⟩ : ∃ g, W3.heap.size = g := ⟨_, rfl⟩; have Lp : Loc (W3.alloc (.cells #[.int .i64 n, .slice C1 c1.length l1, .slice C2 pl.length l2] 36)) W3.heap.size [.int .i64 n, .slice C1 c1.length l1, .slice C2 pl.length l2] := Loc.new W3 #[.int .i64 n, .slice C1 c1.length l1, .slice C2 pl.length l2] 36
 rw [hgp] at Lp; replace OK := Lib.hid (OK.out.below (w' := (W3.alloc (.cells #[.int .i64 n, .slice C1 c1.length l1, .slice C2 pl.length l2] 36))) ((Below.refl _ _).alloc (Nat.le_refl _) _)); replace OX := Lib.hid (OX.out.below (w' := (W3.alloc (.cells #[.int .i64 n, .slice C1 c1.length l1, .slice C2 pl.length l2] 36))) ((Below.refl _ _).alloc (Nat.le_refl _) _)); replace DK : Hid (∀ x ∈ S, x ∉ [w.heap.size, w.heap.size + 1, go, gp]) := (fun x hx => by have := DK.out x hx; have := (FK.out.2 x hx).2; simp at *; omega)
 replace FK := Lib.hid (zaa (w' := (W3.alloc (.cells #[.int .i64 n, .slice C1 c1.length l1, .slice C2 pl.length l2] 36))) FK.out (Nat.le_refl _) (by simp))
 replace DX : Hid (∀ x ∈ SX, x ∉ [w.heap.size, w.heap.size + 1, go, gp]) := (fun x hx => by have := DX.out x hx; have := (FX.out.2 x hx).2; simp at *; omega)
 replace FX := Lib.hid (zaa (w' := (W3.alloc (.cells #[.int .i64 n, .slice C1 c1.length l1, .slice C2 pl.length l2] 36))) FX.out (Nat.le_refl _) (by simp))
 replace hb : Below w.heap.size w (W3.alloc (.cells #[.int .i64 n, .slice C1 c1.length l1, .slice C2 pl.length l2] 36)) := hb.alloc hb.size _; have hltp : gp < (W3.alloc (.cells #[.int .i64 n, .slice C1 c1.length l1, .slice C2 pl.length l2] 36)).heap.size := by simp; omega
 have hne_c_p : w.heap.size < gp := by omega
 have hne_r_p : w.heap.size + 1 < gp := by omega
 have hne_o_p : go < gp := by omega
 generalize W3.alloc (.cells #[.int .i64 n, .slice C1 c1.length l1, .slice C2 pl.length l2] 36) = W4 at *
 rw [hgp]; clear hgp; obtain ⟨p0, p1, p2⟩ := Lp.a3; go_wp2_with fail; refine (HU.out _ _ _ (OX.out.rd)).mono ?_; rintro e W5 ⟨y4, y5, SY, rfl, oY, fY, q⟩; clear p0 p1 p2; obtain ⟨⟨D1, j1, rfl⟩, ⟨D2, j2, rfl⟩⟩ := oY.rd.forms; have hzq : W4.heap.size <= W5.heap.size := by have := q.size; (try simp at this); omega
 replace Lc := Lc.below q; replace Lr := Lr.below q; replace Lo := Lo.below q; replace Lp := Lp.below q; replace OK := Lib.hid (OK.out.below q); replace FK := Lib.hid (zaa (w' := W5) FK.out (Nat.le_refl _) hzq); replace OX := Lib.hid (OX.out.below q); replace FX := Lib.hid (zaa (w' := W5) FX.out (Nat.le_refl _) hzq); replace hb : Below w.heap.size w W5 := hb.trans (q.mono hb.size); have hlow : W4.heap.size <= W4.heap.size := by first | exact Nat.le_refl _ | (simp; done) | (simp; omega) | omega
 have FY := Lib.hid (zaa fY hlow (Nat.le_refl _)); have DY : Hid (∀ x ∈ SY, x ∉ [w.heap.size, w.heap.size + 1, go, gp]) := (fun x hx => by have := (FY.out.2 x hx).1; simp; omega)
 have OY := Lib.hid oY; clear oY fY hlow; clear q; clear OX FX DX
 go_upto_region 4 with (fail)
 replace Lc : Loc (W5.alloc (.cells #[.int .i64 n, .slice D1 c2.length j1, .slice D2 pl.length j2] 36)) (w.heap.size) [.int .i64 n, .slice A1 cs.length n1, .slice A2 pl.length n2, .slice A3 ds.length n3, .int .i64 m] := Lc.alloc _; replace Lr : Loc (W5.alloc (.cells #[.int .i64 n, .slice D1 c2.length j1, .slice D2 pl.length j2] 36)) (w.heap.size + 1) [.int .i64 0, .slice none 0 0, .slice none 0 0, .slice none 0 0, .int .i64 0] := Lr.alloc _; replace Lo : Loc (W5.alloc (.cells #[.int .i64 n, .slice D1 c2.length j1, .slice D2 pl.length j2] 36)) (go) [.int .i64 n, .slice B1 cs.length k1, .slice B2 pl.length k2, .slice B3 ds.length k3, .int .i64 m] := Lo.alloc _; replace Lp : Loc (W5.alloc (.cells #[.int .i64 n, .slice D1 c2.length j1, .slice D2 pl.length j2] 36)) (gp) [.int .i64 n, .slice C1 c1.length l1, .slice C2 pl.length l2] := Lp.alloc _; obtain ⟨gq, hgq⟩ : ∃ g, W5.heap.size = g := ⟨_, rfl⟩
 have Lq : Loc (W5.alloc (.cells #[.int .i64 n, .slice D1 c2.length j1, .slice D2 pl.length j2] 36)) W5.heap.size [.int .i64 n, .slice D1 c2.length j1, .slice D2 pl.length j2] := Loc.new W5 #[.int .i64 n, .slice D1 c2.length j1, .slice D2 pl.length j2] 36; rw [hgq] at Lq; replace OK := Lib.hid (OK.out.below (w' := (W5.alloc (.cells #[.int .i64 n, .slice D1 c2.length j1, .slice D2 pl.length j2] 36))) ((Below.refl _ _).alloc (Nat.le_refl _) _)); replace OY := Lib.hid (OY.out.below (w' := (W5.alloc (.cells #[.int .i64 n, .slice D1 c2.length j1, .slice D2 pl.length j2] 36))) ((Below.refl _ _).alloc (Nat.le_refl _) _)); replace DK : Hid (∀ x ∈ S, x ∉ [w.heap.size, w.heap.size + 1, go, gp, gq]) := (fun x hx => by have := DK.out x hx; have := (FK.out.2 x hx).2; simp at *; omega)
 replace FK := Lib.hid (zaa (w' := (W5.alloc (.cells #[.int .i64 n, .slice D1 c2.length j1, .slice D2 pl.length j2] 36))) FK.out (Nat.le_refl _) (by simp))
 replace DY : Hid (∀ x ∈ SY, x ∉ [w.heap.size, w.heap.size + 1, go, gp, gq]) := (fun x hx => by have := DY.out x hx; have := (FY.out.2 x hx).2; simp at *; omega)
 replace FY := Lib.hid (zaa (w' := (W5.alloc (.cells #[.int .i64 n, .slice D1 c2.length j1, .slice D2 pl.length j2] 36))) FY.out (Nat.le_refl _) (by simp))
 replace hb : Below w.heap.size w (W5.alloc (.cells #[.int .i64 n, .slice D1 c2.length j1, .slice D2 pl.length j2] 36)) := hb.alloc hb.size _; have hltq : gq < (W5.alloc (.cells #[.int .i64 n, .slice D1 c2.length j1, .slice D2 pl.length j2] 36)).heap.size := by simp; omega
 have hne_c_q : w.heap.size < gq := by omega
 have hne_r_q : w.heap.size + 1 < gq := by omega
 have hne_o_q : go < gq := by omega
 have hne_p_q : gp < gq := by omega
 generalize W5.alloc (.cells #[.int .i64 n, .slice D1 c2.length j1, .slice D2 pl.length j2] 36) = W6 at *
 rw [hgq]; clear hgq; obtain ⟨q0, q1, q2⟩ := Lq.a3; have hU : ∀ x ∈ S, x < W6.heap.size := fun x hx => (FK.out.2 x hx).2
 go_wp2_with fail; refine (HT.out _ _ _ (OY.out.rd)).mono ?_; rintro e W7 ⟨z4, z5, SZ, rfl, oZ, fZ, q⟩; clear q0 q1 q2; obtain ⟨⟨E1, i1, rfl⟩, ⟨E2, i2, rfl⟩⟩ := oZ.rd.forms; have hzq : W6.heap.size <= W7.heap.size := by have := q.size; (try simp at this); omega
 replace Lc := Lc.below q; replace Lr := Lr.below q; replace Lo := Lo.below q; replace Lp := Lp.below q; replace Lq := Lq.below q; replace OK := Lib.hid (OK.out.below q); replace FK := Lib.hid (zaa (w' := W7) FK.out (Nat.le_refl _) hzq); replace OY := Lib.hid (OY.out.below q); replace FY := Lib.hid (zaa (w' := W7) FY.out (Nat.le_refl _) hzq); replace hb : Below w.heap.size w W7 := hb.trans (q.mono hb.size); have hlow : W6.heap.size <= W6.heap.size := by first | exact Nat.le_refl _ | (simp; done) | (simp; omega) | omega
 have FZ := Lib.hid (zaa fZ hlow (Nat.le_refl _)); have DZ : Hid (∀ x ∈ SZ, x ∉ [w.heap.size, w.heap.size + 1, go, gp, gq]) := (fun x hx => by have := (FZ.out.2 x hx).1; simp; omega)
 have OZ := Lib.hid oZ; clear oZ fZ hlow; clear q; clear OY FY DY; have HJZ : Hid (∀ x ∈ SZ, x ∉ S) := (fun x hx hx' => by have := (FZ.out.2 x hx).1; have := hU x hx'; omega)
 clear hU; obtain ⟨SK1, SK3, eK, oK, pK⟩ := OK.out; have FKx := FK.out; have DKx := DK.out; rw [eK] at FKx DKx; have OK1 := Lib.hid oK; have OK3 := Lib.hid pK; have FK1 := Lib.hid (zbp FKx); have FK3 := Lib.hid (za9 FKx); have DK1 : Hid (∀ x ∈ SK1, x ∉ [w.heap.size, w.heap.size + 1, go, gp, gq]) := (fun x hx => DKx x (List.mem_append_left _ hx))
 have DK3 : Hid (∀ x ∈ SK3, x ∉ [w.heap.size, w.heap.size + 1, go, gp, gq]) := (fun x hx => DKx x (List.mem_append_right _ hx))
 have JK : Hid (∀ x ∈ SK1, x ∉ SK3) := (zcm FKx.1).2.2.1; clear OK FK DK FKx DKx oK pK; clear OK1 FK1 DK1; obtain ⟨o0, o1, o2, o3, o4⟩ := Lo.a5; obtain ⟨of0, of1, of2, of3, of4⟩ := Lo.b5
 go_upto_region 5 with (fail)
 clear o0 of0 o1 of1 o2 of2 o3 of3 o4 of4; replace Lc := Lc.far (g := go) (i := 0) (u := .int .i64 n) (by omega)
 replace Lr := Lr.far (g := go) (i := 0) (u := .int .i64 n) (by omega)
 replace Lp := Lp.far (g := go) (i := 0) (u := .int .i64 n) (by omega)
 replace Lq := Lq.far (g := go) (i := 0) (u := .int .i64 n) (by omega)
 replace Lo : Loc (W7.setCell ⟨go, 0, none⟩ (.int .i64 n)) (go) [.int .i64 n, .slice B1 cs.length k1, .slice B2 pl.length k2, .slice B3 ds.length k3, .int .i64 m] := Lo.set (i := 0) (v := .int .i64 n) rfl; have hch : Chg [go] W7 (W7.setCell ⟨go, 0, none⟩ (.int .i64 n)) := zav (Chg.refl _ _) (by simp)
 replace OZ := Lib.hid (OZ.out.chg hch (fun x hx hx' => DZ.out x hx (by simp at hx'; subst hx'; simp)))
 replace FZ := Lib.hid (zaa (w' := (W7.setCell ⟨go, 0, none⟩ (.int .i64 n))) FZ.out (Nat.le_refl _) hch.size); replace OK3 := Lib.hid (OK3.out.chg hch (fun x hx hx' => DK3.out x hx (by simp at hx'; subst hx'; simp)))
 replace FK3 := Lib.hid (zaa (w' := (W7.setCell ⟨go, 0, none⟩ (.int .i64 n))) FK3.out (Nat.le_refl _) hch.size); replace hb : Below w.heap.size w (W7.setCell ⟨go, 0, none⟩ (.int .i64 n)) := Below.chg hb hch hb.size (by simp; omega)
 have hzc := hch.size; clear hch; generalize W7.setCell ⟨go, 0, none⟩ (.int .i64 n) = W8 at *
 replace Lc := Lc.far (g := go) (i := 1) (u := .slice E1 c3.length i1) (by omega)
 replace Lr := Lr.far (g := go) (i := 1) (u := .slice E1 c3.length i1) (by omega)
 replace Lp := Lp.far (g := go) (i := 1) (u := .slice E1 c3.length i1) (by omega)
 replace Lq := Lq.far (g := go) (i := 1) (u := .slice E1 c3.length i1) (by omega)
 replace Lo : Loc (W8.setCell ⟨go, 1, none⟩ (.slice E1 c3.length i1)) (go) [.int .i64 n, .slice E1 c3.length i1, .slice B2 pl.length k2, .slice B3 ds.length k3, .int .i64 m] := Lo.set (i := 1) (v := .slice B1 cs.length k1) rfl; have hch : Chg [go] W8 (W8.setCell ⟨go, 1, none⟩ (.slice E1 c3.length i1)) := zav (Chg.refl _ _) (by simp)
 replace OZ := Lib.hid (OZ.out.chg hch (fun x hx hx' => DZ.out x hx (by simp at hx'; subst hx'; simp)))
 replace FZ := Lib.hid (zaa (w' := (W8.setCell ⟨go, 1, none⟩ (.slice E1 c3.length i1))) FZ.out (Nat.le_refl _) hch.size); replace OK3 := Lib.hid (OK3.out.chg hch (fun x hx hx' => DK3.out x hx (by simp at hx'; subst hx'; simp)))
 replace FK3 := Lib.hid (zaa (w' := (W8.setCell ⟨go, 1, none⟩ (.slice E1 c3.length i1))) FK3.out (Nat.le_refl _) hch.size); replace hb : Below w.heap.size w (W8.setCell ⟨go, 1, none⟩ (.slice E1 c3.length i1)) := Below.chg hb hch hb.size (by simp; omega)
 have hzc := hch.size; clear hch; generalize W8.setCell ⟨go, 1, none⟩ (.slice E1 c3.length i1) = W9 at *
 replace Lc := Lc.far (g := go) (i := 2) (u := .slice E2 pl.length i2) (by omega)
 replace Lr := Lr.far (g := go) (i := 2) (u := .slice E2 pl.length i2) (by omega)
 replace Lp := Lp.far (g := go) (i := 2) (u := .slice E2 pl.length i2) (by omega)
 replace Lq := Lq.far (g := go) (i := 2) (u := .slice E2 pl.length i2) (by omega)
 replace Lo : Loc (W9.setCell ⟨go, 2, none⟩ (.slice E2 pl.length i2)) (go) [.int .i64 n, .slice E1 c3.length i1, .slice E2 pl.length i2, .slice B3 ds.length k3, .int .i64 m] := Lo.set (i := 2) (v := .slice B2 pl.length k2) rfl; have hch : Chg [go] W9 (W9.setCell ⟨go, 2, none⟩ (.slice E2 pl.length i2)) := zav (Chg.refl _ _) (by simp)
 replace OZ := Lib.hid (OZ.out.chg hch (fun x hx hx' => DZ.out x hx (by simp at hx'; subst hx'; simp)))
 replace FZ := Lib.hid (zaa (w' := (W9.setCell ⟨go, 2, none⟩ (.slice E2 pl.length i2))) FZ.out (Nat.le_refl _) hch.size); replace OK3 := Lib.hid (OK3.out.chg hch (fun x hx hx' => DK3.out x hx (by simp at hx'; subst hx'; simp)))
 replace FK3 := Lib.hid (zaa (w' := (W9.setCell ⟨go, 2, none⟩ (.slice E2 pl.length i2))) FK3.out (Nat.le_refl _) hch.size); replace hb : Below w.heap.size w (W9.setCell ⟨go, 2, none⟩ (.slice E2 pl.length i2)) := Below.chg hb hch hb.size (by simp; omega)
 have hzc := hch.size; clear hch; generalize W9.setCell ⟨go, 2, none⟩ (.slice E2 pl.length i2) = W10 at *
 replace FZ := Lib.hid (zaa (B' := w.heap.size + 1 + 1) FZ.out (by have := hb.size; omega) (Nat.le_refl _))
 have OP : zai W10 (SZ ++ SK3) (.slice E1 c3.length i1) (.slice E2 pl.length i2) (.slice B3 ds.length k3) c3 pl ds := ⟨_, _, rfl, OZ.out, OK3.out⟩; have FQ := Lib.hid (zbf FZ.out FK3.out (fun x hx hx' => HJZ.out x hx (by rw [eK]; exact List.mem_append_right _ hx')))
 have DQ : Hid (∀ x ∈ SZ ++ SK3, x ∉ [w.heap.size, w.heap.size + 1, go, gp, gq]) := (fun x hx => (List.mem_append.1 hx).elim (DZ.out x) (DK3.out x))
 have OQ := Lib.hid (OP); clear OZ FZ DZ OK3 FK3 DK3; obtain ⟨SQ, hSQ⟩ : ∃ T, SZ ++ SK3 = T := ⟨_, rfl⟩; rw [hSQ] at OQ FQ DQ; clear hSQ; clear OP
 cases b1
 ·skip
  obtain ⟨c0, c1, c2, c3, c4⟩ := Lc.a5; obtain ⟨o0, o1, o2, o3, o4⟩ := Lo.a5; go_wp2_with fail; refine (zds (B := w.heap.size + 1 + 1) (S := SQ) Hres.out (h.below hb) hsz OQ.out FQ.out (by have := hb.size; omega)).mono ?_
  rintro e W11 ⟨z1, z2, z3, T, rfl, owr, fr, q⟩; clear c0 c1 c2 c3 c4 o0 o1 o2 o3 o4; obtain ⟨⟨Z1, e1, rfl⟩, ⟨Z2, e2, rfl⟩, ⟨Z3, e3, rfl⟩⟩ := owr.rd.forms; have hzq : W10.heap.size <= W11.heap.size := by have := q.size; (try simp at this); omega
  replace Lc := Lc.below q; replace Lr := Lr.below q; replace Lo := Lo.below q; replace Lp := Lp.below q; replace Lq := Lq.below q; replace OQ := Lib.hid (OQ.out.below q); replace FQ := Lib.hid (zaa (w' := W11) FQ.out (Nat.le_refl _) hzq); replace hb : Below w.heap.size w W11 := hb.trans (q.mono hb.size); clear q; have FR := Lib.hid fr; have OR := Lib.hid owr; clear fr owr Hres; obtain ⟨r0, r1, r2, r3, r4⟩ := Lr.a5; obtain ⟨rf0, rf1, rf2, rf3, rf4⟩ := Lr.b5; go_wp2_with fail; refine bodyPost_ret (v := .tuple #[.agg #[.int .i64 rn, .slice Z1 rcs.length e1, .slice Z2 rpl.length e2, .slice Z3 rds.length e3, .int .i64 rm], .bool rb]) (by simp [results, Tryz.results81, go_sem, *]) rfl ⟨_, _, _, T, rfl, ?_, ?_, ?_⟩
  ·exact OR.out.chg (T := [w.heap.size + 1]) (cS) (fun x hx hx' => by have := (FR.out.2 x hx).1; simp at hx'; omega)
  ·exact zaa FR.out (by omega) (by simp)
  ·exact Below.chg hb (S := [w.heap.size + 1]) (cS) hb.size (fun x hx => by simp at hx; omega)
 ·skip
  obtain ⟨c0, c1, c2, c3, c4⟩ := Lc.a5; obtain ⟨o0, o1, o2, o3, o4⟩ := Lo.a5; go_wp2_with fail; refine (zds (B := w.heap.size + 1 + 1) (S := SQ) Hres.out (h.below hb) hsz OQ.out FQ.out (by have := hb.size; omega)).mono ?_
  rintro e W11 ⟨z1, z2, z3, T, rfl, owr, fr, q⟩; clear c0 c1 c2 c3 c4 o0 o1 o2 o3 o4; obtain ⟨⟨Z1, e1, rfl⟩, ⟨Z2, e2, rfl⟩, ⟨Z3, e3, rfl⟩⟩ := owr.rd.forms; have hzq : W10.heap.size <= W11.heap.size := by have := q.size; (try simp at this); omega
  replace Lc := Lc.below q; replace Lr := Lr.below q; replace Lo := Lo.below q; replace Lp := Lp.below q; replace Lq := Lq.below q; replace OQ := Lib.hid (OQ.out.below q); replace FQ := Lib.hid (zaa (w' := W11) FQ.out (Nat.le_refl _) hzq); replace hb : Below w.heap.size w W11 := hb.trans (q.mono hb.size); clear q; have FR := Lib.hid fr; have OR := Lib.hid owr; clear fr owr Hres; obtain ⟨r0, r1, r2, r3, r4⟩ := Lr.a5; obtain ⟨rf0, rf1, rf2, rf3, rf4⟩ := Lr.b5; go_wp2_with fail; refine bodyPost_ret (v := .tuple #[.agg #[.int .i64 rn, .slice Z1 rcs.length e1, .slice Z2 rpl.length e2, .slice Z3 rds.length e3, .int .i64 rm], .bool rb]) (by simp [results, Tryz.results81, go_sem, *]) rfl ⟨_, _, _, T, rfl, ?_, ?_, ?_⟩
  ·exact OR.out.chg (T := [w.heap.size + 1]) (cS) (fun x hx hx' => by have := (FR.out.2 x hx).1; simp at hx'; omega)
  ·exact zaa FR.out (by omega) (by simp)
  ·exact Below.chg hb (S := [w.heap.size + 1]) (cS) hb.size (fun x hx => by simp at hx; omega)
theorem zh1 (n m : Int) (v1 v2 v3 : Value) (cs : List zad) (pl : List RPl) (ds : List Int) (w : World) (h : zak w v1 v2 v3 cs pl ds) (hsz : zas cs pl ds <= 1048576) :
  Calls Tryz.prog 56 #[.agg #[.int .i64 n, v1, v2, v3, .int .i64 m]] w (zhf w.heap.size (putT ⟨n, m, cs, pl, ds⟩) w) := by
 obtain ⟨⟨A1, n1, rfl⟩, ⟨A2, n2, rfl⟩, ⟨A3, n3, rfl⟩⟩ := h.forms; have hszc : zam cs pl <= 1048576 := by unfold zas at hsz; omega
 have hs1 := zzr n cs pl; have hs2 := zxq n (goC n cs pl) pl; unfold putT; have HG : Hid (∀ W v1 v2, zaq W v1 v2 cs pl -> Calls Tryz.prog 97 #[.agg #[.int .i64 n, v1, v2]] W (zbb n (goB n cs pl) (goC n cs pl) pl W)) := fun W v1 v2 hr => zls n v1 v2 cs pl W hr (by omega)
 have HU : Hid (∀ W v1 v2, zaq W v1 v2 (goC n cs pl) pl -> Calls Tryz.prog 98 #[.agg #[.int .i64 n, v1, v2]] W (zbb n (untB n (goC n cs pl) pl) (untC n (goC n cs pl) pl) pl W)) := fun W v1 v2 hr => zkn n v1 v2 (goC n cs pl) pl W hr (by omega)
 have HT : Hid (∀ W v1 v2, zaq W v1 v2 (untC n (goC n cs pl) pl) pl -> Calls Tryz.prog 99 #[.agg #[.int .i64 n, v1, v2]] W (zc4 n (putC n cs pl) pl W)) := fun W v1 v2 hr => zoz n v1 v2 (untC n (goC n cs pl) pl) pl W hr (by omega)
 have HOK : Hid (zau n m cs pl ds = true -> untB n (goC n cs pl) pl = true -> zau n m (putC n cs pl) pl ds = true) := fun h h2 => zxu h h2
 clear hs1 hs2; generalize putC n cs pl = c3 at *
 generalize untC n (goC n cs pl) pl = c2 at *
 generalize untB n (goC n cs pl) pl = b2 at *
 generalize goC n cs pl = c1 at *
 generalize goB n cs pl = b1 at *
 go_enter Tryz.func56, Tryz.ntmps56
 go_wp2_with fail; refine (zbr n m _ _ _ cs pl ds _ (h.below (bM)) hsz).mono ?_
 rintro e W1 ⟨x1, x2, x3, S, rfl, ow, f1, q⟩; obtain ⟨⟨B1, k1, rfl⟩, ⟨B2, k2, rfl⟩, ⟨B3, k3, rfl⟩⟩ := ow.rd.forms; have Lc : Loc W1 (w.heap.size) [.int .i64 n, .slice A1 cs.length n1, .slice A2 pl.length n2, .slice A3 ds.length n3, .int .i64 m] := by have := ((Loc.new w #[.int .i64 n, .slice A1 cs.length n1, .slice A2 pl.length n2, .slice A3 ds.length n3, .int .i64 m] 39).alloc _).below q; simpa using this
 have Lr : Loc W1 (w.heap.size + 1) [.int .i64 0, .slice none 0 0, .slice none 0 0, .slice none 0 0, .int .i64 0] := by have := (Loc.new (w.alloc (.cells #[.int .i64 n, .slice A1 cs.length n1, .slice A2 pl.length n2, .slice A3 ds.length n3, .int .i64 m] 39)) #[.int .i64 0, .slice none 0 0, .slice none 0 0, .slice none 0 0, .int .i64 0] 39).below q; simpa using this
 have hb : Below w.heap.size w W1 := Below.trans (bM) (q.mono (by simp <;> omega))
 have hz0 : w.heap.size + 1 + 1 <= W1.heap.size := by have := q.size; simp at this; omega
 have hlow : w.heap.size + 1 + 1 <= (((w.alloc (.cells #[.int .i64 n, .slice A1 cs.length n1, .slice A2 pl.length n2, .slice A3 ds.length n3, .int .i64 m] 39)).alloc (.cells #[.int .i64 0, .slice none 0 0, .slice none 0 0, .slice none 0 0, .int .i64 0] 39))).heap.size := by first | exact Nat.le_refl _ | (simp; done) | (simp; omega) | omega
 have FK := Lib.hid (zaa f1 hlow (Nat.le_refl _)); have DK : Hid (∀ x ∈ S, x ∉ [w.heap.size, w.heap.size + 1]) := (fun x hx => by have := (FK.out.2 x hx).1; simp; omega)
 have OK := Lib.hid ow; clear ow f1 hlow; clear q
 go_upto_region 2 with (fail)
 replace Lc : Loc (W1.alloc (.cells #[.int .i64 n, .slice B1 cs.length k1, .slice B2 pl.length k2, .slice B3 ds.length k3, .int .i64 m] 39)) (w.heap.size) [.int .i64 n, .slice A1 cs.length n1, .slice A2 pl.length n2, .slice A3 ds.length n3, .int .i64 m] := Lc.alloc _; replace Lr : Loc (W1.alloc (.cells #[.int .i64 n, .slice B1 cs.length k1, .slice B2 pl.length k2, .slice B3 ds.length k3, .int .i64 m] 39)) (w.heap.size + 1) [.int .i64 0, .slice none 0 0, .slice none 0 0, .slice none 0 0, .int .i64 0] := Lr.alloc _; obtain ⟨go, hgo⟩ : ∃ g, W1.heap.size = g := ⟨_, rfl⟩; have Lo : Loc (W1.alloc (.cells #[.int .i64 n, .slice B1 cs.length k1, .slice B2 pl.length k2, .slice B3 ds.length k3, .int .i64 m] 39)) W1.heap.size [.int .i64 n, .slice B1 cs.length k1, .slice B2 pl.length k2, .slice B3 ds.length k3, .int .i64 m] := Loc.new W1 #[.int .i64 n, .slice B1 cs.length k1, .slice B2 pl.length k2, .slice B3 ds.length k3, .int .i64 m] 39
 rw [hgo] at Lo; replace OK := Lib.hid (OK.out.below (w' := (W1.alloc (.cells #[.int .i64 n, .slice B1 cs.length k1, .slice B2 pl.length k2, .slice B3 ds.length k3, .int .i64 m] 39))) ((Below.refl _ _).alloc (Nat.le_refl _) _)); replace DK : Hid (∀ x ∈ S, x ∉ [w.heap.size, w.heap.size + 1, go]) := (fun x hx => by have := DK.out x hx; have := (FK.out.2 x hx).2; simp at *; omega)
 replace FK := Lib.hid (zaa (w' := (W1.alloc (.cells #[.int .i64 n, .slice B1 cs.length k1, .slice B2 pl.length k2, .slice B3 ds.length k3, .int .i64 m] 39))) FK.out (Nat.le_refl _) (by simp))
 replace hb : Below w.heap.size w (W1.alloc (.cells #[.int .i64 n, .slice B1 cs.length k1, .slice B2 pl.length k2, .slice B3 ds.length k3, .int .i64 m] 39)) := hb.alloc hb.size _; have hlto : go < (W1.alloc (.cells #[.int .i64 n, .slice B1 cs.length k1, .slice B2 pl.length k2, .slice B3 ds.length k3, .int .i64 m] 39)).heap.size := by simp; omega
 have hne_c_o : w.heap.size < go := by omega
 have hne_r_o : w.heap.size + 1 < go := by omega
 generalize W1.alloc (.cells #[.int .i64 n, .slice B1 cs.length k1, .slice B2 pl.length k2, .slice B3 ds.length k3, .int .i64 m] 39) = W2 at *
 rw [hgo]; clear hgo; obtain ⟨c0, c1, c2, c3, c4⟩ := Lc.a5; go_wp2_with fail; refine twoB (za3 n m _ _ _ cs pl ds _ (h.below hb)) (fun W3 hq q => ?_) (fun W3 hq q => ?_)
 ·skip
  clear c0 c1 c2 c3 c4; have hzq : W2.heap.size <= W3.heap.size := by have := q.size; (try simp at this); omega
  replace Lc := Lc.below q; replace Lr := Lr.below q; replace Lo := Lo.below q; replace OK := Lib.hid (OK.out.below q); replace FK := Lib.hid (zaa (w' := W3) FK.out (Nat.le_refl _) hzq); replace hb : Below w.heap.size w W3 := hb.trans (q.mono hb.size); clear q; obtain ⟨c0, c1, c2⟩ := Lc.a3; go_wp2_with fail; refine (HG.out _ _ _ ((h.below hb).1)).mono ?_; rintro e W4 ⟨x4, x5, SX, rfl, oX, fX, q⟩; clear c0 c1 c2; obtain ⟨⟨C1, l1, rfl⟩, ⟨C2, l2, rfl⟩⟩ := oX.rd.forms; have hzq : W3.heap.size <= W4.heap.size := by have := q.size; (try simp at this); omega
  replace Lc := Lc.below q; replace Lr := Lr.below q; replace Lo := Lo.below q; replace OK := Lib.hid (OK.out.below q); replace FK := Lib.hid (zaa (w' := W4) FK.out (Nat.le_refl _) hzq); replace hb : Below w.heap.size w W4 := hb.trans (q.mono hb.size); have hlow : W3.heap.size <= W3.heap.size := by first | exact Nat.le_refl _ | (simp; done) | (simp; omega) | omega
  have FX := Lib.hid (zaa fX hlow (Nat.le_refl _)); have DX : Hid (∀ x ∈ SX, x ∉ [w.heap.size, w.heap.size + 1, go]) := (fun x hx => by have := (FX.out.2 x hx).1; simp; omega)
  have OX := Lib.hid oX; clear oX fX hlow; clear q
  go_upto_region 5 with (fail)
  replace Lc : Loc (W4.alloc (.cells #[.int .i64 n, .slice C1 c1.length l1, .slice C2 pl.length l2] 36)) (w.heap.size) [.int .i64 n, .slice A1 cs.length n1, .slice A2 pl.length n2, .slice A3 ds.length n3, .int .i64 m] := Lc.alloc _; replace Lr : Loc (W4.alloc (.cells #[.int .i64 n, .slice C1 c1.length l1, .slice C2 pl.length l2] 36)) (w.heap.size + 1) [.int .i64 0, .slice none 0 0, .slice none 0 0, .slice none 0 0, .int .i64 0] := Lr.alloc _; replace Lo : Loc (W4.alloc (.cells #[.int .i64 n, .slice C1 c1.length l1, .slice C2 pl.length l2] 36)) (go) [.int .i64 n, .slice B1 cs.length k1, .slice B2 pl.length k2, .slice B3 ds.length k3, .int .i64 m] := Lo.alloc _; obtain ⟨gp, hgp⟩ : ∃ g, W4.heap.size = g := ⟨_, rfl⟩; have Lp : Loc (W4.alloc (.cells #[.int .i64 n, .slice C1 c1.length l1, .slice C2 pl.length l2] 36)) W4.heap.size [.int .i64 n, .slice C1 c1.length l1, .slice C2 pl.length l2] := Loc.new W4 #[.int .i64 n, .slice C1 c1.length l1, .slice C2 pl.length l2] 36
  rw [hgp] at Lp; replace OK := Lib.hid (OK.out.below (w' := (W4.alloc (.cells #[.int .i64 n, .slice C1 c1.length l1, .slice C2 pl.length l2] 36))) ((Below.refl _ _).alloc (Nat.le_refl _) _)); replace OX := Lib.hid (OX.out.below (w' := (W4.alloc (.cells #[.int .i64 n, .slice C1 c1.length l1, .slice C2 pl.length l2] 36))) ((Below.refl _ _).alloc (Nat.le_refl _) _)); replace DK : Hid (∀ x ∈ S, x ∉ [w.heap.size, w.heap.size + 1, go, gp]) := (fun x hx => by have := DK.out x hx; have := (FK.out.2 x hx).2; simp at *; omega)
  replace FK := Lib.hid (zaa (w' := (W4.alloc (.cells #[.int .i64 n, .slice C1 c1.length l1, .slice C2 pl.length l2] 36))) FK.out (Nat.le_refl _) (by simp))
  replace DX : Hid (∀ x ∈ SX, x ∉ [w.heap.size, w.heap.size + 1, go, gp]) := (fun x hx => by have := DX.out x hx; have := (FX.out.2 x hx).2; simp at *; omega)
  replace FX := Lib.hid (zaa (w' := (W4.alloc (.cells #[.int .i64 n, .slice C1 c1.length l1, .slice C2 pl.length l2] 36))) FX.out (Nat.le_refl _) (by simp))
  replace hb : Below w.heap.size w (W4.alloc (.cells #[.int .i64 n, .slice C1 c1.length l1, .slice C2 pl.length l2] 36)) := hb.alloc hb.size _; have hltp : gp < (W4.alloc (.cells #[.int .i64 n, .slice C1 c1.length l1, .slice C2 pl.length l2] 36)).heap.size := by simp; omega
  have hne_c_p : w.heap.size < gp := by omega
  have hne_r_p : w.heap.size + 1 < gp := by omega
  have hne_o_p : go < gp := by omega
  generalize W4.alloc (.cells #[.int .i64 n, .slice C1 c1.length l1, .slice C2 pl.length l2] 36) = W5 at *
  rw [hgp]; clear hgp; obtain ⟨p0, p1, p2⟩ := Lp.a3; go_wp2_with fail; refine (HU.out _ _ _ (OX.out.rd)).mono ?_; rintro e W6 ⟨y4, y5, SY, rfl, oY, fY, q⟩; clear p0 p1 p2; obtain ⟨⟨D1, j1, rfl⟩, ⟨D2, j2, rfl⟩⟩ := oY.rd.forms; have hzq : W5.heap.size <= W6.heap.size := by have := q.size; (try simp at this); omega
  replace Lc := Lc.below q; replace Lr := Lr.below q; replace Lo := Lo.below q; replace Lp := Lp.below q; replace OK := Lib.hid (OK.out.below q); replace FK := Lib.hid (zaa (w' := W6) FK.out (Nat.le_refl _) hzq); replace OX := Lib.hid (OX.out.below q); replace FX := Lib.hid (zaa (w' := W6) FX.out (Nat.le_refl _) hzq); replace hb : Below w.heap.size w W6 := hb.trans (q.mono hb.size); have hlow : W5.heap.size <= W5.heap.size := by first | exact Nat.le_refl _ | (simp; done) | (simp; omega) | omega
  have FY := Lib.hid (zaa fY hlow (Nat.le_refl _)); have DY : Hid (∀ x ∈ SY, x ∉ [w.heap.size, w.heap.size + 1, go, gp]) := (fun x hx => by have := (FY.out.2 x hx).1; simp; omega)
  have OY := Lib.hid oY; clear oY fY hlow; clear q; clear OX FX DX
  go_upto_region 6 with (fail)
  replace Lc : Loc (W6.alloc (.cells #[.int .i64 n, .slice D1 c2.length j1, .slice D2 pl.length j2] 36)) (w.heap.size) [.int .i64 n, .slice A1 cs.length n1, .slice A2 pl.length n2, .slice A3 ds.length n3, .int .i64 m] := Lc.alloc _; replace Lr : Loc (W6.alloc (.cells #[.int .i64 n, .slice D1 c2.length j1, .slice D2 pl.length j2] 36)) (w.heap.size + 1) [.int .i64 0, .slice none 0 0, .slice none 0 0, .slice none 0 0, .int .i64 0] := Lr.alloc _; replace Lo : Loc (W6.alloc (.cells #[.int .i64 n, .slice D1 c2.length j1, .slice D2 pl.length j2] 36)) (go) [.int .i64 n, .slice B1 cs.length k1, .slice B2 pl.length k2, .slice B3 ds.length k3, .int .i64 m] := Lo.alloc _; replace Lp : Loc (W6.alloc (.cells #[.int .i64 n, .slice D1 c2.length j1, .slice D2 pl.length j2] 36)) (gp) [.int .i64 n, .slice C1 c1.length l1, .slice C2 pl.length l2] := Lp.alloc _; obtain ⟨gq, hgq⟩ : ∃ g, W6.heap.size = g := ⟨_, rfl⟩
  have Lq : Loc (W6.alloc (.cells #[.int .i64 n, .slice D1 c2.length j1, .slice D2 pl.length j2] 36)) W6.heap.size [.int .i64 n, .slice D1 c2.length j1, .slice D2 pl.length j2] := Loc.new W6 #[.int .i64 n, .slice D1 c2.length j1, .slice D2 pl.length j2] 36; rw [hgq] at Lq; replace OK := Lib.hid (OK.out.below (w' := (W6.alloc (.cells #[.int .i64 n, .slice D1 c2.length j1, .slice D2 pl.length j2] 36))) ((Below.refl _ _).alloc (Nat.le_refl _) _)); replace OY := Lib.hid (OY.out.below (w' := (W6.alloc (.cells #[.int .i64 n, .slice D1 c2.length j1, .slice D2 pl.length j2] 36))) ((Below.refl _ _).alloc (Nat.le_refl _) _)); replace DK : Hid (∀ x ∈ S, x ∉ [w.heap.size, w.heap.size + 1, go, gp, gq]) := (fun x hx => by have := DK.out x hx; have := (FK.out.2 x hx).2; simp at *; omega)
  replace FK := Lib.hid (zaa (w' := (W6.alloc (.cells #[.int .i64 n, .slice D1 c2.length j1, .slice D2 pl.length j2] 36))) FK.out (Nat.le_refl _) (by simp))
  replace DY : Hid (∀ x ∈ SY, x ∉ [w.heap.size, w.heap.size + 1, go, gp, gq]) := (fun x hx => by have := DY.out x hx; have := (FY.out.2 x hx).2; simp at *; omega)
  replace FY := Lib.hid (zaa (w' := (W6.alloc (.cells #[.int .i64 n, .slice D1 c2.length j1, .slice D2 pl.length j2] 36))) FY.out (Nat.le_refl _) (by simp))
  replace hb : Below w.heap.size w (W6.alloc (.cells #[.int .i64 n, .slice D1 c2.length j1, .slice D2 pl.length j2] 36)) := hb.alloc hb.size _; have hltq : gq < (W6.alloc (.cells #[.int .i64 n, .slice D1 c2.length j1, .slice D2 pl.length j2] 36)).heap.size := by simp; omega
  have hne_c_q : w.heap.size < gq := by omega
  have hne_r_q : w.heap.size + 1 < gq := by omega
  have hne_o_q : go < gq := by omega
  have hne_p_q : gp < gq := by omega
  generalize W6.alloc (.cells #[.int .i64 n, .slice D1 c2.length j1, .slice D2 pl.length j2] 36) = W7 at *
  rw [hgq]; clear hgq
  cases b1
  ·skip
   obtain ⟨o0, o1, o2, o3, o4⟩ := Lo.a5; obtain ⟨r0, r1, r2, r3, r4⟩ := Lr.a5; obtain ⟨rf0, rf1, rf2, rf3, rf4⟩ := Lr.b5; go_wp2_with fail; refine bodyPost_ret (v := .tuple #[.agg #[.int .i64 n, .slice B1 cs.length k1, .slice B2 pl.length k2, .slice B3 ds.length k3, .int .i64 m], .bool false]) (by simp [results, Tryz.results56, go_sem, *]) rfl (zf0 (by simp) ⟨_, _, _, S, rfl, ?_, ?_, ?_⟩)
   ·exact OK.out.chg (T := [w.heap.size + 1]) (cS) (fun x hx hx' => DK.out x hx (by simp at hx'; subst hx'; simp))
   ·exact zaa FK.out (by omega) (by simp)
   ·exact Below.chg hb (S := [w.heap.size + 1]) (cS) hb.size (fun x hx => by simp at hx; omega)
  ·skip
   cases b2
   ·skip
    obtain ⟨o0, o1, o2, o3, o4⟩ := Lo.a5; obtain ⟨r0, r1, r2, r3, r4⟩ := Lr.a5; obtain ⟨rf0, rf1, rf2, rf3, rf4⟩ := Lr.b5; go_wp2_with fail; refine bodyPost_ret (v := .tuple #[.agg #[.int .i64 n, .slice B1 cs.length k1, .slice B2 pl.length k2, .slice B3 ds.length k3, .int .i64 m], .bool false]) (by simp [results, Tryz.results56, go_sem, *]) rfl (zf0 (by simp) ⟨_, _, _, S, rfl, ?_, ?_, ?_⟩)
    ·exact OK.out.chg (T := [w.heap.size + 1]) (cS) (fun x hx hx' => DK.out x hx (by simp at hx'; subst hx'; simp))
    ·exact zaa FK.out (by omega) (by simp)
    ·exact Below.chg hb (S := [w.heap.size + 1]) (cS) hb.size (fun x hx => by simp at hx; omega)
   ·skip
    go_upto_region 8 with (fail)
    obtain ⟨q0, q1, q2⟩ := Lq.a3; have hU : ∀ x ∈ S, x < W7.heap.size := fun x hx => (FK.out.2 x hx).2
    go_wp2_with fail; refine (HT.out _ _ _ (OY.out.rd)).mono ?_; rintro e W8 ⟨z4, z5, SZ, rfl, oZ, fZ, q⟩; clear q0 q1 q2; obtain ⟨⟨E1, i1, rfl⟩, ⟨E2, i2, rfl⟩⟩ := oZ.rd.forms; have hzq : W7.heap.size <= W8.heap.size := by have := q.size; (try simp at this); omega
    replace Lc := Lc.below q; replace Lr := Lr.below q; replace Lo := Lo.below q; replace Lp := Lp.below q; replace Lq := Lq.below q; replace OK := Lib.hid (OK.out.below q); replace FK := Lib.hid (zaa (w' := W8) FK.out (Nat.le_refl _) hzq); replace OY := Lib.hid (OY.out.below q); replace FY := Lib.hid (zaa (w' := W8) FY.out (Nat.le_refl _) hzq); replace hb : Below w.heap.size w W8 := hb.trans (q.mono hb.size); have hlow : W7.heap.size <= W7.heap.size := by first | exact Nat.le_refl _ | (simp; done) | (simp; omega) | omega
    have FZ := Lib.hid (zaa fZ hlow (Nat.le_refl _)); have DZ : Hid (∀ x ∈ SZ, x ∉ [w.heap.size, w.heap.size + 1, go, gp, gq]) := (fun x hx => by have := (FZ.out.2 x hx).1; simp; omega)
    have OZ := Lib.hid oZ; clear oZ fZ hlow; clear q; clear OY FY DY; have HJZ : Hid (∀ x ∈ SZ, x ∉ S) := (fun x hx hx' => by have := (FZ.out.2 x hx).1; have := hU x hx'; omega)
    clear hU; obtain ⟨SK1, SK3, eK, oK, pK⟩ := OK.out; have FKx := FK.out; have DKx := DK.out; rw [eK] at FKx DKx; have OK1 := Lib.hid oK; have OK3 := Lib.hid pK; have FK1 := Lib.hid (zbp FKx); have FK3 := Lib.hid (za9 FKx); have DK1 : Hid (∀ x ∈ SK1, x ∉ [w.heap.size, w.heap.size + 1, go, gp, gq]) := (fun x hx => DKx x (List.mem_append_left _ hx))
    have DK3 : Hid (∀ x ∈ SK3, x ∉ [w.heap.size, w.heap.size + 1, go, gp, gq]) := (fun x hx => DKx x (List.mem_append_right _ hx))
    have JK : Hid (∀ x ∈ SK1, x ∉ SK3) := (zcm FKx.1).2.2.1; clear OK FK DK FKx DKx oK pK; clear OK1 FK1 DK1; obtain ⟨o0, o1, o2, o3, o4⟩ := Lo.a5; obtain ⟨of0, of1, of2, of3, of4⟩ := Lo.b5
    go_upto_region 9 with (fail)
    clear o0 of0 o1 of1 o2 of2 o3 of3 o4 of4; replace Lc := Lc.far (g := go) (i := 0) (u := .int .i64 n) (by omega)
    replace Lr := Lr.far (g := go) (i := 0) (u := .int .i64 n) (by omega)
    replace Lp := Lp.far (g := go) (i := 0) (u := .int .i64 n) (by omega)
    replace Lq := Lq.far (g := go) (i := 0) (u := .int .i64 n) (by omega)
    replace Lo : Loc (W8.setCell ⟨go, 0, none⟩ (.int .i64 n)) (go) [.int .i64 n, .slice B1 cs.length k1, .slice B2 pl.length k2, .slice B3 ds.length k3, .int .i64 m] := Lo.set (i := 0) (v := .int .i64 n) rfl; have hch : Chg [go] W8 (W8.setCell ⟨go, 0, none⟩ (.int .i64 n)) := zav (Chg.refl _ _) (by simp)
    replace OZ := Lib.hid (OZ.out.chg hch (fun x hx hx' => DZ.out x hx (by simp at hx'; subst hx'; simp)))
    replace FZ := Lib.hid (zaa (w' := (W8.setCell ⟨go, 0, none⟩ (.int .i64 n))) FZ.out (Nat.le_refl _) hch.size); replace OK3 := Lib.hid (OK3.out.chg hch (fun x hx hx' => DK3.out x hx (by simp at hx'; subst hx'; simp)))
    replace FK3 := Lib.hid (zaa (w' := (W8.setCell ⟨go, 0, none⟩ (.int .i64 n))) FK3.out (Nat.le_refl _) hch.size); replace hb : Below w.heap.size w (W8.setCell ⟨go, 0, none⟩ (.int .i64 n)) := Below.chg hb hch hb.size (by simp; omega)
    have hzc := hch.size; clear hch; generalize W8.setCell ⟨go, 0, none⟩ (.int .i64 n) = W9 at *
    replace Lc := Lc.far (g := go) (i := 1) (u := .slice E1 c3.length i1) (by omega)
    replace Lr := Lr.far (g := go) (i := 1) (u := .slice E1 c3.length i1) (by omega)
    replace Lp := Lp.far (g := go) (i := 1) (u := .slice E1 c3.length i1) (by omega)
    replace Lq := Lq.far (g := go) (i := 1) (u := .slice E1 c3.length i1) (by omega)
    replace Lo : Loc (W9.setCell ⟨go, 1, none⟩ (.slice E1 c3.length i1)) (go) [.int .i64 n, .slice E1 c3.length i1, .slice B2 pl.length k2, .slice B3 ds.length k3, .int .i64 m] := Lo.set (i := 1) (v := .slice B1 cs.length k1) rfl; have hch : Chg [go] W9 (W9.setCell ⟨go, 1, none⟩ (.slice E1 c3.length i1)) := zav (Chg.refl _ _) (by simp)
    replace OZ := Lib.hid (OZ.out.chg hch (fun x hx hx' => DZ.out x hx (by simp at hx'; subst hx'; simp)))
    replace FZ := Lib.hid (zaa (w' := (W9.setCell ⟨go, 1, none⟩ (.slice E1 c3.length i1))) FZ.out (Nat.le_refl _) hch.size); replace OK3 := Lib.hid (OK3.out.chg hch (fun x hx hx' => DK3.out x hx (by simp at hx'; subst hx'; simp)))
    replace FK3 := Lib.hid (zaa (w' := (W9.setCell ⟨go, 1, none⟩ (.slice E1 c3.length i1))) FK3.out (Nat.le_refl _) hch.size); replace hb : Below w.heap.size w (W9.setCell ⟨go, 1, none⟩ (.slice E1 c3.length i1)) := Below.chg hb hch hb.size (by simp; omega)
    have hzc := hch.size; clear hch; generalize W9.setCell ⟨go, 1, none⟩ (.slice E1 c3.length i1) = W10 at *
    replace Lc := Lc.far (g := go) (i := 2) (u := .slice E2 pl.length i2) (by omega)
    replace Lr := Lr.far (g := go) (i := 2) (u := .slice E2 pl.length i2) (by omega)
    replace Lp := Lp.far (g := go) (i := 2) (u := .slice E2 pl.length i2) (by omega)
    replace Lq := Lq.far (g := go) (i := 2) (u := .slice E2 pl.length i2) (by omega)
    replace Lo : Loc (W10.setCell ⟨go, 2, none⟩ (.slice E2 pl.length i2)) (go) [.int .i64 n, .slice E1 c3.length i1, .slice E2 pl.length i2, .slice B3 ds.length k3, .int .i64 m] := Lo.set (i := 2) (v := .slice B2 pl.length k2) rfl; have hch : Chg [go] W10 (W10.setCell ⟨go, 2, none⟩ (.slice E2 pl.length i2)) := zav (Chg.refl _ _) (by simp)
    replace OZ := Lib.hid (OZ.out.chg hch (fun x hx hx' => DZ.out x hx (by simp at hx'; subst hx'; simp)))
    replace FZ := Lib.hid (zaa (w' := (W10.setCell ⟨go, 2, none⟩ (.slice E2 pl.length i2))) FZ.out (Nat.le_refl _) hch.size); replace OK3 := Lib.hid (OK3.out.chg hch (fun x hx hx' => DK3.out x hx (by simp at hx'; subst hx'; simp)))
    replace FK3 := Lib.hid (zaa (w' := (W10.setCell ⟨go, 2, none⟩ (.slice E2 pl.length i2))) FK3.out (Nat.le_refl _) hch.size); replace hb : Below w.heap.size w (W10.setCell ⟨go, 2, none⟩ (.slice E2 pl.length i2)) := Below.chg hb hch hb.size (by simp; omega)
    have hzc := hch.size; clear hch; generalize W10.setCell ⟨go, 2, none⟩ (.slice E2 pl.length i2) = W11 at *
    replace FZ := Lib.hid (zaa (B' := w.heap.size + 1 + 1) FZ.out (by have := hb.size; omega) (Nat.le_refl _))
    have OP : zai W11 (SZ ++ SK3) (.slice E1 c3.length i1) (.slice E2 pl.length i2) (.slice B3 ds.length k3) c3 pl ds := ⟨_, _, rfl, OZ.out, OK3.out⟩; have FQ := Lib.hid (zbf FZ.out FK3.out (fun x hx hx' => HJZ.out x hx (by rw [eK]; exact List.mem_append_right _ hx')))
    have DQ : Hid (∀ x ∈ SZ ++ SK3, x ∉ [w.heap.size, w.heap.size + 1, go, gp, gq]) := (fun x hx => (List.mem_append.1 hx).elim (DZ.out x) (DK3.out x))
    have OQ := Lib.hid (OP); clear OZ FZ DZ OK3 FK3 DK3; obtain ⟨SQ, hSQ⟩ : ∃ T, SZ ++ SK3 = T := ⟨_, rfl⟩; rw [hSQ] at OQ FQ DQ; clear hSQ; clear OP; obtain ⟨o0, o1, o2, o3, o4⟩ := Lo.a5; obtain ⟨r0, r1, r2, r3, r4⟩ := Lr.a5; obtain ⟨rf0, rf1, rf2, rf3, rf4⟩ := Lr.b5; go_wp2_with fail; refine bodyPost_ret (v := .tuple #[.agg #[.int .i64 n, .slice E1 c3.length i1, .slice E2 pl.length i2, .slice B3 ds.length k3, .int .i64 m], .bool true]) (by simp [results, Tryz.results56, go_sem, *]) rfl (zsj ⟨hq.out, rfl, HOK.out hq.out (by simp)⟩ ⟨_, _, _, SQ, rfl, ?_, ?_, ?_⟩)
    ·exact OQ.out.chg (T := [w.heap.size + 1]) (cS) (fun x hx hx' => DQ.out x hx (by simp at hx'; subst hx'; simp))
    ·exact zaa FQ.out (by omega) (by simp)
    ·exact Below.chg hb (S := [w.heap.size + 1]) (cS) hb.size (fun x hx => by simp at hx; omega)
 ·skip
  clear c0 c1 c2 c3 c4; have hzq : W2.heap.size <= W3.heap.size := by have := q.size; (try simp at this); omega
  replace Lc := Lc.below q; replace Lr := Lr.below q; replace Lo := Lo.below q; replace OK := Lib.hid (OK.out.below q); replace FK := Lib.hid (zaa (w' := W3) FK.out (Nat.le_refl _) hzq); replace hb : Below w.heap.size w W3 := hb.trans (q.mono hb.size); clear q; obtain ⟨o0, o1, o2, o3, o4⟩ := Lo.a5; obtain ⟨r0, r1, r2, r3, r4⟩ := Lr.a5; obtain ⟨rf0, rf1, rf2, rf3, rf4⟩ := Lr.b5; go_wp2_with fail; refine bodyPost_ret (v := .tuple #[.agg #[.int .i64 n, .slice B1 cs.length k1, .slice B2 pl.length k2, .slice B3 ds.length k3, .int .i64 m], .bool false]) (by simp [results, Tryz.results56, go_sem, *]) rfl (zf0 (fun hh => absurd (show zau n m cs pl ds = true from hh.1) (by rw [hq.out]; simp)) ⟨_, _, _, S, rfl, ?_, ?_, ?_⟩)
  ·exact OK.out.chg (T := [w.heap.size + 1]) (cS) (fun x hx hx' => DK.out x hx (by simp at hx'; subst hx'; simp))
  ·exact zaa FK.out (by omega) (by simp)
  ·exact Below.chg hb (S := [w.heap.size + 1]) (cS) hb.size (fun x hx => by simp at hx; omega)
def numB (b : Bool) : Int := if b = true then 1 else 0
def zg3 (t : Th) (a : RAct) : Th × Int :=
 if a.1 = 1 then ((zk5 t a.2.1).1, numB (zk5 t a.2.1).2)
 else if a.1 = 2 then ((zgc t a.2.1 a.2.2).1, numB (zgc t a.2.1 a.2.2).2)
 else if a.1 = 3 then ((zfz t a.2.1 true).1, numB (zfz t a.2.1 true).2)
 else if a.1 = 4 then ((zfz t a.2.1 false).1, numB (zfz t a.2.1 false).2)
 else if a.1 = 5 then ((putT t).1, numB (putT t).2)
 else if a.1 = 6 then ((zk4 t a.2.1).1, numB (zk4 t a.2.1).2)
 else (t, whyF t.n t.cs t.pl)
def doF (t : Th) (a : RAct) : Th × Int := if t.ok = true /\ actB a.1 a.2.1 a.2.2 = true then zg3 t a else (t, -1)
theorem zn7 {k a b : Int} (h : actB k a b = true) : k = 1 ∨ k = 2 ∨ k = 3 ∨ k = 4 ∨ k = 5 ∨ k = 6 ∨ k = 7 := by
 apply Classical.byContradiction
 intro hn; unfold actB at h; rw [if_neg (by omega), if_neg (by omega), if_neg (by omega), if_neg (by omega), if_neg (by omega), if_neg (by omega), if_neg (by omega)] at h
 cases h
theorem zy8 (t : Th) (a : RAct) : (zg3 t a).1.sz <= t.sz ∨ (zg3 t a).1.sz <= 148 := by
 unfold zg3
 repeat' split
 all_goals first | exact zzz _ _ _ | exact .inl (Nat.le_refl _)
theorem z0c (t : Th) (a : RAct) : (doF t a).1.sz <= t.sz ∨ (doF t a).1.sz <= 148 := by
 unfold doF
 split
 ·exact zy8 t a
 ·exact .inl (Nat.le_refl _)
def zv6 (B : Nat) (n m k : Int) (cs : List zad) (pl : List RPl) (ds : List Int) (w : World) (e : Ending) (w' : World) : Prop :=
 ∃ x1 x2 x3 S, e = .returned (.tuple #[.agg #[.int .i64 n, x1, x2, x3, .int .i64 m], .int .i64 k]) /\ zai w' S x1 x2 x3 cs pl ds /\ zbc B w' S /\ Below w.heap.size w w'
def zyc (B : Nat) (r : Th × Int) : World -> Ending -> World -> Prop := zv6 B r.1.n r.1.m r.2 r.1.cs r.1.pl r.1.ds
theorem zm8 {B : Nat} {t : Th} {a : RAct} {n m k : Int} {cs : List zad} {pl : List RPl} {ds : List Int} {w w' : World} {e : Ending} (h : doF t a = (⟨n, m, cs, pl, ds⟩, k)) (hr : zv6 B n m k cs pl ds w e w') : zyc B (doF t a) w e w' := by rw [h]; exact hr
theorem do_f {t : Th} {a : RAct} (h : ¬ (t.ok = true /\ actB a.1 a.2.1 a.2.2 = true)) : doF t a = (t, -1) := if_neg h
theorem do_t {t : Th} {k a b : Int} (h1 : t.ok = true) (h2 : actB k a b = true) : doF t (k, a, b) = zg3 t (k, a, b) := if_pos ⟨h1, h2⟩
theorem zw7 (t : Th) (a b : Int) : zg3 t (1, a, b) = ((zk5 t a).1, numB (zk5 t a).2) := rfl
theorem zxk (t : Th) (a b : Int) : zg3 t (2, a, b) = ((zgc t a b).1, numB (zgc t a b).2) := rfl
theorem zwy (t : Th) (a b : Int) : zg3 t (3, a, b) = ((zfz t a true).1, numB (zfz t a true).2) := rfl
theorem zw0 (t : Th) (a b : Int) : zg3 t (4, a, b) = ((zfz t a false).1, numB (zfz t a false).2) := rfl
theorem zw6 (t : Th) (a b : Int) : zg3 t (5, a, b) = ((putT t).1, numB (putT t).2) := rfl
theorem zxr (t : Th) (a b : Int) : zg3 t (6, a, b) = ((zk4 t a).1, numB (zk4 t a).2) := rfl
theorem zxc (t : Th) (a b : Int) : zg3 t (7, a, b) = (t, whyF t.n t.cs t.pl) := rfl
theorem zwb {a : Act} (h : a.tmps.size = 78) (hd : a.defers = []) : ∃ x0 x1 x2 x3 x4 x5 x6 x7 x8 x9 x10 x11 x12 x13 x14 x15 x16 x17 x18 x19 x20 x21 x22 x23 x24 x25 x26 x27 x28 x29 x30 x31 x32 x33 x34 x35 x36 x37 x38 x39 x40 x41 x42 x43 x44 x45 x46 x47 x48 x49 x50 x51 x52 x53 x54 x55 x56 x57 x58 x59 x60 x61 x62 x63 x64 x65 x66 x67 x68 x69 x70 x71 x72 x73 x74 x75 x76 x77 : Value, a = ⟨#[x0, x1, x2, x3, x4, x5, x6, x7, x8, x9, x10, x11, x12, x13, x14, x15, x16, x17, x18, x19, x20, x21, x22, x23, x24, x25, x26, x27, x28, x29, x30, x31, x32, x33, x34, x35, x36, x37, x38, x39, x40, x41, x42, x43, x44, x45, x46, x47, x48, x49, x50, x51, x52, x53, x54, x55, x56, x57, x58, x59, x60, x61, x62, x63, x64, x65, x66, x67, x68, x69, x70, x71, x72, x73, x74, x75, x76, x77], []⟩ := by
 obtain ⟨⟨l⟩, d⟩ := a; subst hd
 match l, h with
 | x0 :: x1 :: x2 :: x3 :: x4 :: x5 :: x6 :: x7 :: x8 :: x9 :: x10 :: x11 :: x12 :: x13 :: x14 :: x15 :: x16 :: x17 :: x18 :: x19 :: x20 :: x21 :: x22 :: x23 :: x24 :: x25 :: x26 :: x27 :: x28 :: x29 :: x30 :: x31 :: x32 :: x33 :: x34 :: x35 :: x36 :: x37 :: x38 :: x39 :: x40 :: x41 :: x42 :: x43 :: x44 :: x45 :: x46 :: x47 :: x48 :: x49 :: x50 :: x51 :: x52 :: x53 :: x54 :: x55 :: x56 :: x57 :: x58 :: x59 :: x60 :: x61 :: x62 :: x63 :: x64 :: x65 :: x66 :: x67 :: x68 :: x69 :: x70 :: x71 :: x72 :: x73 :: x74 :: x75 :: x76 :: x77 :: [], _ => exact ⟨x0, x1, x2, x3, x4, x5, x6, x7, x8, x9, x10, x11, x12, x13, x14, x15, x16, x17, x18, x19, x20, x21, x22, x23, x24, x25, x26, x27, x28, x29, x30, x31, x32, x33, x34, x35, x36, x37, x38, x39, x40, x41, x42, x43, x44, x45, x46, x47, x48, x49, x50, x51, x52, x53, x54, x55, x56, x57, x58, x59, x60, x61, x62, x63, x64, x65, x66, x67, x68, x69, x70, x71, x72, x73, x74, x75, x76, x77, rfl⟩
def pdwi (_w : World) (n m : Int) (A1 A2 B1 B2 B3 : Option Addr) (csn pln dsn n1 n2 k1 k2 k3 gc _gr _go : Nat) (wy : Int) (i : Nat) (v : Value) (_ : Nat -> Nat) (_ : World) : Prop :=
 match i with
 | 0 => v = .agg #[.int .i64 n, .slice B1 csn k1, .slice B2 pln k2, .slice B3 dsn k3, .int .i64 m]
 | 1 => v = .pointer (some ⟨gc, 0, none⟩)
 | 2 => v = .agg #[.int .i64 n, .slice A1 csn n1, .slice A2 pln n2]
 | 3 => v = .int .i64 wy
 | _ => True
theorem zmy (n m ka aa ba : Int) (v1 v2 v3 : Value) (cs : List zad) (pl : List RPl) (ds : List Int) (w : World) (h : zak w v1 v2 v3 cs pl ds) (hsz : zas cs pl ds <= 1048576) :
  Calls Tryz.prog 41 #[.agg #[.int .i64 n, v1, v2, v3, .int .i64 m], .agg #[.int .i64 ka, .int .i64 aa, .int .i64 ba]] w (zyc w.heap.size (doF ⟨n, m, cs, pl, ds⟩ (ka, aa, ba)) w) := by
 obtain ⟨⟨A1, n1, rfl⟩, ⟨A2, n2, rfl⟩, ⟨A3, n3, rfl⟩⟩ := h.forms
 go_enter Tryz.func41, Tryz.ntmps41
 go_wp2_with fail; refine twoB (zb7 n m _ _ _ cs pl ds _ (h.below (bM))) (fun W1 hq q => ?_) (fun W1 hq q => ?_)
 ·skip
  have Lc : Loc W1 (w.heap.size) [.int .i64 n, .slice A1 cs.length n1, .slice A2 pl.length n2, .slice A3 ds.length n3, .int .i64 m] := by have := (((Loc.new w #[.int .i64 n, .slice A1 cs.length n1, .slice A2 pl.length n2, .slice A3 ds.length n3, .int .i64 m] 39).alloc _).alloc _).below q; simpa using this
  have La : Loc W1 (w.heap.size + 1) [.int .i64 ka, .int .i64 aa, .int .i64 ba] := by have := ((Loc.new (w.alloc (.cells #[.int .i64 n, .slice A1 cs.length n1, .slice A2 pl.length n2, .slice A3 ds.length n3, .int .i64 m] 39)) #[.int .i64 ka, .int .i64 aa, .int .i64 ba] 30).alloc _).below q; simpa using this
  have Lr : Loc W1 (w.heap.size + 1 + 1) [.int .i64 0, .slice none 0 0, .slice none 0 0, .slice none 0 0, .int .i64 0] := by have := (Loc.new ((w.alloc (.cells #[.int .i64 n, .slice A1 cs.length n1, .slice A2 pl.length n2, .slice A3 ds.length n3, .int .i64 m] 39)).alloc (.cells #[.int .i64 ka, .int .i64 aa, .int .i64 ba] 30)) #[.int .i64 0, .slice none 0 0, .slice none 0 0, .slice none 0 0, .int .i64 0] 39).below q; simpa using this
  have hb : Below w.heap.size w W1 := Below.trans (bM) (q.mono (by simp <;> omega))
  have hz0 : w.heap.size + 1 + 1 + 1 <= W1.heap.size := by have := q.size; simp at this; omega
  clear q; have HQ := hq; obtain ⟨a0, a1, a2⟩ := La.a3; go_wp2_with fail; refine twoB (zh5 ka aa ba _) (fun W2 HA q => ?_) (fun W2 HA q => ?_)
  ·skip
   clear a0 a1 a2; have hzq : W1.heap.size <= W2.heap.size := by have := q.size; (try simp at this); omega
   replace Lc := Lc.below q; replace La := La.below q; replace Lr := Lr.below q; replace hb : Below w.heap.size w W2 := hb.trans (q.mono hb.size); clear q; obtain ⟨c0, c1, c2, c3, c4⟩ := Lc.a5; go_wp2_with fail; refine (zay n m _ _ _ cs pl ds _ (h.below hb) hsz).mono ?_; rintro e W3 ⟨x1, x2, x3, S, rfl, ow, f1, q⟩; clear c0 c1 c2 c3 c4; obtain ⟨⟨B1, k1, rfl⟩, ⟨B2, k2, rfl⟩, ⟨B3, k3, rfl⟩⟩ := ow.rd.forms; have hzq : W2.heap.size <= W3.heap.size := by have := q.size; (try simp at this); omega
   replace Lc := Lc.below q; replace La := La.below q; replace Lr := Lr.below q; replace hb : Below w.heap.size w W3 := hb.trans (q.mono hb.size); have hlow : W2.heap.size <= W2.heap.size := by first | exact Nat.le_refl _ | (simp; done) | (simp; omega) | omega
   have FK := Lib.hid (zaa f1 hlow (Nat.le_refl _)); have DK : Hid (∀ x ∈ S, x ∉ [w.heap.size, w.heap.size + 1, w.heap.size + 1 + 1]) := (fun x hx => by have := (FK.out.2 x hx).1; simp; omega)
   have OK := Lib.hid ow; clear ow f1 hlow; clear q
   go_upto_region 4 with (fail)
   replace Lc : Loc (W3.alloc (.cells #[.int .i64 n, .slice B1 cs.length k1, .slice B2 pl.length k2, .slice B3 ds.length k3, .int .i64 m] 39)) (w.heap.size) [.int .i64 n, .slice A1 cs.length n1, .slice A2 pl.length n2, .slice A3 ds.length n3, .int .i64 m] := Lc.alloc _; replace La : Loc (W3.alloc (.cells #[.int .i64 n, .slice B1 cs.length k1, .slice B2 pl.length k2, .slice B3 ds.length k3, .int .i64 m] 39)) (w.heap.size + 1) [.int .i64 ka, .int .i64 aa, .int .i64 ba] := La.alloc _; replace Lr : Loc (W3.alloc (.cells #[.int .i64 n, .slice B1 cs.length k1, .slice B2 pl.length k2, .slice B3 ds.length k3, .int .i64 m] 39)) (w.heap.size + 1 + 1) [.int .i64 0, .slice none 0 0, .slice none 0 0, .slice none 0 0, .int .i64 0] := Lr.alloc _; obtain ⟨go, hgo⟩ : ∃ g, W3.heap.size = g := ⟨_, rfl⟩; have Lo : Loc (W3.alloc (.cells #[.int .i64 n, .slice B1 cs.length k1, .slice B2 pl.length k2, .slice B3 ds.length k3, .int .i64 m] 39)) W3.heap.size [.int .i64 n, .slice B1 cs.length k1, .slice B2 pl.length k2, .slice B3 ds.length k3, .int .i64 m] := Loc.new W3 #[.int .i64 n, .slice B1 cs.length k1, .slice B2 pl.length k2, .slice B3 ds.length k3, .int .i64 m] 39
   rw [hgo] at Lo; replace OK := Lib.hid (OK.out.below (w' := (W3.alloc (.cells #[.int .i64 n, .slice B1 cs.length k1, .slice B2 pl.length k2, .slice B3 ds.length k3, .int .i64 m] 39))) ((Below.refl _ _).alloc (Nat.le_refl _) _)); replace DK : Hid (∀ x ∈ S, x ∉ [w.heap.size, w.heap.size + 1, w.heap.size + 1 + 1, go]) := (fun x hx => by have := DK.out x hx; have := (FK.out.2 x hx).2; simp at *; omega)
   replace FK := Lib.hid (zaa (w' := (W3.alloc (.cells #[.int .i64 n, .slice B1 cs.length k1, .slice B2 pl.length k2, .slice B3 ds.length k3, .int .i64 m] 39))) FK.out (Nat.le_refl _) (by simp))
   replace hb : Below w.heap.size w (W3.alloc (.cells #[.int .i64 n, .slice B1 cs.length k1, .slice B2 pl.length k2, .slice B3 ds.length k3, .int .i64 m] 39)) := hb.alloc hb.size _; have hlto : go < (W3.alloc (.cells #[.int .i64 n, .slice B1 cs.length k1, .slice B2 pl.length k2, .slice B3 ds.length k3, .int .i64 m] 39)).heap.size := by simp; omega
   have hne_c_o : w.heap.size < go := by omega
   have hne_a_o : w.heap.size + 1 < go := by omega
   have hne_r_o : w.heap.size + 1 + 1 < go := by omega
   generalize W3.alloc (.cells #[.int .i64 n, .slice B1 cs.length k1, .slice B2 pl.length k2, .slice B3 ds.length k3, .int .i64 m] 39) = W4 at *
   rw [hgo]; clear hgo
   rcases zn7 HA.out with rfl | rfl | rfl | rfl | rfl | rfl | rfl
   obtain ⟨⟨⟨rn, rm, rcs, rpl, rds⟩, rb⟩, hres⟩ : ∃ res, zk5 ⟨n, m, cs, pl, ds⟩ aa = res := ⟨_, rfl⟩
   have hX : Hid (∀ W, zak W (.slice A1 cs.length n1) (.slice A2 pl.length n2) (.slice A3 ds.length n3) cs pl ds -> Calls Tryz.prog 78 #[.agg #[.int .i64 n, .slice A1 cs.length n1, .slice A2 pl.length n2, .slice A3 ds.length n3, .int .i64 m], .int .i64 aa] W (RetT W.heap.size rn rm rb rcs rpl rds W)) := fun W hr => by
    have := zhx n m aa _ _ _ cs pl ds W hr hsz; rw [hres] at this; exact this
   have HD : Hid (doF ⟨n, m, cs, pl, ds⟩ (1, aa, ba) = (⟨rn, rm, rcs, rpl, rds⟩, numB rb)) := by show _ = _; rw [do_t (t := ⟨n, m, cs, pl, ds⟩) HQ.out HA.out, zw7, hres]
   clear hres; obtain ⟨a0, a1, a2⟩ := La.a3; clear La
   rotate_left
   obtain ⟨⟨⟨rn, rm, rcs, rpl, rds⟩, rb⟩, hres⟩ : ∃ res, zgc ⟨n, m, cs, pl, ds⟩ aa ba = res := ⟨_, rfl⟩
   have hX : Hid (∀ W, zak W (.slice A1 cs.length n1) (.slice A2 pl.length n2) (.slice A3 ds.length n3) cs pl ds -> Calls Tryz.prog 79 #[.agg #[.int .i64 n, .slice A1 cs.length n1, .slice A2 pl.length n2, .slice A3 ds.length n3, .int .i64 m], .int .i64 aa, .int .i64 ba] W (RetT W.heap.size rn rm rb rcs rpl rds W)) := fun W hr => by
    have := zhm n m aa ba _ _ _ cs pl ds W hr hsz; rw [hres] at this; exact this
   have HD : Hid (doF ⟨n, m, cs, pl, ds⟩ (2, aa, ba) = (⟨rn, rm, rcs, rpl, rds⟩, numB rb)) := by show _ = _; rw [do_t (t := ⟨n, m, cs, pl, ds⟩) HQ.out HA.out, zxk, hres]
   clear hres; obtain ⟨a0, a1, a2⟩ := La.a3; clear La
   rotate_left
   obtain ⟨⟨⟨rn, rm, rcs, rpl, rds⟩, rb⟩, hres⟩ : ∃ res, zfz ⟨n, m, cs, pl, ds⟩ aa true = res := ⟨_, rfl⟩
   have hX : Hid (∀ W, zak W (.slice A1 cs.length n1) (.slice A2 pl.length n2) (.slice A3 ds.length n3) cs pl ds -> Calls Tryz.prog 80 #[.agg #[.int .i64 n, .slice A1 cs.length n1, .slice A2 pl.length n2, .slice A3 ds.length n3, .int .i64 m], .int .i64 aa, .bool true] W (RetT W.heap.size rn rm rb rcs rpl rds W)) := fun W hr => by
    have := zeq n m aa true _ _ _ cs pl ds W hr hsz; rw [hres] at this; exact this
   have HD : Hid (doF ⟨n, m, cs, pl, ds⟩ (3, aa, ba) = (⟨rn, rm, rcs, rpl, rds⟩, numB rb)) := by show _ = _; rw [do_t (t := ⟨n, m, cs, pl, ds⟩) HQ.out HA.out, zwy, hres]
   clear hres; obtain ⟨a0, a1, a2⟩ := La.a3; clear La
   rotate_left
   obtain ⟨⟨⟨rn, rm, rcs, rpl, rds⟩, rb⟩, hres⟩ : ∃ res, zfz ⟨n, m, cs, pl, ds⟩ aa false = res := ⟨_, rfl⟩
   have hX : Hid (∀ W, zak W (.slice A1 cs.length n1) (.slice A2 pl.length n2) (.slice A3 ds.length n3) cs pl ds -> Calls Tryz.prog 80 #[.agg #[.int .i64 n, .slice A1 cs.length n1, .slice A2 pl.length n2, .slice A3 ds.length n3, .int .i64 m], .int .i64 aa, .bool false] W (RetT W.heap.size rn rm rb rcs rpl rds W)) := fun W hr => by
    have := zeq n m aa false _ _ _ cs pl ds W hr hsz; rw [hres] at this; exact this
   have HD : Hid (doF ⟨n, m, cs, pl, ds⟩ (4, aa, ba) = (⟨rn, rm, rcs, rpl, rds⟩, numB rb)) := by show _ = _; rw [do_t (t := ⟨n, m, cs, pl, ds⟩) HQ.out HA.out, zw0, hres]
   clear hres; obtain ⟨a0, a1, a2⟩ := La.a3; clear La
   rotate_left
   obtain ⟨⟨⟨rn, rm, rcs, rpl, rds⟩, rb⟩, hres⟩ : ∃ res, putT ⟨n, m, cs, pl, ds⟩ = res := ⟨_, rfl⟩
   have hX : Hid (∀ W, zak W (.slice A1 cs.length n1) (.slice A2 pl.length n2) (.slice A3 ds.length n3) cs pl ds -> Calls Tryz.prog 81 #[.agg #[.int .i64 n, .slice A1 cs.length n1, .slice A2 pl.length n2, .slice A3 ds.length n3, .int .i64 m]] W (RetT W.heap.size rn rm rb rcs rpl rds W)) := fun W hr => by
    have := zh0 n m  _ _ _ cs pl ds W hr hsz; rw [hres] at this; exact this
   have HD : Hid (doF ⟨n, m, cs, pl, ds⟩ (5, aa, ba) = (⟨rn, rm, rcs, rpl, rds⟩, numB rb)) := by show _ = _; rw [do_t (t := ⟨n, m, cs, pl, ds⟩) HQ.out HA.out, zw6, hres]
   clear hres; obtain ⟨a0, a1, a2⟩ := La.a3; clear La
   rotate_left
   obtain ⟨⟨⟨rn, rm, rcs, rpl, rds⟩, rb⟩, hres⟩ : ∃ res, zk4 ⟨n, m, cs, pl, ds⟩ aa = res := ⟨_, rfl⟩
   have hX : Hid (∀ W, zak W (.slice A1 cs.length n1) (.slice A2 pl.length n2) (.slice A3 ds.length n3) cs pl ds -> Calls Tryz.prog 82 #[.agg #[.int .i64 n, .slice A1 cs.length n1, .slice A2 pl.length n2, .slice A3 ds.length n3, .int .i64 m], .int .i64 aa] W (RetT W.heap.size rn rm rb rcs rpl rds W)) := fun W hr => by
    have := zju n m aa _ _ _ cs pl ds W hr hsz; rw [hres] at this; exact this
   have HD : Hid (doF ⟨n, m, cs, pl, ds⟩ (6, aa, ba) = (⟨rn, rm, rcs, rpl, rds⟩, numB rb)) := by show _ = _; rw [do_t (t := ⟨n, m, cs, pl, ds⟩) HQ.out HA.out, zxr, hres]
   clear hres; obtain ⟨a0, a1, a2⟩ := La.a3; clear La
   rotate_left
   ·skip
    have HD : Hid (doF ⟨n, m, cs, pl, ds⟩ (7, aa, ba) = (⟨n, m, cs, pl, ds⟩, whyF n cs pl)) := by show _ = _; rw [do_t (t := ⟨n, m, cs, pl, ds⟩) HQ.out HA.out, zxc]
    have hWN : Hid (∀ w', zaq w' (.slice A1 cs.length n1) (.slice A2 pl.length n2) cs pl -> Calls Tryz.prog 47 #[.agg #[.int .i64 n, .slice A1 cs.length n1, .slice A2 pl.length n2]] w' fun e w'' => e = .returned (.int .i64 (whyF n cs pl)) /\ Below w'.heap.size w' w'') := fun w' hr => ze5 n _ _ cs pl w' hr
    generalize whyF n cs pl = wy at *
    obtain ⟨a0, a1, a2⟩ := La.a3
    go_upto_region 5 with (fail)
    clear a0 a1 a2; refine zba (n := 78) 4 (by kernel_rfl) rfl (by kernel_rfl) (fun w' => Below W4.heap.size W4 w') (fun _ => 0) (pdwi w n m A1 A2 B1 B2 B3 cs.length pl.length ds.length n1 n2 k1 k2 k3 (w.heap.size) (w.heap.size + 1 + 1) (go) wy) (Below.refl _ _).drew ?_ ?_ ?_
    ·intro i v gh gh' w1 w2 hp hJ hb' hg
     match i, hp with
     | 0, hp => exact hp
     | 1, hp => exact hp
     | 2, hp => exact hp
     | 3, hp => exact hp
     | _ + 4, _ => trivial
    ·refine ⟨?_, ?_, ?_, ?_, trivial⟩
     ·intro a gh w5 hag hJ hd
      have ag6 : a.tmps.getD 6 undef = .pointer (some ⟨go, 0, none⟩) := hag.k 6
      clear hag; have o0 := ((Lo.below hJ) 0 _ rfl).1; have o1 := ((Lo.below hJ) 1 _ rfl).1; have o2 := ((Lo.below hJ) 2 _ rfl).1; have o3 := ((Lo.below hJ) 3 _ rfl).1; have o4 := ((Lo.below hJ) 4 _ rfl).1; go_wp2_with fail; exact mp0 hJ rfl
     ·intro a gh w5 hag hJ hd
      have ag2 : a.tmps.getD 2 undef = .pointer (some ⟨w.heap.size, 0, none⟩) := hag.k 2
      clear hag; go_wp2_with fail; exact mp0 hJ rfl
     ·intro a gh w5 hag hJ hd
      clear hag; have e0 : a.tmps.getD 23 undef = .pointer (some ⟨w.heap.size, 0, none⟩) := hd 1 (by kernel_rfl) _ rfl
      have c0 := ((Lc.below hJ) 0 _ rfl).1; have c1 := ((Lc.below hJ) 1 _ rfl).1; have c2 := ((Lc.below hJ) 2 _ rfl).1; go_wp2_with fail; exact mp0 hJ rfl
     ·intro a gh w5 hag hJ hd
      clear hag; have e0 : a.tmps.getD 24 undef = .agg #[.int .i64 n, .slice A1 cs.length n1, .slice A2 pl.length n2] := hd 2 (by kernel_rfl) _ rfl
      go_wp2_with fail; refine (hWN.out w5 ((h.below (hb.trans (hJ.mono hb.size))).1)).mono ?_; rintro e w6 ⟨rfl, hb6⟩; go_wp2_with fail; exact ⟨rfl, _, rfl, rfl, zab hJ hb6, hb6⟩
    ·intro a gh w5 hag hJ hd
     obtain ⟨x0, x1, x2, x3, x4, x5, x6, x7, x8, x9, x10, x11, x12, x13, x14, x15, x16, x17, x18, x19, x20, x21, x22, x23, x24, x25, x26, x27, x28, x29, x30, x31, x32, x33, x34, x35, x36, x37, x38, x39, x40, x41, x42, x43, x44, x45, x46, x47, x48, x49, x50, x51, x52, x53, x54, x55, x56, x57, x58, x59, x60, x61, x62, x63, x64, x65, x66, x67, x68, x69, x70, x71, x72, x73, x74, x75, x76, x77, rfl⟩ := zwb hag.size hag.defers; have ag2 : x2 = .pointer (some ⟨w.heap.size, 0, none⟩) := hag.k 2
     have ag4 : x4 = .pointer (some ⟨w.heap.size + 1 + 1, 0, none⟩) := hag.k 4
     have ag6 : x6 = .pointer (some ⟨go, 0, none⟩) := hag.k 6
     clear hag; subst ag2 ag4 ag6; have e0 : x22 = .agg #[.int .i64 n, .slice B1 cs.length k1, .slice B2 pl.length k2, .slice B3 ds.length k3, .int .i64 m] := hd 0 (by kernel_rfl) _ rfl
     have e3 : x25 = .int .i64 wy := hd 3 (by kernel_rfl) _ rfl
     subst e0 e3; clear hd; change wpList _ _ _ [_, _] _ _; have hzq : W4.heap.size <= w5.heap.size := by have := hJ.size; (try simp at this); omega
     replace Lc := Lc.below hJ; replace La := La.below hJ; replace Lr := Lr.below hJ; replace Lo := Lo.below hJ; replace OK := Lib.hid (OK.out.below hJ); replace FK := Lib.hid (zaa (w' := w5) FK.out (Nat.le_refl _) hzq); replace hb : Below w.heap.size w w5 := hb.trans (hJ.mono hb.size); clear hJ; obtain ⟨r0, r1, r2, r3, r4⟩ := Lr.a5; obtain ⟨rf0, rf1, rf2, rf3, rf4⟩ := Lr.b5; go_wp2_with fail; refine bodyPost_ret (v := .tuple #[.agg #[.int .i64 n, .slice B1 cs.length k1, .slice B2 pl.length k2, .slice B3 ds.length k3, .int .i64 m], .int .i64 wy]) (by simp [results, Tryz.results41, go_sem, *]) rfl (zm8 HD.out ⟨_, _, _, S, rfl, ?_, ?_, ?_⟩)
     ·exact OK.out.chg (T := [w.heap.size + 1 + 1]) (cS) (fun x hx hx' => DK.out x hx (by simp at hx' ⊢; omega))
     ·exact zaa FK.out (by omega) (by simp)
     ·exact Below.chg hb (S := [w.heap.size + 1 + 1]) (cS) hb.size (fun x hx => by simp at hx; omega)
   all_goals
    obtain ⟨c0, c1, c2, c3, c4⟩ := Lc.a5; go_wp2_with fail; refine (hX.out _ (h.below hb)).mono ?_; rintro e W5 ⟨z1, z2, z3, T, rfl, owr, fr, q⟩; clear c0 c1 c2 c3 c4; obtain ⟨⟨Z1, e1, rfl⟩, ⟨Z2, e2, rfl⟩, ⟨Z3, e3, rfl⟩⟩ := owr.rd.forms; have hzq : W4.heap.size <= W5.heap.size := by have := q.size; (try simp at this); omega
    replace Lc := Lc.below q; replace Lr := Lr.below q; replace Lo := Lo.below q; replace OK := Lib.hid (OK.out.below q); replace FK := Lib.hid (zaa (w' := W5) FK.out (Nat.le_refl _) hzq); replace hb : Below w.heap.size w W5 := hb.trans (q.mono hb.size); have hlow : W4.heap.size <= W4.heap.size := by first | exact Nat.le_refl _ | (simp; done) | (simp; omega) | omega
    have FZ := Lib.hid (zaa fr hlow (Nat.le_refl _)); have DZ : Hid (∀ x ∈ T, x ∉ [w.heap.size, w.heap.size + 1 + 1, go]) := (fun x hx => by have := (FZ.out.2 x hx).1; simp; omega)
    have OZ := Lib.hid owr; clear owr fr hlow; clear q; clear OK FK DK
    cases rb
    ·skip
     obtain ⟨o0, o1, o2, o3, o4⟩ := Lo.a5; obtain ⟨of0, of1, of2, of3, of4⟩ := Lo.b5; obtain ⟨r0, r1, r2, r3, r4⟩ := Lr.a5; obtain ⟨rf0, rf1, rf2, rf3, rf4⟩ := Lr.b5; go_wp2_with fail; refine bodyPost_ret (v := .tuple #[.agg #[.int .i64 rn, .slice Z1 rcs.length e1, .slice Z2 rpl.length e2, .slice Z3 rds.length e3, .int .i64 rm], .int .i64 0]) (by simp [results, Tryz.results41, go_sem, *]) rfl (zm8 HD.out ⟨_, _, _, T, rfl, ?_, ?_, ?_⟩)
     ·exact OZ.out.chg (T := [go, w.heap.size + 1 + 1]) (cS) (fun x hx hx' => DZ.out x hx (by simp at hx' ⊢; omega))
     ·exact zaa FZ.out (by omega) (by simp)
     ·exact Below.chg hb (S := [go, w.heap.size + 1 + 1]) (cS) hb.size (fun x hx => by simp at hx; omega)
    ·skip
     obtain ⟨o0, o1, o2, o3, o4⟩ := Lo.a5; obtain ⟨of0, of1, of2, of3, of4⟩ := Lo.b5; obtain ⟨r0, r1, r2, r3, r4⟩ := Lr.a5; obtain ⟨rf0, rf1, rf2, rf3, rf4⟩ := Lr.b5; go_wp2_with fail; refine bodyPost_ret (v := .tuple #[.agg #[.int .i64 rn, .slice Z1 rcs.length e1, .slice Z2 rpl.length e2, .slice Z3 rds.length e3, .int .i64 rm], .int .i64 1]) (by simp [results, Tryz.results41, go_sem, *]) rfl (zm8 HD.out ⟨_, _, _, T, rfl, ?_, ?_, ?_⟩)
     ·exact OZ.out.chg (T := [go, w.heap.size + 1 + 1]) (cS) (fun x hx hx' => DZ.out x hx (by simp at hx' ⊢; omega))
     ·exact zaa FZ.out (by omega) (by simp)
     ·exact Below.chg hb (S := [go, w.heap.size + 1 + 1]) (cS) hb.size (fun x hx => by simp at hx; omega)
  ·skip
   clear a0 a1 a2; have hzq : W1.heap.size <= W2.heap.size := by have := q.size; (try simp at this); omega
   replace Lc := Lc.below q; replace La := La.below q; replace Lr := Lr.below q; replace hb : Below w.heap.size w W2 := hb.trans (q.mono hb.size); clear q; obtain ⟨c0, c1, c2, c3, c4⟩ := Lc.a5; go_wp2_with fail; refine (zay n m _ _ _ cs pl ds _ (h.below hb) hsz).mono ?_; rintro e W3 ⟨y1, y2, y3, T, rfl, ow6, f6, q⟩; clear c0 c1 c2 c3 c4; obtain ⟨⟨D1, e1, rfl⟩, ⟨D2, e2, rfl⟩, ⟨D3, e3, rfl⟩⟩ := ow6.rd.forms; have hzq : W2.heap.size <= W3.heap.size := by have := q.size; (try simp at this); omega
   replace Lc := Lc.below q; replace La := La.below q; replace Lr := Lr.below q; replace hb : Below w.heap.size w W3 := hb.trans (q.mono hb.size); have hlow : W2.heap.size <= W2.heap.size := by first | exact Nat.le_refl _ | (simp; done) | (simp; omega) | omega
   have FZ := Lib.hid (zaa f6 hlow (Nat.le_refl _)); have DZ : Hid (∀ x ∈ T, x ∉ [w.heap.size, w.heap.size + 1, w.heap.size + 1 + 1]) := (fun x hx => by have := (FZ.out.2 x hx).1; simp; omega)
   have OZ := Lib.hid ow6; clear ow6 f6 hlow; clear q; obtain ⟨r0, r1, r2, r3, r4⟩ := Lr.a5; obtain ⟨rf0, rf1, rf2, rf3, rf4⟩ := Lr.b5; go_wp2_with fail; refine bodyPost_ret (v := .tuple #[.agg #[.int .i64 n, .slice D1 cs.length e1, .slice D2 pl.length e2, .slice D3 ds.length e3, .int .i64 m], .int .i64 (-1)]) (by simp [results, Tryz.results41, go_sem, *]) rfl (zm8 (do_f (fun hh => absurd (show actB ka aa ba = true from hh.2) (by rw [HA.out]; simp))) ⟨_, _, _, T, rfl, ?_, ?_, ?_⟩)
   ·exact OZ.out.chg (T := [w.heap.size + 1 + 1]) (cS) (fun x hx hx' => DZ.out x hx (by simp at hx'; subst hx'; simp))
   ·exact zaa FZ.out (by omega) (by simp)
   ·exact Below.chg hb (S := [w.heap.size + 1 + 1]) (cS) hb.size (fun x hx => by simp at hx; omega)
 ·skip
  have Lc : Loc W1 (w.heap.size) [.int .i64 n, .slice A1 cs.length n1, .slice A2 pl.length n2, .slice A3 ds.length n3, .int .i64 m] := by have := (((Loc.new w #[.int .i64 n, .slice A1 cs.length n1, .slice A2 pl.length n2, .slice A3 ds.length n3, .int .i64 m] 39).alloc _).alloc _).below q; simpa using this
  have La : Loc W1 (w.heap.size + 1) [.int .i64 ka, .int .i64 aa, .int .i64 ba] := by have := ((Loc.new (w.alloc (.cells #[.int .i64 n, .slice A1 cs.length n1, .slice A2 pl.length n2, .slice A3 ds.length n3, .int .i64 m] 39)) #[.int .i64 ka, .int .i64 aa, .int .i64 ba] 30).alloc _).below q; simpa using this
  have Lr : Loc W1 (w.heap.size + 1 + 1) [.int .i64 0, .slice none 0 0, .slice none 0 0, .slice none 0 0, .int .i64 0] := by have := (Loc.new ((w.alloc (.cells #[.int .i64 n, .slice A1 cs.length n1, .slice A2 pl.length n2, .slice A3 ds.length n3, .int .i64 m] 39)).alloc (.cells #[.int .i64 ka, .int .i64 aa, .int .i64 ba] 30)) #[.int .i64 0, .slice none 0 0, .slice none 0 0, .slice none 0 0, .int .i64 0] 39).below q; simpa using this
  have hb : Below w.heap.size w W1 := Below.trans (bM) (q.mono (by simp <;> omega))
  have hz0 : w.heap.size + 1 + 1 + 1 <= W1.heap.size := by have := q.size; simp at this; omega
  clear q; obtain ⟨c0, c1, c2, c3, c4⟩ := Lc.a5; go_wp2_with fail; refine (zay n m _ _ _ cs pl ds _ (h.below hb) hsz).mono ?_; rintro e W2 ⟨y1, y2, y3, T, rfl, ow6, f6, q⟩; clear c0 c1 c2 c3 c4; obtain ⟨⟨D1, e1, rfl⟩, ⟨D2, e2, rfl⟩, ⟨D3, e3, rfl⟩⟩ := ow6.rd.forms; have hzq : W1.heap.size <= W2.heap.size := by have := q.size; (try simp at this); omega
  replace Lc := Lc.below q; replace La := La.below q; replace Lr := Lr.below q; replace hb : Below w.heap.size w W2 := hb.trans (q.mono hb.size); have hlow : W1.heap.size <= W1.heap.size := by first | exact Nat.le_refl _ | (simp; done) | (simp; omega) | omega
  have FZ := Lib.hid (zaa f6 hlow (Nat.le_refl _)); have DZ : Hid (∀ x ∈ T, x ∉ [w.heap.size, w.heap.size + 1, w.heap.size + 1 + 1]) := (fun x hx => by have := (FZ.out.2 x hx).1; simp; omega)
  have OZ := Lib.hid ow6; clear ow6 f6 hlow; clear q; obtain ⟨r0, r1, r2, r3, r4⟩ := Lr.a5; obtain ⟨rf0, rf1, rf2, rf3, rf4⟩ := Lr.b5; go_wp2_with fail; refine bodyPost_ret (v := .tuple #[.agg #[.int .i64 n, .slice D1 cs.length e1, .slice D2 pl.length e2, .slice D3 ds.length e3, .int .i64 m], .int .i64 (-1)]) (by simp [results, Tryz.results41, go_sem, *]) rfl (zm8 (do_f (fun hh => absurd (show zau n m cs pl ds = true from hh.1) (by rw [hq.out]; simp))) ⟨_, _, _, T, rfl, ?_, ?_, ?_⟩)
  ·exact OZ.out.chg (T := [w.heap.size + 1 + 1]) (cS) (fun x hx hx' => DZ.out x hx (by simp at hx'; subst hx'; simp))
  ·exact zaa FZ.out (by omega) (by simp)
  ·exact Below.chg hb (S := [w.heap.size + 1 + 1]) (cS) hb.size (fun x hx => by simp at hx; omega)
theorem zqb (b : Bool) (w : World) : Calls Tryz.prog 58 #[.bool b] w fun e w' => e = .returned (.int .i64 (numB b)) /\ w = w' := by
 cases b <;>
 ·go_enter Tryz.func58, Tryz.ntmps58
  go_wp2
  go_ret
  exact ⟨rfl, rfl⟩
theorem zv1 {a : Act} (h : a.tmps.size = 84) (hd : a.defers = []) : ∃ x0 x1 x2 x3 x4 x5 x6 x7 x8 x9 x10 x11 x12 x13 x14 x15 x16 x17 x18 x19 x20 x21 x22 x23 x24 x25 x26 x27 x28 x29 x30 x31 x32 x33 x34 x35 x36 x37 x38 x39 x40 x41 x42 x43 x44 x45 x46 x47 x48 x49 x50 x51 x52 x53 x54 x55 x56 x57 x58 x59 x60 x61 x62 x63 x64 x65 x66 x67 x68 x69 x70 x71 x72 x73 x74 x75 x76 x77 x78 x79 x80 x81 x82 x83 : Value, a = ⟨#[x0, x1, x2, x3, x4, x5, x6, x7, x8, x9, x10, x11, x12, x13, x14, x15, x16, x17, x18, x19, x20, x21, x22, x23, x24, x25, x26, x27, x28, x29, x30, x31, x32, x33, x34, x35, x36, x37, x38, x39, x40, x41, x42, x43, x44, x45, x46, x47, x48, x49, x50, x51, x52, x53, x54, x55, x56, x57, x58, x59, x60, x61, x62, x63, x64, x65, x66, x67, x68, x69, x70, x71, x72, x73, x74, x75, x76, x77, x78, x79, x80, x81, x82, x83], []⟩ := by
 obtain ⟨⟨l⟩, d⟩ := a; subst hd
 match l, h with
 | x0 :: x1 :: x2 :: x3 :: x4 :: x5 :: x6 :: x7 :: x8 :: x9 :: x10 :: x11 :: x12 :: x13 :: x14 :: x15 :: x16 :: x17 :: x18 :: x19 :: x20 :: x21 :: x22 :: x23 :: x24 :: x25 :: x26 :: x27 :: x28 :: x29 :: x30 :: x31 :: x32 :: x33 :: x34 :: x35 :: x36 :: x37 :: x38 :: x39 :: x40 :: x41 :: x42 :: x43 :: x44 :: x45 :: x46 :: x47 :: x48 :: x49 :: x50 :: x51 :: x52 :: x53 :: x54 :: x55 :: x56 :: x57 :: x58 :: x59 :: x60 :: x61 :: x62 :: x63 :: x64 :: x65 :: x66 :: x67 :: x68 :: x69 :: x70 :: x71 :: x72 :: x73 :: x74 :: x75 :: x76 :: x77 :: x78 :: x79 :: x80 :: x81 :: x82 :: x83 :: [], _ => exact ⟨x0, x1, x2, x3, x4, x5, x6, x7, x8, x9, x10, x11, x12, x13, x14, x15, x16, x17, x18, x19, x20, x21, x22, x23, x24, x25, x26, x27, x28, x29, x30, x31, x32, x33, x34, x35, x36, x37, x38, x39, x40, x41, x42, x43, x44, x45, x46, x47, x48, x49, x50, x51, x52, x53, x54, x55, x56, x57, x58, x59, x60, x61, x62, x63, x64, x65, x66, x67, x68, x69, x70, x71, x72, x73, x74, x75, x76, x77, x78, x79, x80, x81, x82, x83, rfl⟩
def pdws (_w : World) (n m : Int) (A1 A2 B1 B2 B3 : Option Addr) (csn pln dsn n1 n2 k1 k2 k3 gc _gr _go : Nat) (wy : Int) (i : Nat) (v : Value) (_ : Nat -> Nat) (_ : World) : Prop :=
 match i with
 | 0 => v = .agg #[.int .i64 n, .slice B1 csn k1, .slice B2 pln k2, .slice B3 dsn k3, .int .i64 m]
 | 1 => v = .pointer (some ⟨gc, 0, none⟩)
 | 2 => v = .agg #[.int .i64 n, .slice A1 csn n1, .slice A2 pln n2]
 | 3 => v = .int .i64 wy
 | _ => True
theorem zwc {a : Act} (h : a.tmps.size = 84) (hd : a.defers = []) : ∃ x0 x1 x2 x3 x4 x5 x6 x7 x8 x9 x10 x11 x12 x13 x14 x15 x16 x17 x18 x19 x20 x21 x22 x23 x24 x25 x26 x27 x28 x29 x30 x31 x32 x33 x34 x35 x36 x37 x38 x39 x40 x41 x42 x43 x44 x45 x46 x47 x48 x49 x50 x51 x52 x53 x54 x55 x56 x57 x58 x59 x60 x61 x62 x63 x64 x65 x66 x67 x68 x69 x70 x71 x72 x73 x74 x75 x76 x77 x78 x79 x80 x81 x82 x83 : Value, a = ⟨#[x0, x1, x2, x3, x4, x5, x6, x7, x8, x9, x10, x11, x12, x13, x14, x15, x16, x17, x18, x19, x20, x21, x22, x23, x24, x25, x26, x27, x28, x29, x30, x31, x32, x33, x34, x35, x36, x37, x38, x39, x40, x41, x42, x43, x44, x45, x46, x47, x48, x49, x50, x51, x52, x53, x54, x55, x56, x57, x58, x59, x60, x61, x62, x63, x64, x65, x66, x67, x68, x69, x70, x71, x72, x73, x74, x75, x76, x77, x78, x79, x80, x81, x82, x83], []⟩ := by
 obtain ⟨⟨l⟩, d⟩ := a; subst hd
 match l, h with
 | x0 :: x1 :: x2 :: x3 :: x4 :: x5 :: x6 :: x7 :: x8 :: x9 :: x10 :: x11 :: x12 :: x13 :: x14 :: x15 :: x16 :: x17 :: x18 :: x19 :: x20 :: x21 :: x22 :: x23 :: x24 :: x25 :: x26 :: x27 :: x28 :: x29 :: x30 :: x31 :: x32 :: x33 :: x34 :: x35 :: x36 :: x37 :: x38 :: x39 :: x40 :: x41 :: x42 :: x43 :: x44 :: x45 :: x46 :: x47 :: x48 :: x49 :: x50 :: x51 :: x52 :: x53 :: x54 :: x55 :: x56 :: x57 :: x58 :: x59 :: x60 :: x61 :: x62 :: x63 :: x64 :: x65 :: x66 :: x67 :: x68 :: x69 :: x70 :: x71 :: x72 :: x73 :: x74 :: x75 :: x76 :: x77 :: x78 :: x79 :: x80 :: x81 :: x82 :: x83 :: [], _ => exact ⟨x0, x1, x2, x3, x4, x5, x6, x7, x8, x9, x10, x11, x12, x13, x14, x15, x16, x17, x18, x19, x20, x21, x22, x23, x24, x25, x26, x27, x28, x29, x30, x31, x32, x33, x34, x35, x36, x37, x38, x39, x40, x41, x42, x43, x44, x45, x46, x47, x48, x49, x50, x51, x52, x53, x54, x55, x56, x57, x58, x59, x60, x61, x62, x63, x64, x65, x66, x67, x68, x69, x70, x71, x72, x73, x74, x75, x76, x77, x78, x79, x80, x81, x82, x83, rfl⟩
def pdsb (_w : World) (rn rm : Int) (Z1 Z2 Z3 : Option Addr) (cl pl dl e1 e2 e3 : Nat) (_gc _gr _go : Nat) (rb : Bool) (i : Nat) (v : Value) (_ : Nat -> Nat) (_ : World) : Prop :=
 match i with
 | 0 => v = .agg #[.int .i64 rn, .slice Z1 cl e1, .slice Z2 pl e2, .slice Z3 dl e3, .int .i64 rm]
 | 1 => v = .bool rb
 | 2 => v = .int .i64 (numB rb)
 | _ => True
theorem zmn (n m ka aa ba : Int) (v1 v2 v3 : Value) (cs : List zad) (pl : List RPl) (ds : List Int) (w : World) (h : zak w v1 v2 v3 cs pl ds) (hsz : zas cs pl ds <= 1048576) :
  Calls Tryz.prog 28 #[.agg #[.int .i64 n, v1, v2, v3, .int .i64 m], .agg #[.int .i64 ka, .int .i64 aa, .int .i64 ba]] w (zyc w.heap.size (doF ⟨n, m, cs, pl, ds⟩ (ka, aa, ba)) w) := by
 obtain ⟨⟨A1, n1, rfl⟩, ⟨A2, n2, rfl⟩, ⟨A3, n3, rfl⟩⟩ := h.forms
 go_enter Tryz.func28, Tryz.ntmps28
 go_wp2_with fail; refine (zbr n m _ _ _ cs pl ds _ (h.below (bM)) hsz).mono ?_
 rintro e W1 ⟨x1, x2, x3, S, rfl, ow, f1, q⟩; obtain ⟨⟨B1, k1, rfl⟩, ⟨B2, k2, rfl⟩, ⟨B3, k3, rfl⟩⟩ := ow.rd.forms; have Lc : Loc W1 (w.heap.size) [.int .i64 n, .slice A1 cs.length n1, .slice A2 pl.length n2, .slice A3 ds.length n3, .int .i64 m] := by have := (((Loc.new w #[.int .i64 n, .slice A1 cs.length n1, .slice A2 pl.length n2, .slice A3 ds.length n3, .int .i64 m] 39).alloc _).alloc _).below q; simpa using this
 have La : Loc W1 (w.heap.size + 1) [.int .i64 ka, .int .i64 aa, .int .i64 ba] := by have := ((Loc.new (w.alloc (.cells #[.int .i64 n, .slice A1 cs.length n1, .slice A2 pl.length n2, .slice A3 ds.length n3, .int .i64 m] 39)) #[.int .i64 ka, .int .i64 aa, .int .i64 ba] 30).alloc _).below q; simpa using this
 have Lr : Loc W1 (w.heap.size + 1 + 1) [.int .i64 0, .slice none 0 0, .slice none 0 0, .slice none 0 0, .int .i64 0] := by have := (Loc.new ((w.alloc (.cells #[.int .i64 n, .slice A1 cs.length n1, .slice A2 pl.length n2, .slice A3 ds.length n3, .int .i64 m] 39)).alloc (.cells #[.int .i64 ka, .int .i64 aa, .int .i64 ba] 30)) #[.int .i64 0, .slice none 0 0, .slice none 0 0, .slice none 0 0, .int .i64 0] 39).below q; simpa using this
 have hb : Below w.heap.size w W1 := Below.trans (bM) (q.mono (by simp <;> omega))
 have hz0 : w.heap.size + 1 + 1 + 1 <= W1.heap.size := by have := q.size; simp at this; omega
 have hlow : w.heap.size + 1 + 1 + 1 <= ((((w.alloc (.cells #[.int .i64 n, .slice A1 cs.length n1, .slice A2 pl.length n2, .slice A3 ds.length n3, .int .i64 m] 39)).alloc (.cells #[.int .i64 ka, .int .i64 aa, .int .i64 ba] 30)).alloc (.cells #[.int .i64 0, .slice none 0 0, .slice none 0 0, .slice none 0 0, .int .i64 0] 39))).heap.size := by first | exact Nat.le_refl _ | (simp; done) | (simp; omega) | omega
 have FK := Lib.hid (zaa f1 hlow (Nat.le_refl _)); have DK : Hid (∀ x ∈ S, x ∉ [w.heap.size, w.heap.size + 1, w.heap.size + 1 + 1]) := (fun x hx => by have := (FK.out.2 x hx).1; simp; omega)
 have OK := Lib.hid ow; clear ow f1 hlow; clear q
 go_upto_region 2 with (fail)
 replace Lc : Loc (W1.alloc (.cells #[.int .i64 n, .slice B1 cs.length k1, .slice B2 pl.length k2, .slice B3 ds.length k3, .int .i64 m] 39)) (w.heap.size) [.int .i64 n, .slice A1 cs.length n1, .slice A2 pl.length n2, .slice A3 ds.length n3, .int .i64 m] := Lc.alloc _; replace La : Loc (W1.alloc (.cells #[.int .i64 n, .slice B1 cs.length k1, .slice B2 pl.length k2, .slice B3 ds.length k3, .int .i64 m] 39)) (w.heap.size + 1) [.int .i64 ka, .int .i64 aa, .int .i64 ba] := La.alloc _; replace Lr : Loc (W1.alloc (.cells #[.int .i64 n, .slice B1 cs.length k1, .slice B2 pl.length k2, .slice B3 ds.length k3, .int .i64 m] 39)) (w.heap.size + 1 + 1) [.int .i64 0, .slice none 0 0, .slice none 0 0, .slice none 0 0, .int .i64 0] := Lr.alloc _; obtain ⟨go, hgo⟩ : ∃ g, W1.heap.size = g := ⟨_, rfl⟩; have Lo : Loc (W1.alloc (.cells #[.int .i64 n, .slice B1 cs.length k1, .slice B2 pl.length k2, .slice B3 ds.length k3, .int .i64 m] 39)) W1.heap.size [.int .i64 n, .slice B1 cs.length k1, .slice B2 pl.length k2, .slice B3 ds.length k3, .int .i64 m] := Loc.new W1 #[.int .i64 n, .slice B1 cs.length k1, .slice B2 pl.length k2, .slice B3 ds.length k3, .int .i64 m] 39
 rw [hgo] at Lo; replace OK := Lib.hid (OK.out.below (w' := (W1.alloc (.cells #[.int .i64 n, .slice B1 cs.length k1, .slice B2 pl.length k2, .slice B3 ds.length k3, .int .i64 m] 39))) ((Below.refl _ _).alloc (Nat.le_refl _) _)); replace DK : Hid (∀ x ∈ S, x ∉ [w.heap.size, w.heap.size + 1, w.heap.size + 1 + 1, go]) := (fun x hx => by have := DK.out x hx; have := (FK.out.2 x hx).2; simp at *; omega)
 replace FK := Lib.hid (zaa (w' := (W1.alloc (.cells #[.int .i64 n, .slice B1 cs.length k1, .slice B2 pl.length k2, .slice B3 ds.length k3, .int .i64 m] 39))) FK.out (Nat.le_refl _) (by simp))
 replace hb : Below w.heap.size w (W1.alloc (.cells #[.int .i64 n, .slice B1 cs.length k1, .slice B2 pl.length k2, .slice B3 ds.length k3, .int .i64 m] 39)) := hb.alloc hb.size _; have hlto : go < (W1.alloc (.cells #[.int .i64 n, .slice B1 cs.length k1, .slice B2 pl.length k2, .slice B3 ds.length k3, .int .i64 m] 39)).heap.size := by simp; omega
 have hne_c_o : w.heap.size < go := by omega
 have hne_a_o : w.heap.size + 1 < go := by omega
 have hne_r_o : w.heap.size + 1 + 1 < go := by omega
 generalize W1.alloc (.cells #[.int .i64 n, .slice B1 cs.length k1, .slice B2 pl.length k2, .slice B3 ds.length k3, .int .i64 m] 39) = W2 at *
 rw [hgo]; clear hgo; obtain ⟨c0, c1, c2, c3, c4⟩ := Lc.a5; go_wp2_with fail; refine twoB (za3 n m _ _ _ cs pl ds _ (h.below hb)) (fun W3 hq q => ?_) (fun W3 hq q => ?_)
 ·skip
  clear c0 c1 c2 c3 c4; have hzq : W2.heap.size <= W3.heap.size := by have := q.size; (try simp at this); omega
  replace Lc := Lc.below q; replace La := La.below q; replace Lr := Lr.below q; replace Lo := Lo.below q; replace OK := Lib.hid (OK.out.below q); replace FK := Lib.hid (zaa (w' := W3) FK.out (Nat.le_refl _) hzq); replace hb : Below w.heap.size w W3 := hb.trans (q.mono hb.size); clear q; have HQ := hq; obtain ⟨a0, a1, a2⟩ := La.a3; go_wp2_with fail; refine twoB (zh7 ka aa ba _) (fun W4 HA q => ?_) (fun W4 HA q => ?_)
  ·skip
   clear a0 a1 a2; have hzq : W3.heap.size <= W4.heap.size := by have := q.size; (try simp at this); omega
   replace Lc := Lc.below q; replace La := La.below q; replace Lr := Lr.below q; replace Lo := Lo.below q; replace OK := Lib.hid (OK.out.below q); replace FK := Lib.hid (zaa (w' := W4) FK.out (Nat.le_refl _) hzq); replace hb : Below w.heap.size w W4 := hb.trans (q.mono hb.size); clear q
   rcases zn7 HA.out with rfl | rfl | rfl | rfl | rfl | rfl | rfl
   obtain ⟨⟨⟨rn, rm, rcs, rpl, rds⟩, rb⟩, hres⟩ : ∃ res, zk5 ⟨n, m, cs, pl, ds⟩ aa = res := ⟨_, rfl⟩
   have hX : Hid (∀ W, zak W (.slice A1 cs.length n1) (.slice A2 pl.length n2) (.slice A3 ds.length n3) cs pl ds -> Calls Tryz.prog 53 #[.agg #[.int .i64 n, .slice A1 cs.length n1, .slice A2 pl.length n2, .slice A3 ds.length n3, .int .i64 m], .int .i64 aa] W (RetT W.heap.size rn rm rb rcs rpl rds W)) := fun W hr => by
    have := zhy n m aa _ _ _ cs pl ds W hr hsz; rw [hres] at this; exact this
   have HD : Hid (doF ⟨n, m, cs, pl, ds⟩ (1, aa, ba) = (⟨rn, rm, rcs, rpl, rds⟩, numB rb)) := by show _ = _; rw [do_t (t := ⟨n, m, cs, pl, ds⟩) HQ.out HA.out, zw7, hres]
   clear hres; obtain ⟨a0, a1, a2⟩ := La.a3; clear La
   rotate_left
   obtain ⟨⟨⟨rn, rm, rcs, rpl, rds⟩, rb⟩, hres⟩ : ∃ res, zgc ⟨n, m, cs, pl, ds⟩ aa ba = res := ⟨_, rfl⟩
   have hX : Hid (∀ W, zak W (.slice A1 cs.length n1) (.slice A2 pl.length n2) (.slice A3 ds.length n3) cs pl ds -> Calls Tryz.prog 54 #[.agg #[.int .i64 n, .slice A1 cs.length n1, .slice A2 pl.length n2, .slice A3 ds.length n3, .int .i64 m], .int .i64 aa, .int .i64 ba] W (RetT W.heap.size rn rm rb rcs rpl rds W)) := fun W hr => by
    have := zhj n m aa ba _ _ _ cs pl ds W hr hsz; rw [hres] at this; exact this
   have HD : Hid (doF ⟨n, m, cs, pl, ds⟩ (2, aa, ba) = (⟨rn, rm, rcs, rpl, rds⟩, numB rb)) := by show _ = _; rw [do_t (t := ⟨n, m, cs, pl, ds⟩) HQ.out HA.out, zxk, hres]
   clear hres; obtain ⟨a0, a1, a2⟩ := La.a3; clear La
   rotate_left
   obtain ⟨⟨⟨rn, rm, rcs, rpl, rds⟩, rb⟩, hres⟩ : ∃ res, zfz ⟨n, m, cs, pl, ds⟩ aa true = res := ⟨_, rfl⟩
   have hX : Hid (∀ W, zak W (.slice A1 cs.length n1) (.slice A2 pl.length n2) (.slice A3 ds.length n3) cs pl ds -> Calls Tryz.prog 55 #[.agg #[.int .i64 n, .slice A1 cs.length n1, .slice A2 pl.length n2, .slice A3 ds.length n3, .int .i64 m], .int .i64 aa, .bool true] W (RetT W.heap.size rn rm rb rcs rpl rds W)) := fun W hr => by
    have := ze1 n m aa true _ _ _ cs pl ds W hr hsz; rw [hres] at this; exact this
   have HD : Hid (doF ⟨n, m, cs, pl, ds⟩ (3, aa, ba) = (⟨rn, rm, rcs, rpl, rds⟩, numB rb)) := by show _ = _; rw [do_t (t := ⟨n, m, cs, pl, ds⟩) HQ.out HA.out, zwy, hres]
   clear hres; obtain ⟨a0, a1, a2⟩ := La.a3; clear La
   rotate_left
   obtain ⟨⟨⟨rn, rm, rcs, rpl, rds⟩, rb⟩, hres⟩ : ∃ res, zfz ⟨n, m, cs, pl, ds⟩ aa false = res := ⟨_, rfl⟩
   have hX : Hid (∀ W, zak W (.slice A1 cs.length n1) (.slice A2 pl.length n2) (.slice A3 ds.length n3) cs pl ds -> Calls Tryz.prog 55 #[.agg #[.int .i64 n, .slice A1 cs.length n1, .slice A2 pl.length n2, .slice A3 ds.length n3, .int .i64 m], .int .i64 aa, .bool false] W (RetT W.heap.size rn rm rb rcs rpl rds W)) := fun W hr => by
    have := ze1 n m aa false _ _ _ cs pl ds W hr hsz; rw [hres] at this; exact this
   have HD : Hid (doF ⟨n, m, cs, pl, ds⟩ (4, aa, ba) = (⟨rn, rm, rcs, rpl, rds⟩, numB rb)) := by show _ = _; rw [do_t (t := ⟨n, m, cs, pl, ds⟩) HQ.out HA.out, zw0, hres]
   clear hres; obtain ⟨a0, a1, a2⟩ := La.a3; clear La
   rotate_left
   obtain ⟨⟨⟨rn, rm, rcs, rpl, rds⟩, rb⟩, hres⟩ : ∃ res, putT ⟨n, m, cs, pl, ds⟩ = res := ⟨_, rfl⟩
   have hX : Hid (∀ W, zak W (.slice A1 cs.length n1) (.slice A2 pl.length n2) (.slice A3 ds.length n3) cs pl ds -> Calls Tryz.prog 56 #[.agg #[.int .i64 n, .slice A1 cs.length n1, .slice A2 pl.length n2, .slice A3 ds.length n3, .int .i64 m]] W (RetT W.heap.size rn rm rb rcs rpl rds W)) := fun W hr => by
    have := zh1 n m  _ _ _ cs pl ds W hr hsz; rw [hres] at this; exact this
   have HD : Hid (doF ⟨n, m, cs, pl, ds⟩ (5, aa, ba) = (⟨rn, rm, rcs, rpl, rds⟩, numB rb)) := by show _ = _; rw [do_t (t := ⟨n, m, cs, pl, ds⟩) HQ.out HA.out, zw6, hres]
   clear hres; obtain ⟨a0, a1, a2⟩ := La.a3; clear La
   rotate_left
   obtain ⟨⟨⟨rn, rm, rcs, rpl, rds⟩, rb⟩, hres⟩ : ∃ res, zk4 ⟨n, m, cs, pl, ds⟩ aa = res := ⟨_, rfl⟩
   have hX : Hid (∀ W, zak W (.slice A1 cs.length n1) (.slice A2 pl.length n2) (.slice A3 ds.length n3) cs pl ds -> Calls Tryz.prog 57 #[.agg #[.int .i64 n, .slice A1 cs.length n1, .slice A2 pl.length n2, .slice A3 ds.length n3, .int .i64 m], .int .i64 aa] W (RetT W.heap.size rn rm rb rcs rpl rds W)) := fun W hr => by
    have := zjw n m aa _ _ _ cs pl ds W hr hsz; rw [hres] at this; exact this
   have HD : Hid (doF ⟨n, m, cs, pl, ds⟩ (6, aa, ba) = (⟨rn, rm, rcs, rpl, rds⟩, numB rb)) := by show _ = _; rw [do_t (t := ⟨n, m, cs, pl, ds⟩) HQ.out HA.out, zxr, hres]
   clear hres; obtain ⟨a0, a1, a2⟩ := La.a3; clear La
   rotate_left
   ·skip
    have HD : Hid (doF ⟨n, m, cs, pl, ds⟩ (7, aa, ba) = (⟨n, m, cs, pl, ds⟩, whyF n cs pl)) := by show _ = _; rw [do_t (t := ⟨n, m, cs, pl, ds⟩) HQ.out HA.out, zxc]
    have hWN : Hid (∀ w', zaq w' (.slice A1 cs.length n1) (.slice A2 pl.length n2) cs pl -> Calls Tryz.prog 33 #[.agg #[.int .i64 n, .slice A1 cs.length n1, .slice A2 pl.length n2]] w' fun e w'' => e = .returned (.int .i64 (whyF n cs pl)) /\ Below w'.heap.size w' w'') := fun w' hr => ze7 n _ _ cs pl w' hr
    generalize whyF n cs pl = wy at *
    obtain ⟨a0, a1, a2⟩ := La.a3
    go_upto_region 19 with (fail)
    clear a0 a1 a2; refine zba (n := 84) 4 (by kernel_rfl) rfl (by kernel_rfl) (fun w' => Below W4.heap.size W4 w') (fun _ => 0) (pdws w n m A1 A2 B1 B2 B3 cs.length pl.length ds.length n1 n2 k1 k2 k3 (w.heap.size) (w.heap.size + 1 + 1) (go) wy) (Below.refl _ _).drew ?_ ?_ ?_
    ·intro i v gh gh' w1 w2 hp hJ hb' hg
     match i, hp with
     | 0, hp => exact hp
     | 1, hp => exact hp
     | 2, hp => exact hp
     | 3, hp => exact hp
     | _ + 4, _ => trivial
    ·refine ⟨?_, ?_, ?_, ?_, trivial⟩
     ·intro a gh w5 hag hJ hd
      have ag6 : a.tmps.getD 6 undef = .pointer (some ⟨go, 0, none⟩) := hag.k 6
      clear hag; have o0 := ((Lo.below hJ) 0 _ rfl).1; have o1 := ((Lo.below hJ) 1 _ rfl).1; have o2 := ((Lo.below hJ) 2 _ rfl).1; have o3 := ((Lo.below hJ) 3 _ rfl).1; have o4 := ((Lo.below hJ) 4 _ rfl).1; go_wp2_with fail; exact mp0 hJ rfl
     ·intro a gh w5 hag hJ hd
      have ag2 : a.tmps.getD 2 undef = .pointer (some ⟨w.heap.size, 0, none⟩) := hag.k 2
      clear hag; go_wp2_with fail; exact mp0 hJ rfl
     ·intro a gh w5 hag hJ hd
      clear hag; have e0 : a.tmps.getD 78 undef = .pointer (some ⟨w.heap.size, 0, none⟩) := hd 1 (by kernel_rfl) _ rfl
      have c0 := ((Lc.below hJ) 0 _ rfl).1; have c1 := ((Lc.below hJ) 1 _ rfl).1; have c2 := ((Lc.below hJ) 2 _ rfl).1; go_wp2_with fail; exact mp0 hJ rfl
     ·intro a gh w5 hag hJ hd
      clear hag; have e0 : a.tmps.getD 79 undef = .agg #[.int .i64 n, .slice A1 cs.length n1, .slice A2 pl.length n2] := hd 2 (by kernel_rfl) _ rfl
      go_wp2_with fail; refine (hWN.out w5 ((h.below (hb.trans (hJ.mono hb.size))).1)).mono ?_; rintro e w6 ⟨rfl, hb6⟩; go_wp2_with fail; exact ⟨rfl, _, rfl, rfl, zab hJ hb6, hb6⟩
    ·intro a gh w5 hag hJ hd
     obtain ⟨x0, x1, x2, x3, x4, x5, x6, x7, x8, x9, x10, x11, x12, x13, x14, x15, x16, x17, x18, x19, x20, x21, x22, x23, x24, x25, x26, x27, x28, x29, x30, x31, x32, x33, x34, x35, x36, x37, x38, x39, x40, x41, x42, x43, x44, x45, x46, x47, x48, x49, x50, x51, x52, x53, x54, x55, x56, x57, x58, x59, x60, x61, x62, x63, x64, x65, x66, x67, x68, x69, x70, x71, x72, x73, x74, x75, x76, x77, x78, x79, x80, x81, x82, x83, rfl⟩ := zv1 hag.size hag.defers; have ag2 : x2 = .pointer (some ⟨w.heap.size, 0, none⟩) := hag.k 2
     have ag4 : x4 = .pointer (some ⟨w.heap.size + 1 + 1, 0, none⟩) := hag.k 4
     have ag6 : x6 = .pointer (some ⟨go, 0, none⟩) := hag.k 6
     clear hag; subst ag2 ag4 ag6; have e0 : x77 = .agg #[.int .i64 n, .slice B1 cs.length k1, .slice B2 pl.length k2, .slice B3 ds.length k3, .int .i64 m] := hd 0 (by kernel_rfl) _ rfl
     have e3 : x80 = .int .i64 wy := hd 3 (by kernel_rfl) _ rfl
     subst e0 e3; clear hd; change wpList _ _ _ [_, _] _ _; have hzq : W4.heap.size <= w5.heap.size := by have := hJ.size; (try simp at this); omega
     replace Lc := Lc.below hJ; replace La := La.below hJ; replace Lr := Lr.below hJ; replace Lo := Lo.below hJ; replace OK := Lib.hid (OK.out.below hJ); replace FK := Lib.hid (zaa (w' := w5) FK.out (Nat.le_refl _) hzq); replace hb : Below w.heap.size w w5 := hb.trans (hJ.mono hb.size); clear hJ; obtain ⟨r0, r1, r2, r3, r4⟩ := Lr.a5; obtain ⟨rf0, rf1, rf2, rf3, rf4⟩ := Lr.b5; go_wp2_with fail; refine bodyPost_ret (v := .tuple #[.agg #[.int .i64 n, .slice B1 cs.length k1, .slice B2 pl.length k2, .slice B3 ds.length k3, .int .i64 m], .int .i64 wy]) (by simp [results, Tryz.results28, go_sem, *]) rfl (zm8 HD.out ⟨_, _, _, S, rfl, ?_, ?_, ?_⟩)
     ·exact OK.out.chg (T := [w.heap.size + 1 + 1]) (cS) (fun x hx hx' => DK.out x hx (by simp at hx' ⊢; omega))
     ·exact zaa FK.out (by omega) (by simp)
     ·exact Below.chg hb (S := [w.heap.size + 1 + 1]) (cS) hb.size (fun x hx => by simp at hx; omega)
   all_goals
    obtain ⟨c0, c1, c2, c3, c4⟩ := Lc.a5; go_wp2_with fail; refine (hX.out _ (h.below hb)).mono ?_; rintro e W5 ⟨z1, z2, z3, T, rfl, owr, fr, q⟩; clear c0 c1 c2 c3 c4; obtain ⟨⟨Z1, e1, rfl⟩, ⟨Z2, e2, rfl⟩, ⟨Z3, e3, rfl⟩⟩ := owr.rd.forms; have hzq : W4.heap.size <= W5.heap.size := by have := q.size; (try simp at this); omega
    replace Lc := Lc.below q; replace Lr := Lr.below q; replace Lo := Lo.below q; replace OK := Lib.hid (OK.out.below q); replace FK := Lib.hid (zaa (w' := W5) FK.out (Nat.le_refl _) hzq); replace hb : Below w.heap.size w W5 := hb.trans (q.mono hb.size); have hlow : W4.heap.size <= W4.heap.size := by first | exact Nat.le_refl _ | (simp; done) | (simp; omega) | omega
    have FZ := Lib.hid (zaa fr hlow (Nat.le_refl _)); have DZ : Hid (∀ x ∈ T, x ∉ [w.heap.size, w.heap.size + 1 + 1, go]) := (fun x hx => by have := (FZ.out.2 x hx).1; simp; omega)
    have OZ := Lib.hid owr; clear owr fr hlow; clear q; clear OK FK DK; obtain ⟨o0, o1, o2, o3, o4⟩ := Lo.a5; obtain ⟨of0, of1, of2, of3, of4⟩ := Lo.b5
    go_upto_region 20 with (fail)
    clear o0 of0 o1 of1 o2 of2 o3 of3 o4 of4; replace Lc := Lc.far (g := go) (i := 0) (u := .int .i64 rn) (by omega)
    replace Lr := Lr.far (g := go) (i := 0) (u := .int .i64 rn) (by omega)
    replace Lo : Loc (W5.setCell ⟨go, 0, none⟩ (.int .i64 rn)) (go) [.int .i64 rn, .slice B1 cs.length k1, .slice B2 pl.length k2, .slice B3 ds.length k3, .int .i64 m] := Lo.set (i := 0) (v := .int .i64 n) rfl; have hch : Chg [go] W5 (W5.setCell ⟨go, 0, none⟩ (.int .i64 rn)) := zav (Chg.refl _ _) (by simp)
    replace OZ := Lib.hid (OZ.out.chg hch (fun x hx hx' => DZ.out x hx (by simp at hx'; subst hx'; simp)))
    replace FZ := Lib.hid (zaa (w' := (W5.setCell ⟨go, 0, none⟩ (.int .i64 rn))) FZ.out (Nat.le_refl _) hch.size); replace hb : Below w.heap.size w (W5.setCell ⟨go, 0, none⟩ (.int .i64 rn)) := Below.chg hb hch hb.size (by simp; omega)
    have hzc := hch.size; clear hch; generalize W5.setCell ⟨go, 0, none⟩ (.int .i64 rn) = W6 at *
    replace Lc := Lc.far (g := go) (i := 1) (u := .slice Z1 rcs.length e1) (by omega)
    replace Lr := Lr.far (g := go) (i := 1) (u := .slice Z1 rcs.length e1) (by omega)
    replace Lo : Loc (W6.setCell ⟨go, 1, none⟩ (.slice Z1 rcs.length e1)) (go) [.int .i64 rn, .slice Z1 rcs.length e1, .slice B2 pl.length k2, .slice B3 ds.length k3, .int .i64 m] := Lo.set (i := 1) (v := .slice B1 cs.length k1) rfl; have hch : Chg [go] W6 (W6.setCell ⟨go, 1, none⟩ (.slice Z1 rcs.length e1)) := zav (Chg.refl _ _) (by simp)
    replace OZ := Lib.hid (OZ.out.chg hch (fun x hx hx' => DZ.out x hx (by simp at hx'; subst hx'; simp)))
    replace FZ := Lib.hid (zaa (w' := (W6.setCell ⟨go, 1, none⟩ (.slice Z1 rcs.length e1))) FZ.out (Nat.le_refl _) hch.size); replace hb : Below w.heap.size w (W6.setCell ⟨go, 1, none⟩ (.slice Z1 rcs.length e1)) := Below.chg hb hch hb.size (by simp; omega)
    have hzc := hch.size; clear hch; generalize W6.setCell ⟨go, 1, none⟩ (.slice Z1 rcs.length e1) = W7 at *
    replace Lc := Lc.far (g := go) (i := 2) (u := .slice Z2 rpl.length e2) (by omega)
    replace Lr := Lr.far (g := go) (i := 2) (u := .slice Z2 rpl.length e2) (by omega)
    replace Lo : Loc (W7.setCell ⟨go, 2, none⟩ (.slice Z2 rpl.length e2)) (go) [.int .i64 rn, .slice Z1 rcs.length e1, .slice Z2 rpl.length e2, .slice B3 ds.length k3, .int .i64 m] := Lo.set (i := 2) (v := .slice B2 pl.length k2) rfl; have hch : Chg [go] W7 (W7.setCell ⟨go, 2, none⟩ (.slice Z2 rpl.length e2)) := zav (Chg.refl _ _) (by simp)
    replace OZ := Lib.hid (OZ.out.chg hch (fun x hx hx' => DZ.out x hx (by simp at hx'; subst hx'; simp)))
    replace FZ := Lib.hid (zaa (w' := (W7.setCell ⟨go, 2, none⟩ (.slice Z2 rpl.length e2))) FZ.out (Nat.le_refl _) hch.size); replace hb : Below w.heap.size w (W7.setCell ⟨go, 2, none⟩ (.slice Z2 rpl.length e2)) := Below.chg hb hch hb.size (by simp; omega)
    have hzc := hch.size; clear hch; generalize W7.setCell ⟨go, 2, none⟩ (.slice Z2 rpl.length e2) = W8 at *
    replace Lc := Lc.far (g := go) (i := 3) (u := .slice Z3 rds.length e3) (by omega)
    replace Lr := Lr.far (g := go) (i := 3) (u := .slice Z3 rds.length e3) (by omega)
    replace Lo : Loc (W8.setCell ⟨go, 3, none⟩ (.slice Z3 rds.length e3)) (go) [.int .i64 rn, .slice Z1 rcs.length e1, .slice Z2 rpl.length e2, .slice Z3 rds.length e3, .int .i64 m] := Lo.set (i := 3) (v := .slice B3 ds.length k3) rfl; have hch : Chg [go] W8 (W8.setCell ⟨go, 3, none⟩ (.slice Z3 rds.length e3)) := zav (Chg.refl _ _) (by simp)
    replace OZ := Lib.hid (OZ.out.chg hch (fun x hx hx' => DZ.out x hx (by simp at hx'; subst hx'; simp)))
    replace FZ := Lib.hid (zaa (w' := (W8.setCell ⟨go, 3, none⟩ (.slice Z3 rds.length e3))) FZ.out (Nat.le_refl _) hch.size); replace hb : Below w.heap.size w (W8.setCell ⟨go, 3, none⟩ (.slice Z3 rds.length e3)) := Below.chg hb hch hb.size (by simp; omega)
    have hzc := hch.size; clear hch; generalize W8.setCell ⟨go, 3, none⟩ (.slice Z3 rds.length e3) = W9 at *
    replace Lc := Lc.far (g := go) (i := 4) (u := .int .i64 rm) (by omega)
    replace Lr := Lr.far (g := go) (i := 4) (u := .int .i64 rm) (by omega)
    replace Lo : Loc (W9.setCell ⟨go, 4, none⟩ (.int .i64 rm)) (go) [.int .i64 rn, .slice Z1 rcs.length e1, .slice Z2 rpl.length e2, .slice Z3 rds.length e3, .int .i64 rm] := Lo.set (i := 4) (v := .int .i64 m) rfl; have hch : Chg [go] W9 (W9.setCell ⟨go, 4, none⟩ (.int .i64 rm)) := zav (Chg.refl _ _) (by simp)
    replace OZ := Lib.hid (OZ.out.chg hch (fun x hx hx' => DZ.out x hx (by simp at hx'; subst hx'; simp)))
    replace FZ := Lib.hid (zaa (w' := (W9.setCell ⟨go, 4, none⟩ (.int .i64 rm))) FZ.out (Nat.le_refl _) hch.size); replace hb : Below w.heap.size w (W9.setCell ⟨go, 4, none⟩ (.int .i64 rm)) := Below.chg hb hch hb.size (by simp; omega)
    have hzc := hch.size; clear hch; generalize W9.setCell ⟨go, 4, none⟩ (.int .i64 rm) = W10 at *
    refine zba (n := 84) 3 (by kernel_rfl) rfl (by kernel_rfl) (fun w' => Below W10.heap.size W10 w') (fun _ => 0) (pdsb w rn rm Z1 Z2 Z3 rcs.length rpl.length rds.length e1 e2 e3 (w.heap.size) (w.heap.size + 1 + 1) (go) rb) (Below.refl _ _).drew ?_ ?_ ?_
    ·intro i v gh gh' w1 w2 hp hJ hb' hg
     match i, hp with
     | 0, hp => exact hp
     | 1, hp => exact hp
     | 2, hp => exact hp
     | _ + 3, _ => trivial
    ·refine ⟨?_, ?_, ?_, trivial⟩
     ·intro a gh w5 hag hJ hd
      have ag6 : a.tmps.getD 6 undef = .pointer (some ⟨go, 0, none⟩) := hag.k 6
      clear hag; have o0 := ((Lo.below hJ) 0 _ rfl).1; have o1 := ((Lo.below hJ) 1 _ rfl).1; have o2 := ((Lo.below hJ) 2 _ rfl).1; have o3 := ((Lo.below hJ) 3 _ rfl).1; have o4 := ((Lo.below hJ) 4 _ rfl).1; go_wp2_with fail; exact mp0 hJ rfl
     ·intro a gh w5 hag hJ hd
      have ag7 : a.tmps.getD 7 undef = .bool rb := hag.k 7
      clear hag; go_wp2_with fail; exact mp0 hJ rfl
     ·intro a gh w5 hag hJ hd
      clear hag; have e0 : a.tmps.getD 82 undef = .bool rb := hd 1 (by kernel_rfl) _ rfl
      go_wp2_with fail; refine (zqb rb w5).mono ?_; rintro e w6 ⟨rfl, rfl⟩; go_wp2_with fail; exact mp0 hJ rfl
    ·intro a gh w5 hag hJ hd
     obtain ⟨x0, x1, x2, x3, x4, x5, x6, x7, x8, x9, x10, x11, x12, x13, x14, x15, x16, x17, x18, x19, x20, x21, x22, x23, x24, x25, x26, x27, x28, x29, x30, x31, x32, x33, x34, x35, x36, x37, x38, x39, x40, x41, x42, x43, x44, x45, x46, x47, x48, x49, x50, x51, x52, x53, x54, x55, x56, x57, x58, x59, x60, x61, x62, x63, x64, x65, x66, x67, x68, x69, x70, x71, x72, x73, x74, x75, x76, x77, x78, x79, x80, x81, x82, x83, rfl⟩ := zwc hag.size hag.defers; have ag4 : x4 = .pointer (some ⟨w.heap.size + 1 + 1, 0, none⟩) := hag.k 4
     have ag6 : x6 = .pointer (some ⟨go, 0, none⟩) := hag.k 6
     have ag7 : x7 = .bool rb := hag.k 7
     clear hag; subst ag4 ag6 ag7; have e0 : x81 = .agg #[.int .i64 rn, .slice Z1 rcs.length e1, .slice Z2 rpl.length e2, .slice Z3 rds.length e3, .int .i64 rm] := hd 0 (by kernel_rfl) _ rfl
     have e3 : x83 = .int .i64 (numB rb) := hd 2 (by kernel_rfl) _ rfl
     subst e0 e3; clear hd; change wpList _ _ _ [_, _] _ _; have hzq : W10.heap.size <= w5.heap.size := by have := hJ.size; (try simp at this); omega
     replace Lc := Lc.below hJ; replace Lr := Lr.below hJ; replace Lo := Lo.below hJ; replace OZ := Lib.hid (OZ.out.below hJ); replace FZ := Lib.hid (zaa (w' := w5) FZ.out (Nat.le_refl _) hzq); replace hb : Below w.heap.size w w5 := hb.trans (hJ.mono hb.size); clear hJ; obtain ⟨r0, r1, r2, r3, r4⟩ := Lr.a5; obtain ⟨rf0, rf1, rf2, rf3, rf4⟩ := Lr.b5; go_wp2_with fail; refine bodyPost_ret (v := .tuple #[.agg #[.int .i64 rn, .slice Z1 rcs.length e1, .slice Z2 rpl.length e2, .slice Z3 rds.length e3, .int .i64 rm], .int .i64 (numB rb)]) (by simp [results, Tryz.results28, go_sem, *]) rfl (zm8 HD.out ⟨_, _, _, T, rfl, ?_, ?_, ?_⟩)
     ·exact OZ.out.chg (T := [w.heap.size + 1 + 1]) (cS) (fun x hx hx' => DZ.out x hx (by simp at hx' ⊢; omega))
     ·exact zaa FZ.out (by omega) (by simp)
     ·exact Below.chg hb (S := [w.heap.size + 1 + 1]) (cS) hb.size (fun x hx => by simp at hx; omega)
  ·skip
   clear a0 a1 a2; have hzq : W3.heap.size <= W4.heap.size := by have := q.size; (try simp at this); omega
   replace Lc := Lc.below q; replace La := La.below q; replace Lr := Lr.below q; replace Lo := Lo.below q; replace OK := Lib.hid (OK.out.below q); replace FK := Lib.hid (zaa (w' := W4) FK.out (Nat.le_refl _) hzq); replace hb : Below w.heap.size w W4 := hb.trans (q.mono hb.size); clear q; obtain ⟨o0, o1, o2, o3, o4⟩ := Lo.a5; obtain ⟨r0, r1, r2, r3, r4⟩ := Lr.a5; obtain ⟨rf0, rf1, rf2, rf3, rf4⟩ := Lr.b5; go_wp2_with fail; refine bodyPost_ret (v := .tuple #[.agg #[.int .i64 n, .slice B1 cs.length k1, .slice B2 pl.length k2, .slice B3 ds.length k3, .int .i64 m], .int .i64 (-1)]) (by simp [results, Tryz.results28, go_sem, *]) rfl (zm8 (do_f (fun hh => absurd (show actB ka aa ba = true from hh.2) (by rw [HA.out]; simp))) ⟨_, _, _, S, rfl, ?_, ?_, ?_⟩)
   ·exact OK.out.chg (T := [w.heap.size + 1 + 1]) (cS) (fun x hx hx' => DK.out x hx (by simp at hx'; subst hx'; simp))
   ·exact zaa FK.out (by omega) (by simp)
   ·exact Below.chg hb (S := [w.heap.size + 1 + 1]) (cS) hb.size (fun x hx => by simp at hx; omega)
 ·skip
  clear c0 c1 c2 c3 c4; have hzq : W2.heap.size <= W3.heap.size := by have := q.size; (try simp at this); omega
  replace Lc := Lc.below q; replace La := La.below q; replace Lr := Lr.below q; replace Lo := Lo.below q; replace OK := Lib.hid (OK.out.below q); replace FK := Lib.hid (zaa (w' := W3) FK.out (Nat.le_refl _) hzq); replace hb : Below w.heap.size w W3 := hb.trans (q.mono hb.size); clear q; obtain ⟨o0, o1, o2, o3, o4⟩ := Lo.a5; obtain ⟨r0, r1, r2, r3, r4⟩ := Lr.a5; obtain ⟨rf0, rf1, rf2, rf3, rf4⟩ := Lr.b5; go_wp2_with fail; refine bodyPost_ret (v := .tuple #[.agg #[.int .i64 n, .slice B1 cs.length k1, .slice B2 pl.length k2, .slice B3 ds.length k3, .int .i64 m], .int .i64 (-1)]) (by simp [results, Tryz.results28, go_sem, *]) rfl (zm8 (do_f (fun hh => absurd (show zau n m cs pl ds = true from hh.1) (by rw [hq.out]; simp))) ⟨_, _, _, S, rfl, ?_, ?_, ?_⟩)
  ·exact OK.out.chg (T := [w.heap.size + 1 + 1]) (cS) (fun x hx hx' => DK.out x hx (by simp at hx'; subst hx'; simp))
  ·exact zaa FK.out (by omega) (by simp)
  ·exact Below.chg hb (S := [w.heap.size + 1 + 1]) (cS) hb.size (fun x hx => by simp at hx; omega)
def zhg (st : Th × List Int) (a : RAct) : Th × List Int := ((doF st.1 a).1, st.2 ++ [(doF st.1 a).2])
def zdf (t : Th) (acts : List RAct) : Th × List Int := acts.foldl zhg (t, [])
def zci (t : Th) (acts : List RAct) : Th × List Int := if t.ok = true /\ acts.length <= 40 then zdf t acts else (t, [])
theorem zqa {t : Th} {acts : List RAct} (h1 : t.ok = true) (h2 : acts.length <= 40) : zci t acts = zdf t acts := if_pos ⟨h1, h2⟩
theorem zkz {t : Th} {acts : List RAct} (h : ¬ (t.ok = true /\ acts.length <= 40)) : zci t acts = (t, []) := if_neg h
theorem zgd (t : Th) (acts : List RAct) {k : Nat} (h : k < acts.length) : zdf t (acts.take (k + 1)) = zhg (zdf t (acts.take k)) acts[k] := zbl _ _ acts h
theorem ztn (t : Th) (acts : List RAct) : ∀ k, k <= acts.length -> ((zdf t (acts.take k)).1.sz <= t.sz ∨ (zdf t (acts.take k)).1.sz <= 148) /\ (zdf t (acts.take k)).2.length = k := by
 intro k
 induction k with
 | zero => intro _; exact ⟨.inl (Nat.le_refl _), rfl⟩
 | succ k ih =>
  intro hk; obtain ⟨h1, h2⟩ := ih (by omega)
  rw [zgd t acts (by omega)]
  refine ⟨?_, by unfold zhg; rw [List.length_append, h2]; rfl⟩
  have := z0c (zdf t (acts.take k)).1 (acts[k]'(by omega))
  show (doF (zdf t (acts.take k)).1 (acts[k]'(by omega))).1.sz <= t.sz ∨ (doF (zdf t (acts.take k)).1 (acts[k]'(by omega))).1.sz <= 148
  rcases this with h | h
  ·rcases h1 with h1 | h1
   ·exact .inl (by omega)
   ·exact .inr (by omega)
  ·exact .inr h
theorem zml (t : Th) (acts : List RAct) : ((zci t acts).1.sz <= t.sz ∨ (zci t acts).1.sz <= 148) /\ (zci t acts).2.length <= 40 := by
 by_cases h : t.ok = true /\ acts.length <= 40
 ·rw [zqa h.1 h.2]
  have := ztn t acts acts.length (Nat.le_refl _); rw [List.take_length] at this; exact ⟨this.1, by have := h.2; omega⟩
 ·rw [zkz h]; exact ⟨.inl (Nat.le_refl _), by simp⟩
def zv5 (B : Nat) (n m : Int) (cs : List zad) (pl : List RPl) (ds ns : List Int) (w : World) (e : Ending) (w' : World) : Prop :=
 ∃ x1 x2 x3 S v SN, e = .returned (.tuple #[.agg #[.int .i64 n, x1, x2, x3, .int .i64 m], v]) /\ zai w' S x1 x2 x3 cs pl ds /\ zbc B w' S /\ OwL 3 cInt 1 w' SN v ns /\ zbc B w' SN /\ (∀ b ∈ S, b ∉ SN) /\ Below w.heap.size w w'
def zo5 (B : Nat) (r : Th × List Int) : World -> Ending -> World -> Prop := zv5 B r.1.n r.1.m r.1.cs r.1.pl r.1.ds r.2
theorem zmb {B : Nat} {r : Th × List Int} {n m : Int} {cs : List zad} {pl : List RPl} {ds ns : List Int} {w w' : World} {e : Ending} (h : r = (⟨n, m, cs, pl, ds⟩, ns)) (hr : zv5 B n m cs pl ds ns w e w') : zo5 B r w e w' := by rw [h]; exact hr
structure zhi (w : World) (B go gr : Nat) (t : Th) (ns : List Int) (x1 x2 x3 v : Value) (W : World) : Prop where
 lo : Loc W go [.int .i64 t.n, x1, x2, x3, .int .i64 t.m]
 lr : Loc W gr [.int .i64 0, .slice none 0 0, .slice none 0 0, .slice none 0 0, .int .i64 0]
 own : ∃ S, zai W S x1 x2 x3 t.cs t.pl t.ds /\ zbc B W S /\ ∀ b ∈ S, b ≠ go /\ b ∉ v.ownBlock.toList
 nums : W.ownsRow B 3 1 v ns.length (ns.flatMap cInt)
 ne : go ∉ v.ownBlock.toList
 below : Below w.heap.size w W
 base : (w.heap.size <= gr /\ gr < B) /\ B <= go /\ go < W.heap.size
section
variable {w W W1 W' : World} {B go gr : Nat} {t t' : Th} {ns : List Int} {x1 x2 x3 z1 z2 z3 v v' : Value}
theorem zhi.rd (h : zhi w B go gr t ns x1 x2 x3 v W) : zak W x1 x2 x3 t.cs t.pl t.ds := by obtain ⟨S, h1, _⟩ := h.own; exact h1.rd
theorem zhi.keep (h : zhi w B go gr t ns x1 x2 x3 v W) (hb : Below W.heap.size W W') : zhi w B go gr t ns x1 x2 x3 v W' := by
 obtain ⟨S, h1, h2, h3⟩ := h.own; exact ⟨h.lo.below hb, h.lr.below hb, ⟨S, h1.below hb, zaa h2 (Nat.le_refl _) hb.size, h3⟩, zac h.nums hb, h.ne, zab h.below hb, h.base.1, h.base.2.1, Nat.lt_of_lt_of_le h.base.2.2 hb.size⟩
theorem zhi.next {T : List Nat} (h : zhi w B go gr t ns x1 x2 x3 v W) (hb : Below W.heap.size W W') (ho : zai W' T z1 z2 z3 t'.cs t'.pl t'.ds) (hf : zbc W.heap.size W' T) :
  zhi w B go gr t' ns z1 z2 z3 v (((((W'.setCell ⟨go, 0, none⟩ (.int .i64 t'.n)).setCell ⟨go, 1, none⟩ z1).setCell ⟨go, 2, none⟩ z2).setCell ⟨go, 3, none⟩ z3).setCell ⟨go, 4, none⟩ (.int .i64 t'.m)) := by
 have hbs := h.base; have hch : Chg [go] W' (((((W'.setCell ⟨go, 0, none⟩ (.int .i64 t'.n)).setCell ⟨go, 1, none⟩ z1).setCell ⟨go, 2, none⟩ z2).setCell ⟨go, 3, none⟩ z3).setCell ⟨go, 4, none⟩ (.int .i64 t'.m)) := cS
 have h1 := h.keep hb; have hbw := h.below.size
 refine ⟨((((h1.lo.set (i := 0) (u := .int .i64 t'.n) rfl).set (i := 1) (u := z1) rfl).set (i := 2) (u := z2) rfl).set (i := 3) (u := z3) rfl).set (i := 4) (u := .int .i64 t'.m) rfl, h1.lr.chg hch (by simp; omega),
  ⟨T, ho.chg hch (fun b hm hm' => by have := (hf.2 b hm).1; simp at hm'; omega), zaa hf (by omega) hch.size, fun b hm => ⟨by have := (hf.2 b hm).1; omega, fun hm' => by have := (hf.2 b hm).1; have := (h.nums.lt b (by simpa using hm')).2; omega⟩⟩,
  za0 h1.nums hch (fun b hm hm' => by simp at hm'; subst hm'; exact h.ne hm), h.ne, Below.chg h1.below hch h1.below.size (by simp; omega), hbs.1, hbs.2.1, Nat.lt_of_lt_of_le h1.base.2.2 hch.size⟩
theorem zhi.app {k : Int} (h : zhi w B go gr t ns x1 x2 x3 v W) (hown : W'.ownsRow B 3 1 v' (ns.length + 1) (ns.flatMap cInt ++ [.int .i64 k])) (hgr : W.grownBy W' v.ownBlock) (hat : v'.ownBlock = v.ownBlock ∨ v'.ownBlock = some W.heap.size) :
  zhi w B go gr t (ns ++ [k]) x1 x2 x3 v' W' := by
 obtain ⟨S, h1, h2, h3⟩ := h.own; have hbs := h.base; have hch := Chg.of_grown hgr
 have hv : ∀ b ∈ v'.ownBlock.toList, b ∈ v.ownBlock.toList ∨ b = W.heap.size := fun b hb => by
  rcases hat with e | e
  ·rw [e] at hb; exact .inl hb
  ·rw [e] at hb; simp at hb; exact .inr hb
 have hvB : ∀ b ∈ v.ownBlock.toList, B <= b := fun b hb => (h.nums.lt b (by simpa using hb)).1
 refine ⟨h.lo.chg hch h.ne, h.lr.chg hch (fun hm => by have := hvB _ hm; omega), ⟨S, h1.chg hch (fun b hb hb' => (h3 b hb).2 hb'), zaa h2 (Nat.le_refl _) hgr.size, fun b hb => ⟨(h3 b hb).1, fun hm => ?_⟩⟩,
  by rw [List.length_append, List.flatMap_append]; exact hown, fun hm => ?_, Below.chg h.below hch h.below.size (fun b hb => by have := hvB b hb; omega), hbs.1, hbs.2.1, Nat.lt_of_lt_of_le hbs.2.2 hgr.size⟩
 ·rcases hv b hm with e | e
  ·exact (h3 b hb).2 e
  ·have := (h2.2 b hb).2; omega
 ·rcases hv go hm with e | e
  ·exact h.ne e
  ·omega
end
theorem zk8 (n m : Int) (v1 v2 v3 va : Value) (cs : List zad) (pl : List RPl) (ds : List Int) (acts : List RAct) (w : World) (h : zak w v1 v2 v3 cs pl ds) (ha : RdL cAct 3 w va acts) (hsz : zas cs pl ds <= 1048576) :
  Calls Tryz.prog 18 #[.agg #[.int .i64 n, v1, v2, v3, .int .i64 m], va] w (zo5 w.heap.size (zci ⟨n, m, cs, pl, ds⟩ acts) w) := by
 obtain ⟨⟨A1, n1, rfl⟩, ⟨A2, n2, rfl⟩, ⟨A3, n3, rfl⟩⟩ := h.forms; obtain ⟨Ac, cc, rfl, hac, hacc⟩ := ha.form; obtain ⟨i0, hi0, hz0', hz1', hz2'⟩ := info_parts zcd
 go_enter Tryz.func18, Tryz.ntmps18
 go_wp2_with fail; refine (zay n m _ _ _ cs pl ds _ (h.below (bM)) hsz).mono ?_
 rintro e W1 ⟨x1, x2, x3, S, rfl, ow, f1, q⟩; obtain ⟨⟨B1, k1, rfl⟩, ⟨B2, k2, rfl⟩, ⟨B3, k3, rfl⟩⟩ := ow.rd.forms; have Lc : Loc W1 (w.heap.size) [.int .i64 n, .slice A1 cs.length n1, .slice A2 pl.length n2, .slice A3 ds.length n3, .int .i64 m] := by have := ((Loc.new w #[.int .i64 n, .slice A1 cs.length n1, .slice A2 pl.length n2, .slice A3 ds.length n3, .int .i64 m] 39).alloc _).below q; simpa using this
 have Lr : Loc W1 (w.heap.size + 1) [.int .i64 0, .slice none 0 0, .slice none 0 0, .slice none 0 0, .int .i64 0] := by have := (Loc.new (w.alloc (.cells #[.int .i64 n, .slice A1 cs.length n1, .slice A2 pl.length n2, .slice A3 ds.length n3, .int .i64 m] 39)) #[.int .i64 0, .slice none 0 0, .slice none 0 0, .slice none 0 0, .int .i64 0] 39).below q; simpa using this
 have hb : Below w.heap.size w W1 := Below.trans (bM) (q.mono (by simp <;> omega))
 have hz0 : w.heap.size + 1 + 1 <= W1.heap.size := by have := q.size; simp at this; omega
 have hlow : w.heap.size + 1 + 1 <= (((w.alloc (.cells #[.int .i64 n, .slice A1 cs.length n1, .slice A2 pl.length n2, .slice A3 ds.length n3, .int .i64 m] 39)).alloc (.cells #[.int .i64 0, .slice none 0 0, .slice none 0 0, .slice none 0 0, .int .i64 0] 39))).heap.size := by first | exact Nat.le_refl _ | (simp; done) | (simp; omega) | omega
 have FK := Lib.hid (zaa f1 hlow (Nat.le_refl _)); have DK : Hid (∀ x ∈ S, x ∉ [w.heap.size, w.heap.size + 1]) := (fun x hx => by have := (FK.out.2 x hx).1; simp; omega)
 have OK := Lib.hid ow; clear ow f1 hlow; clear q
 go_upto_region 2 with (fail)
 replace Lc : Loc (W1.alloc (.cells #[.int .i64 n, .slice B1 cs.length k1, .slice B2 pl.length k2, .slice B3 ds.length k3, .int .i64 m] 39)) (w.heap.size) [.int .i64 n, .slice A1 cs.length n1, .slice A2 pl.length n2, .slice A3 ds.length n3, .int .i64 m] := Lc.alloc _; replace Lr : Loc (W1.alloc (.cells #[.int .i64 n, .slice B1 cs.length k1, .slice B2 pl.length k2, .slice B3 ds.length k3, .int .i64 m] 39)) (w.heap.size + 1) [.int .i64 0, .slice none 0 0, .slice none 0 0, .slice none 0 0, .int .i64 0] := Lr.alloc _; obtain ⟨go, hgo⟩ : ∃ g, W1.heap.size = g := ⟨_, rfl⟩; have Lo : Loc (W1.alloc (.cells #[.int .i64 n, .slice B1 cs.length k1, .slice B2 pl.length k2, .slice B3 ds.length k3, .int .i64 m] 39)) W1.heap.size [.int .i64 n, .slice B1 cs.length k1, .slice B2 pl.length k2, .slice B3 ds.length k3, .int .i64 m] := Loc.new W1 #[.int .i64 n, .slice B1 cs.length k1, .slice B2 pl.length k2, .slice B3 ds.length k3, .int .i64 m] 39
 rw [hgo] at Lo; replace OK := Lib.hid (OK.out.below (w' := (W1.alloc (.cells #[.int .i64 n, .slice B1 cs.length k1, .slice B2 pl.length k2, .slice B3 ds.length k3, .int .i64 m] 39))) ((Below.refl _ _).alloc (Nat.le_refl _) _)); replace DK : Hid (∀ x ∈ S, x ∉ [w.heap.size, w.heap.size + 1, go]) := (fun x hx => by have := DK.out x hx; have := (FK.out.2 x hx).2; simp at *; omega)
 replace FK := Lib.hid (zaa (w' := (W1.alloc (.cells #[.int .i64 n, .slice B1 cs.length k1, .slice B2 pl.length k2, .slice B3 ds.length k3, .int .i64 m] 39))) FK.out (Nat.le_refl _) (by simp))
 replace hb : Below w.heap.size w (W1.alloc (.cells #[.int .i64 n, .slice B1 cs.length k1, .slice B2 pl.length k2, .slice B3 ds.length k3, .int .i64 m] 39)) := hb.alloc hb.size _; have hlto : go < (W1.alloc (.cells #[.int .i64 n, .slice B1 cs.length k1, .slice B2 pl.length k2, .slice B3 ds.length k3, .int .i64 m] 39)).heap.size := by simp; omega
 have hne_c_o : w.heap.size < go := by omega
 have hne_r_o : w.heap.size + 1 < go := by omega
 generalize W1.alloc (.cells #[.int .i64 n, .slice B1 cs.length k1, .slice B2 pl.length k2, .slice B3 ds.length k3, .int .i64 m] 39) = W2 at *
 rw [hgo]; clear hgo; obtain ⟨c0, c1, c2, c3, c4⟩ := Lc.a5; go_wp2_with fail; refine twoB (zb7 n m _ _ _ cs pl ds _ (h.below hb)) (fun W3 hq q => ?_) (fun W3 hq q => ?_)
 ·skip
  clear c0 c1 c2 c3 c4; have hzq : W2.heap.size <= W3.heap.size := by have := q.size; (try simp at this); omega
  replace Lc := Lc.below q; replace Lr := Lr.below q; replace Lo := Lo.below q; replace OK := Lib.hid (OK.out.below q); replace FK := Lib.hid (zaa (w' := W3) FK.out (Nat.le_refl _) hzq); replace hb : Below w.heap.size w W3 := hb.trans (q.mono hb.size); clear q
  by_cases hl40 : 40 < acts.length
  ·skip
   have hd40 : decide ((40 : Int) < (acts.length : Int)) = true := decide_eq_true (by omega)
   obtain ⟨o0, o1, o2, o3, o4⟩ := Lo.a5; obtain ⟨r0, r1, r2, r3, r4⟩ := Lr.a5; obtain ⟨rf0, rf1, rf2, rf3, rf4⟩ := Lr.b5; go_wp2_with fail; refine bodyPost_ret (v := .tuple #[.agg #[.int .i64 n, .slice B1 cs.length k1, .slice B2 pl.length k2, .slice B3 ds.length k3, .int .i64 m], .slice none 0 0]) (by simp [results, Tryz.results18, go_sem, *]) rfl (zmb (zkz (fun hh => by have := hh.2; omega)) ⟨_, _, _, S, _, [], rfl, ?_, ?_, ⟨World.ownsRow_nil _ _ _ _, rfl⟩, ⟨by simp, by simp⟩, by simp, ?_⟩)
   ·exact OK.out.chg (T := [w.heap.size + 1]) (cS) (fun x hx hx' => DK.out x hx (by simp at hx'; subst hx'; simp))
   ·exact zaa FK.out (by omega) (by simp)
   ·exact Below.chg hb (S := [w.heap.size + 1]) (cS) hb.size (fun x hx => by simp at hx; omega)
  ·skip
   have hd40 : decide ((40 : Int) < (acts.length : Int)) = false := decide_eq_false (by omega)
   have HQ := hq; have hrb := ha.below hb
   have hst0 : zhi w (w.heap.size + 1 + 1) go (w.heap.size + 1) ⟨n, m, cs, pl, ds⟩ [] (.slice B1 cs.length k1) (.slice B2 pl.length k2) (.slice B3 ds.length k3) (.slice (some ⟨W3.heap.size, 0, none⟩) 0 0) (W3.alloc (.cells #[] 3)) := by
    have hal : Below W3.heap.size W3 (W3.alloc (.cells #[] 3)) := (Below.refl _ _).alloc (Nat.le_refl _) _; exact ⟨Lo.below hal, Lr.below hal, ⟨S, OK.out.below hal, zaa FK.out (Nat.le_refl _) hal.size, fun b hb' => ⟨fun e => DK.out b hb' (by subst e; simp), fun hm => by have := (FK.out.2 b hb').2; simp [Value.ownBlock] at hm; omega⟩⟩, World.ownsRow_made (size := 1) (e := 3) W3 #[] 0 (by omega) (by simp [maxLen]) rfl, by simp [Value.ownBlock]; omega, zab hb hal, ⟨by omega, by omega⟩, by omega, by have := hal.size; omega⟩
   clear Lc Lr Lo OK FK DK; go_wp2_with fail
   go_loopw [7, 26] (fun q i wr => ∃ (k : Nat) (t1 : Th) (ns : List Int) (Y1 : Option Addr) (y1 : Nat) (Y2 : Option Addr) (y2 : Nat) (Y3 : Option Addr) (y3 : Nat) (v : Value), k <= acts.length /\ i = .int .i64 k /\ Hid (zdf ⟨n, m, cs, pl, ds⟩ (acts.take k) = (t1, ns)) /\ zhi w (w.heap.size + 1 + 1) go (w.heap.size + 1) t1 ns (.slice Y1 t1.cs.length y1) (.slice Y2 t1.pl.length y2) (.slice Y3 t1.ds.length y3) v wr /\ q = v) (fun _ i _ => acts.length - (intOf i).toNat)
   case atStart => exact ⟨0, ⟨n, m, cs, pl, ds⟩, [], _, _, _, _, _, _, _, Nat.zero_le _, rfl, rfl, hst0, rfl⟩
   case round =>
    obtain ⟨k, t1, ns, Y1, y1, Y2, y2, Y3, y3, v, hk, rfl, hrf, hst, rfl⟩ := hrel; clear hst0; obtain ⟨Av, cv, rfl, _, _⟩ := (RdS.of_own hst.nums).form; have HZ : Hid ((zas t1.cs t1.pl t1.ds <= zas cs pl ds ∨ zas t1.cs t1.pl t1.ds <= 148) /\ ns.length = k) := by have := ztn ⟨n, m, cs, pl, ds⟩ acts k hk; rw [hrf.out] at this; exact this
    have hnk : ns.length = k := HZ.out.2; have hns40 : ns.length <= 40 := by omega
    clear hnk
    by_cases hlt : k < acts.length
    ·skip
     obtain ⟨g, off, rfl, hg, hcell⟩ := (ha.below hst.below).cell zq8 (by omega) hlt
     have a0 := hcell 0 _ rfl; have a1 := hcell 1 _ rfl; have a2 := hcell 2 _ rfl
     simp only [Nat.add_zero] at a0 a1 a2
     clear hcell; have HSU := Lib.hid (zgd ⟨n, m, cs, pl, ds⟩ acts hlt); obtain ⟨⟨ka, aa, ba⟩, hact⟩ : ∃ a, acts[k] = a := ⟨_, rfl⟩; rw [hact] at a0 a1 a2; have HACT := Lib.hid hact; clear hact; obtain ⟨n1', m1', cs1, pl1, ds1⟩ := t1; obtain ⟨⟨⟨rn, rm, rcs, rpl, rds⟩, rk⟩, hres⟩ : ∃ r, doF ⟨n1', m1', cs1, pl1, ds1⟩ (ka, aa, ba) = r := ⟨_, rfl⟩
     have hX : Hid (∀ W, zak W (.slice Y1 cs1.length y1) (.slice Y2 pl1.length y2) (.slice Y3 ds1.length y3) cs1 pl1 ds1 -> Calls Tryz.prog 41 #[.agg #[.int .i64 n1', .slice Y1 cs1.length y1, .slice Y2 pl1.length y2, .slice Y3 ds1.length y3, .int .i64 m1'], .agg #[.int .i64 ka, .int .i64 aa, .int .i64 ba]] W (zv6 W.heap.size rn rm rk rcs rpl rds W)) := fun W hr => by
      have := zmy n1' m1' ka aa ba _ _ _ cs1 pl1 ds1 W hr (by have h1 := HZ.out.1; simp only at h1; omega)
      rw [hres] at this; exact this
     have HN : Hid (zdf ⟨n, m, cs, pl, ds⟩ (acts.take (k + 1)) = (⟨rn, rm, rcs, rpl, rds⟩, ns ++ [rk])) := by show _ = _; rw [HSU.out, hrf.out, HACT.out]; unfold zhg; rw [hres]
     clear hres
     go_upto_region 8 with (fail)
     have halA : Below wr.heap.size wr (wr.alloc (.cells #[.int .i64 ka, .int .i64 aa, .int .i64 ba] 30)) := (Below.refl _ _).alloc (Nat.le_refl _) _; have hstA := hst.keep halA; have La : Loc (wr.alloc (.cells #[.int .i64 ka, .int .i64 aa, .int .i64 ba] 30)) wr.heap.size [.int .i64 ka, .int .i64 aa, .int .i64 ba] := Loc.new wr #[.int .i64 ka, .int .i64 aa, .int .i64 ba] 30; obtain ⟨ga, hga⟩ : ∃ g, wr.heap.size = g := ⟨_, rfl⟩; rw [hga] at La; clear a0 a1 a2 hst; generalize wr.alloc (.cells #[.int .i64 ka, .int .i64 aa, .int .i64 ba] 30) = wa at *
     (try rw [hga])
     clear halA hga; have o0 := (hstA.lo 0 _ rfl).1; have o1 := (hstA.lo 1 _ rfl).1; have o2 := (hstA.lo 2 _ rfl).1; have o3 := (hstA.lo 3 _ rfl).1; have o4 := (hstA.lo 4 _ rfl).1; obtain ⟨a0, a1, a2⟩ := La.a3
     simp only at o0 o1 o2 o3 o4
     go_wp2_with fail; refine (hX.out _ hstA.rd).mono ?_; rintro e w5 ⟨z1, z2, z3, T, rfl, owr, fr, q⟩; obtain ⟨⟨Z1, e1, rfl⟩, ⟨Z2, e2, rfl⟩, ⟨Z3, e3, rfl⟩⟩ := owr.rd.forms; clear o0 o1 o2 o3 o4 a0 a1 a2
     go_upto_region 9 with (fail)
     have halB : Below w5.heap.size w5 (w5.alloc (.cells #[.int .i64 rn, .slice Z1 rcs.length e1, .slice Z2 rpl.length e2, .slice Z3 rds.length e3, .int .i64 rm] 39)) := (Below.refl _ _).alloc (Nat.le_refl _) _; have Lb : Loc (w5.alloc (.cells #[.int .i64 rn, .slice Z1 rcs.length e1, .slice Z2 rpl.length e2, .slice Z3 rds.length e3, .int .i64 rm] 39)) w5.heap.size [.int .i64 rn, .slice Z1 rcs.length e1, .slice Z2 rpl.length e2, .slice Z3 rds.length e3, .int .i64 rm] := Loc.new w5 #[.int .i64 rn, .slice Z1 rcs.length e1, .slice Z2 rpl.length e2, .slice Z3 rds.length e3, .int .i64 rm] 39; have q2 := zab q halB; have owr2 := owr.below halB; have fr2 := zaa fr (Nat.le_refl _) halB.size; obtain ⟨gb, hgb⟩ : ∃ g, w5.heap.size = g := ⟨_, rfl⟩; rw [hgb] at Lb; generalize w5.alloc (.cells #[.int .i64 rn, .slice Z1 rcs.length e1, .slice Z2 rpl.length e2, .slice Z3 rds.length e3, .int .i64 rm] 39) = wb at *
     (try rw [hgb])
     clear q owr fr halB hgb; have lo2 := hstA.lo.below q2; obtain ⟨o0, o1, o2, o3, o4⟩ := lo2.a5; obtain ⟨f0, f1, f2, f3, f4⟩ := lo2.b5; obtain ⟨b0, b1, b2, b3, b4⟩ := Lb.a5
     simp only at o0 o1 o2 o3 o4
     have HST9 := Lib.hid (hstA.next (t' := ⟨rn, rm, rcs, rpl, rds⟩) q2 owr2 fr2); clear owr2 fr2
     go_upto_region 10 with (fail)
     have hst9 := HST9.out
     simp only at hst9
     clear lo2 o0 o1 o2 o3 o4 f0 f1 f2 f3 f4 b0 b1 b2 b3 b4 HST9 hstA Lb La q2; generalize ((((wb.setCell ⟨go, 0, none⟩ (.int .i64 rn)).setCell ⟨go, 1, none⟩ (.slice Z1 rcs.length e1)).setCell ⟨go, 2, none⟩ (.slice Z2 rpl.length e2)).setCell ⟨go, 3, none⟩ (.slice Z3 rds.length e3)).setCell ⟨go, 4, none⟩ (.int .i64 rm) = w9 at *
     have hn9 := hst9.nums; have hz9 := hst9.below.size
     go_wp2_with (at_builtin; go_must (refine zae _ rfl (.tmp 37) (.tmp 39) _ rfl (w.heap.size + 1 + 1) 3 i0 _ 1 8 Tryz.underlying37 hi0 hz0' hz1' hz2' rfl (by omega) _ ns.length (ns.flatMap cInt) rfl (hn9.alloc _) _ 1 [.int .i64 rk] rfl (zap w9 #[.int .i64 rk] _ 1 1 rfl (by simp [maxLen])) (by simp [Value.oneCell']) (by simp [maxLen]; omega) (by omega) (by have := hst9.base; simp; omega) ?_); intro v3 w3 own3 gr3 at3; obtain ⟨A3, c3, rfl, _, _⟩ := (RdS.of_own own3).form)
     have hstN := (hst9.keep ((Below.refl _ _).alloc (Nat.le_refl _) (.cells #[.int .i64 rk] 3))).app (k := rk) own3 gr3 at3; go_wp2_with fail; go_roundw
     case rel => exact ⟨k + 1, ⟨rn, rm, rcs, rpl, rds⟩, ns ++ [rk], _, _, _, _, _, _, _, by omega, by go_num, HN.out, hstN, rfl⟩
     case measure => simp [intOf]; omega
    ·skip
     obtain rfl : k = acts.length := by omega
     have HF : Hid (zci ⟨n, m, cs, pl, ds⟩ acts = (t1, ns)) := by show _ = _; rw [zqa (t := ⟨n, m, cs, pl, ds⟩) HQ.out (by omega), <- hrf.out, List.take_length]
     obtain ⟨n1', m1', cs1, pl1, ds1⟩ := t1; have o0 := (hst.lo 0 _ rfl).1; have o1 := (hst.lo 1 _ rfl).1; have o2 := (hst.lo 2 _ rfl).1; have o3 := (hst.lo 3 _ rfl).1; have o4 := (hst.lo 4 _ rfl).1; have r0 := (hst.lr 0 _ rfl).1; have r1 := (hst.lr 1 _ rfl).1; have r2 := (hst.lr 2 _ rfl).1; have r3 := (hst.lr 3 _ rfl).1; have r4 := (hst.lr 4 _ rfl).1; have rf0 := (hst.lr 0 _ rfl).2; have rf1 := (hst.lr 1 _ rfl).2; have rf2 := (hst.lr 2 _ rfl).2; have rf3 := (hst.lr 3 _ rfl).2; have rf4 := (hst.lr 4 _ rfl).2; have hbs := hst.base; obtain ⟨S9, ow9, fr9, dj9⟩ := hst.own; have hnums := hst.nums; have hbel := hst.below; have OW := Lib.hid ow9; have FR := Lib.hid fr9; have DJ := Lib.hid dj9; have HNU := Lib.hid hnums; have hnv : ∀ b ∈ (Value.slice Av ns.length cv).ownBlock.toList, w.heap.size + 1 + 1 <= b /\ b < wr.heap.size := fun b hb => hnums.lt b (by simpa using hb)
     have HNV := Lib.hid hnv; clear ow9 fr9 dj9 hnums hnv hst HZ hrf
     simp only at o0 o1 o2 o3 o4
     go_wp2_with fail; have hch : Chg [w.heap.size + 1] wr (((((wr.setCell ⟨w.heap.size + 1, 0, none⟩ (.int .i64 n1')).setCell ⟨w.heap.size + 1, 1, none⟩ (.slice Y1 cs1.length y1)).setCell ⟨w.heap.size + 1, 2, none⟩ (.slice Y2 pl1.length y2)).setCell ⟨w.heap.size + 1, 3, none⟩ (.slice Y3 ds1.length y3)).setCell ⟨w.heap.size + 1, 4, none⟩ (.int .i64 m1')) := cS
     refine bodyPost_ret (v := .tuple #[.agg #[.int .i64 n1', .slice Y1 cs1.length y1, .slice Y2 pl1.length y2, .slice Y3 ds1.length y3, .int .i64 m1'], .slice Av ns.length cv]) (by simp [results, Tryz.results18, go_sem, *]) rfl (zmb HF.out ⟨_, _, _, S9, _, _, rfl, OW.out.chg hch (fun b hb hb' => by have := (FR.out.2 b hb).1; simp at hb'; omega), zaa FR.out (by omega) hch.size, ⟨zaj (za0 HNU.out hch (fun b hb hb' => by have := HNV.out b hb; simp at hb'; omega)) (Nat.zero_le _), rfl⟩, ⟨by cases Av <;> simp [Value.ownBlock], fun b hb => by have := HNV.out b hb; have := hch.size; omega⟩, fun b hb => (DJ.out b hb).2, Below.chg hbel hch hbel.size (by simp)⟩)
 ·skip
  clear c0 c1 c2 c3 c4; have hzq : W2.heap.size <= W3.heap.size := by have := q.size; (try simp at this); omega
  replace Lc := Lc.below q; replace Lr := Lr.below q; replace Lo := Lo.below q; replace OK := Lib.hid (OK.out.below q); replace FK := Lib.hid (zaa (w' := W3) FK.out (Nat.le_refl _) hzq); replace hb : Below w.heap.size w W3 := hb.trans (q.mono hb.size); clear q; obtain ⟨o0, o1, o2, o3, o4⟩ := Lo.a5; obtain ⟨r0, r1, r2, r3, r4⟩ := Lr.a5; obtain ⟨rf0, rf1, rf2, rf3, rf4⟩ := Lr.b5; go_wp2_with fail; refine bodyPost_ret (v := .tuple #[.agg #[.int .i64 n, .slice B1 cs.length k1, .slice B2 pl.length k2, .slice B3 ds.length k3, .int .i64 m], .slice none 0 0]) (by simp [results, Tryz.results18, go_sem, *]) rfl (zmb (zkz (fun hh => absurd (show zau n m cs pl ds = true from hh.1) (by rw [hq.out]; simp))) ⟨_, _, _, S, _, [], rfl, ?_, ?_, ⟨World.ownsRow_nil _ _ _ _, rfl⟩, ⟨by simp, by simp⟩, by simp, ?_⟩)
  ·exact OK.out.chg (T := [w.heap.size + 1]) (cS) (fun x hx hx' => DK.out x hx (by simp at hx'; subst hx'; simp))
  ·exact zaa FK.out (by omega) (by simp)
  ·exact Below.chg hb (S := [w.heap.size + 1]) (cS) hb.size (fun x hx => by simp at hx; omega)
def prsp (B : Nat) (n1' m1' ka aa ba rn rm rk : Int) (Y1 Y2 Y3 : Option Addr) (y1 y2 y3 al cc k g off : Nat) (cs1 rcs : List zad) (pl1 rpl : List RPl) (ds1 rds : List Int) (i : Nat) (v : Value) (gh : Nat -> Nat) (w : World) : Prop :=
 match i with
 | 0 => v = .agg #[.int .i64 n1', .slice Y1 cs1.length y1, .slice Y2 pl1.length y2, .slice Y3 ds1.length y3, .int .i64 m1']
 | 1 => v = .slice (some ⟨g, off, none⟩) al cc
 | 2 => v = .int .i64 k
 | 3 => v = .pointer (some ⟨g, off + k * 3, none⟩)
 | 4 => v = .agg #[.int .i64 ka, .int .i64 aa, .int .i64 ba]
 | 5 => ∃ (Z1 Z2 Z3 : Option Addr) (e1 e2 e3 : Nat), v = .tuple #[.agg #[.int .i64 rn, .slice Z1 rcs.length e1, .slice Z2 rpl.length e2, .slice Z3 rds.length e3, .int .i64 rm], .int .i64 rk] /\ OwG B (fun w S => zai w S (.slice Z1 rcs.length e1) (.slice Z2 rpl.length e2) (.slice Z3 rds.length e3) rcs rpl rds) 1 gh w
 | 6 => ∃ (Z1 Z2 Z3 : Option Addr) (e1 e2 e3 : Nat), v = .tuple #[.agg #[.int .i64 rn, .slice Z1 rcs.length e1, .slice Z2 rpl.length e2, .slice Z3 rds.length e3, .int .i64 rm], .int .i64 rk] /\ OwG B (fun w S => zai w S (.slice Z1 rcs.length e1) (.slice Z2 rpl.length e2) (.slice Z3 rds.length e3) rcs rpl rds) 1 gh w
 | 7 => ∃ (Z1 Z2 Z3 : Option Addr) (e1 e2 e3 : Nat), v = .agg #[.int .i64 rn, .slice Z1 rcs.length e1, .slice Z2 rpl.length e2, .slice Z3 rds.length e3, .int .i64 rm] /\ OwG B (fun w S => zai w S (.slice Z1 rcs.length e1) (.slice Z2 rpl.length e2) (.slice Z3 rds.length e3) rcs rpl rds) 1 gh w
 | 8 => v = .int .i64 rk
 | 9 => ∃ xb, v = .pointer (some ⟨xb, 0, none⟩) /\ B <= xb /\ Loc w xb [.int .i64 0, .slice none 0 0, .slice none 0 0, .slice none 0 0, .int .i64 0] /\ gh xb = 2 /\ xb < w.heap.size
 | _ => True
theorem zk0 (n m : Int) (v1 v2 v3 va : Value) (cs : List zad) (pl : List RPl) (ds : List Int) (acts : List RAct) (w : World) (h : zak w v1 v2 v3 cs pl ds) (ha : RdL cAct 3 w va acts) (hsz : zas cs pl ds <= 1048576) :
  Calls Tryz.prog 11 #[.agg #[.int .i64 n, v1, v2, v3, .int .i64 m], va] w (zo5 w.heap.size (zci ⟨n, m, cs, pl, ds⟩ acts) w) := by
 obtain ⟨⟨A1, n1, rfl⟩, ⟨A2, n2, rfl⟩, ⟨A3, n3, rfl⟩⟩ := h.forms; obtain ⟨Ac, cc, rfl, hac, hacc⟩ := ha.form; obtain ⟨i0, hi0, hz0', hz1', hz2'⟩ := info_parts zcd
 go_enter Tryz.func11, Tryz.ntmps11
 go_wp2_with fail; refine (zbr n m _ _ _ cs pl ds _ (h.below (bM)) hsz).mono ?_
 rintro e W1 ⟨x1, x2, x3, S, rfl, ow, f1, q⟩; obtain ⟨⟨B1, k1, rfl⟩, ⟨B2, k2, rfl⟩, ⟨B3, k3, rfl⟩⟩ := ow.rd.forms; have Lc : Loc W1 (w.heap.size) [.int .i64 n, .slice A1 cs.length n1, .slice A2 pl.length n2, .slice A3 ds.length n3, .int .i64 m] := by have := ((Loc.new w #[.int .i64 n, .slice A1 cs.length n1, .slice A2 pl.length n2, .slice A3 ds.length n3, .int .i64 m] 39).alloc _).below q; simpa using this
 have Lr : Loc W1 (w.heap.size + 1) [.int .i64 0, .slice none 0 0, .slice none 0 0, .slice none 0 0, .int .i64 0] := by have := (Loc.new (w.alloc (.cells #[.int .i64 n, .slice A1 cs.length n1, .slice A2 pl.length n2, .slice A3 ds.length n3, .int .i64 m] 39)) #[.int .i64 0, .slice none 0 0, .slice none 0 0, .slice none 0 0, .int .i64 0] 39).below q; simpa using this
 have hb : Below w.heap.size w W1 := Below.trans (bM) (q.mono (by simp <;> omega))
 have hz0 : w.heap.size + 1 + 1 <= W1.heap.size := by have := q.size; simp at this; omega
 have hlow : w.heap.size + 1 + 1 <= (((w.alloc (.cells #[.int .i64 n, .slice A1 cs.length n1, .slice A2 pl.length n2, .slice A3 ds.length n3, .int .i64 m] 39)).alloc (.cells #[.int .i64 0, .slice none 0 0, .slice none 0 0, .slice none 0 0, .int .i64 0] 39))).heap.size := by first | exact Nat.le_refl _ | (simp; done) | (simp; omega) | omega
 have FK := Lib.hid (zaa f1 hlow (Nat.le_refl _)); have DK : Hid (∀ x ∈ S, x ∉ [w.heap.size, w.heap.size + 1]) := (fun x hx => by have := (FK.out.2 x hx).1; simp; omega)
 have OK := Lib.hid ow; clear ow f1 hlow; clear q
 go_upto_region 2 with (fail)
 replace Lc : Loc (W1.alloc (.cells #[.int .i64 n, .slice B1 cs.length k1, .slice B2 pl.length k2, .slice B3 ds.length k3, .int .i64 m] 39)) (w.heap.size) [.int .i64 n, .slice A1 cs.length n1, .slice A2 pl.length n2, .slice A3 ds.length n3, .int .i64 m] := Lc.alloc _; replace Lr : Loc (W1.alloc (.cells #[.int .i64 n, .slice B1 cs.length k1, .slice B2 pl.length k2, .slice B3 ds.length k3, .int .i64 m] 39)) (w.heap.size + 1) [.int .i64 0, .slice none 0 0, .slice none 0 0, .slice none 0 0, .int .i64 0] := Lr.alloc _; obtain ⟨go, hgo⟩ : ∃ g, W1.heap.size = g := ⟨_, rfl⟩; have Lo : Loc (W1.alloc (.cells #[.int .i64 n, .slice B1 cs.length k1, .slice B2 pl.length k2, .slice B3 ds.length k3, .int .i64 m] 39)) W1.heap.size [.int .i64 n, .slice B1 cs.length k1, .slice B2 pl.length k2, .slice B3 ds.length k3, .int .i64 m] := Loc.new W1 #[.int .i64 n, .slice B1 cs.length k1, .slice B2 pl.length k2, .slice B3 ds.length k3, .int .i64 m] 39
 rw [hgo] at Lo; replace OK := Lib.hid (OK.out.below (w' := (W1.alloc (.cells #[.int .i64 n, .slice B1 cs.length k1, .slice B2 pl.length k2, .slice B3 ds.length k3, .int .i64 m] 39))) ((Below.refl _ _).alloc (Nat.le_refl _) _)); replace DK : Hid (∀ x ∈ S, x ∉ [w.heap.size, w.heap.size + 1, go]) := (fun x hx => by have := DK.out x hx; have := (FK.out.2 x hx).2; simp at *; omega)
 replace FK := Lib.hid (zaa (w' := (W1.alloc (.cells #[.int .i64 n, .slice B1 cs.length k1, .slice B2 pl.length k2, .slice B3 ds.length k3, .int .i64 m] 39))) FK.out (Nat.le_refl _) (by simp))
 replace hb : Below w.heap.size w (W1.alloc (.cells #[.int .i64 n, .slice B1 cs.length k1, .slice B2 pl.length k2, .slice B3 ds.length k3, .int .i64 m] 39)) := hb.alloc hb.size _; have hlto : go < (W1.alloc (.cells #[.int .i64 n, .slice B1 cs.length k1, .slice B2 pl.length k2, .slice B3 ds.length k3, .int .i64 m] 39)).heap.size := by simp; omega
 have hne_c_o : w.heap.size < go := by omega
 have hne_r_o : w.heap.size + 1 < go := by omega
 generalize W1.alloc (.cells #[.int .i64 n, .slice B1 cs.length k1, .slice B2 pl.length k2, .slice B3 ds.length k3, .int .i64 m] 39) = W2 at *
 rw [hgo]; clear hgo
 go_upto_region 3 with (fail)
 have halN : Below W2.heap.size W2 (W2.alloc (.cells #[] 3)) := (Below.refl _ _).alloc (Nat.le_refl _) _; have hnm : (W2.alloc (.cells #[] 3)).ownsRow (w.heap.size + 1 + 1) 3 1 (.slice (some ⟨W2.heap.size, 0, none⟩) 0 0) 0 [] := World.ownsRow_made (size := 1) (e := 3) W2 #[] 0 (by omega) (by simp [maxLen]) rfl
 obtain ⟨gn, hgn⟩ : ∃ g, W2.heap.size = g := ⟨_, rfl⟩; have hgnS : ∀ x ∈ S, x < gn := fun x hx => by have := (FK.out.2 x hx).2; omega
 have hgno : go < gn := by omega
 rw [hgn] at hnm; have HSN := Lib.hid hgnS; clear hgnS; replace Lc := Lc.below halN; replace Lr := Lr.below halN; replace Lo := Lo.below halN; have OK' := Lib.hid (OK.out.below halN); clear OK; have OK := OK'; clear OK'; replace FK := Lib.hid (zaa (w' := W2.alloc (.cells #[] 3)) FK.out (Nat.le_refl _) halN.size); replace hb : Below w.heap.size w (W2.alloc (.cells #[] 3)) := zab hb halN; have hltg : gn < (W2.alloc (.cells #[] 3)).heap.size := by simp; omega
 generalize W2.alloc (.cells #[] 3) = W3 at *
 (try rw [hgn])
 clear hgn halN; obtain ⟨c0, c1, c2, c3, c4⟩ := Lc.a5; go_wp2_with fail; refine twoB (za3 n m _ _ _ cs pl ds _ (h.below hb)) (fun W4 hq q => ?_) (fun W4 hq q => ?_)
 ·skip
  have qN := q; clear c0 c1 c2 c3 c4; have hzq : W3.heap.size <= W4.heap.size := by have := q.size; (try simp at this); omega
  replace Lc := Lc.below q; replace Lr := Lr.below q; replace Lo := Lo.below q; replace OK := Lib.hid (OK.out.below q); replace FK := Lib.hid (zaa (w' := W4) FK.out (Nat.le_refl _) hzq); replace hb : Below w.heap.size w W4 := hb.trans (q.mono hb.size); clear q; replace hnm := zac hnm qN; clear qN
  by_cases hl40 : 40 < acts.length
  ·skip
   have hd40 : decide ((40 : Int) < (acts.length : Int)) = true := decide_eq_true (by omega)
   obtain ⟨o0, o1, o2, o3, o4⟩ := Lo.a5; obtain ⟨r0, r1, r2, r3, r4⟩ := Lr.a5; obtain ⟨rf0, rf1, rf2, rf3, rf4⟩ := Lr.b5; go_wp2_with fail; have hchr : Chg [w.heap.size + 1] W4 ((((((W4).setCell ⟨w.heap.size + 1, 0, none⟩ (.int .i64 n)).setCell ⟨w.heap.size + 1, 1, none⟩ (.slice B1 cs.length k1)).setCell ⟨w.heap.size + 1, 2, none⟩ (.slice B2 pl.length k2)).setCell ⟨w.heap.size + 1, 3, none⟩ (.slice B3 ds.length k3)).setCell ⟨w.heap.size + 1, 4, none⟩ (.int .i64 m)) := cS
   refine bodyPost_ret (v := .tuple #[.agg #[.int .i64 n, .slice B1 cs.length k1, .slice B2 pl.length k2, .slice B3 ds.length k3, .int .i64 m], .slice (some ⟨gn, 0, none⟩) 0 0]) (by simp [results, Tryz.results11, go_sem, *]) rfl (zmb (zkz (fun hh => by have := hh.2; omega)) ⟨_, _, _, S, _, [gn], rfl, OK.out.chg hchr (fun x hx hx' => DK.out x hx (by simp at hx'; subst hx'; simp)), zaa FK.out (by omega) hchr.size, ⟨zaj (za0 hnm hchr (by simp [Value.ownBlock]; omega)) (Nat.zero_le _), rfl⟩, ⟨by simp, fun x hx => by simp at hx; subst hx; have := hchr.size; omega⟩, fun x hx => by have := HSN.out x hx; simp; omega, Below.chg hb hchr hb.size (fun x hx => by simp at hx; omega)⟩)
  ·skip
   have hd40 : decide ((40 : Int) < (acts.length : Int)) = false := decide_eq_false (by omega)
   have HQ := hq; have hrb := ha.below hb
   have hst0 : zhi w (w.heap.size + 1 + 1) go (w.heap.size + 1) ⟨n, m, cs, pl, ds⟩ [] (.slice B1 cs.length k1) (.slice B2 pl.length k2) (.slice B3 ds.length k3) (.slice (some ⟨gn, 0, none⟩) 0 0) W4 :=
    ⟨Lo, Lr, ⟨S, OK.out, FK.out, fun b hb' => ⟨fun e => DK.out b hb' (by subst e; simp), fun hm => by have := HSN.out b hb'; simp [Value.ownBlock] at hm; omega⟩⟩, hnm, by simp [Value.ownBlock]; omega, hb, ⟨by omega, by omega⟩, by omega, by omega⟩
   clear Lc Lr Lo OK FK DK hnm HSN; go_wp2_with fail
   go_loopw [7, 8] (fun q i wr => ∃ (k : Nat) (t1 : Th) (ns : List Int) (Y1 : Option Addr) (y1 : Nat) (Y2 : Option Addr) (y2 : Nat) (Y3 : Option Addr) (y3 : Nat) (v : Value), k <= acts.length /\ i = .int .i64 k /\ Hid (zdf ⟨n, m, cs, pl, ds⟩ (acts.take k) = (t1, ns)) /\ zhi w (w.heap.size + 1 + 1) go (w.heap.size + 1) t1 ns (.slice Y1 t1.cs.length y1) (.slice Y2 t1.pl.length y2) (.slice Y3 t1.ds.length y3) v wr /\ q = v) (fun _ i _ => acts.length - (intOf i).toNat)
   case atStart => exact ⟨0, ⟨n, m, cs, pl, ds⟩, [], _, _, _, _, _, _, _, Nat.zero_le _, rfl, rfl, hst0, rfl⟩
   case round =>
    obtain ⟨k, t1, ns, Y1, y1, Y2, y2, Y3, y3, v, hk, rfl, hrf, hst, rfl⟩ := hrel; clear hst0; obtain ⟨Av, cv, rfl, _, _⟩ := (RdS.of_own hst.nums).form; have HZ : Hid ((zas t1.cs t1.pl t1.ds <= zas cs pl ds ∨ zas t1.cs t1.pl t1.ds <= 148) /\ ns.length = k) := by have := ztn ⟨n, m, cs, pl, ds⟩ acts k hk; rw [hrf.out] at this; exact this
    have hnk : ns.length = k := HZ.out.2; have hns40 : ns.length <= 40 := by omega
    clear hnk
    by_cases hlt : k < acts.length
    ·skip
     obtain ⟨g, off, rfl, hg, hcell⟩ := (ha.below hst.below).cell zq8 (by omega) hlt
     have a0 := hcell 0 _ rfl; have a1 := hcell 1 _ rfl; have a2 := hcell 2 _ rfl
     simp only [Nat.add_zero] at a0 a1 a2
     clear hcell; have HSU := Lib.hid (zgd ⟨n, m, cs, pl, ds⟩ acts hlt); obtain ⟨⟨ka, aa, ba⟩, hact⟩ : ∃ a, acts[k] = a := ⟨_, rfl⟩; rw [hact] at a0 a1 a2; have HACT := Lib.hid hact; clear hact; obtain ⟨n1', m1', cs1, pl1, ds1⟩ := t1; obtain ⟨⟨⟨rn, rm, rcs, rpl, rds⟩, rk⟩, hres⟩ : ∃ r, doF ⟨n1', m1', cs1, pl1, ds1⟩ (ka, aa, ba) = r := ⟨_, rfl⟩
     have hX : Hid (∀ W, zak W (.slice Y1 cs1.length y1) (.slice Y2 pl1.length y2) (.slice Y3 ds1.length y3) cs1 pl1 ds1 -> Calls Tryz.prog 28 #[.agg #[.int .i64 n1', .slice Y1 cs1.length y1, .slice Y2 pl1.length y2, .slice Y3 ds1.length y3, .int .i64 m1'], .agg #[.int .i64 ka, .int .i64 aa, .int .i64 ba]] W (zv6 W.heap.size rn rm rk rcs rpl rds W)) := fun W hr => by
      have := zmn n1' m1' ka aa ba _ _ _ cs1 pl1 ds1 W hr (by have h1 := HZ.out.1; simp only at h1; omega)
      rw [hres] at this; exact this
     have HN : Hid (zdf ⟨n, m, cs, pl, ds⟩ (acts.take (k + 1)) = (⟨rn, rm, rcs, rpl, rds⟩, ns ++ [rk])) := by show _ = _; rw [HSU.out, hrf.out, HACT.out]; unfold zhg; rw [hres]
     clear hres
     go_upto_region 8 with (fail)
     refine zoy (n := 46) 10 8 (by kernel_rfl) rfl (by kernel_rfl) [] (by kernel_rfl) (fun _ => false) (fun w' => Below wr.heap.size wr w') (fun i => if i = 9 then 2 else 1) (prsp wr.heap.size n1' m1' ka aa ba rn rm rk Y1 Y2 Y3 y1 y2 y3 acts.length cc k g off cs1 rcs pl1 rpl ds1 rds) trivial (Below.refl _ _).drew ?_ ?_ ?_ ?_
     ·intro i v gh gh' w1 w2 hp hJ hb' hg
      match i, hp with
      | 0, hp => exact hp
      | 1, hp => exact hp
      | 2, hp => exact hp
      | 3, hp => exact hp
      | 4, hp => exact hp
      | 5, hp => exact (by obtain ⟨Z1, Z2, Z3, e1, e2, e3, h1, h2⟩ := hp; exact ⟨Z1, Z2, Z3, e1, e2, e3, h1, h2.keep (fun S h => h.below hb') hb' hg⟩)
      | 6, hp => exact (by obtain ⟨Z1, Z2, Z3, e1, e2, e3, h1, h2⟩ := hp; exact ⟨Z1, Z2, Z3, e1, e2, e3, h1, h2.keep (fun S h => h.below hb') hb' hg⟩)
      | 7, hp => exact (by obtain ⟨Z1, Z2, Z3, e1, e2, e3, h1, h2⟩ := hp; exact ⟨Z1, Z2, Z3, e1, e2, e3, h1, h2.keep (fun S h => h.below hb') hb' hg⟩)
      | 8, hp => exact hp
      | 9, hp => exact (by obtain ⟨xb, h1, h2, h3, h4, h5⟩ := hp; exact ⟨xb, h1, h2, h3.below hb', (hg _ h5).trans h4, Nat.lt_of_lt_of_le h5 hb'.size⟩)
      | _ + 10, _ => trivial
     ·refine ⟨?_, ?_, ?_, ?_, ?_, ?_, ?_, ?_, ?_, ?_, trivial⟩
      ·intro a gh w5 hag hJ hd
       dsimp only [zbq]
       have ag6 : a.tmps.getD 6 undef = .pointer (some ⟨go, 0, none⟩) := hag.k 6
       clear hag; have o0 := ((hst.keep hJ).lo 0 _ rfl).1; have o1 := ((hst.keep hJ).lo 1 _ rfl).1; have o2 := ((hst.keep hJ).lo 2 _ rfl).1; have o3 := ((hst.keep hJ).lo 3 _ rfl).1; have o4 := ((hst.keep hJ).lo 4 _ rfl).1
       simp only at o0 o1 o2 o3 o4
       go_wp2_with fail; exact mp0 hJ rfl
      ·intro a gh w5 hag hJ hd
       dsimp only [zbq]
       have ag1 : a.tmps.getD 1 undef = .slice (some ⟨g, off, none⟩) acts.length cc := hag.k 1
       clear hag; go_wp2_with fail; exact mp0 hJ rfl
      ·intro a gh w5 hag hJ hd
       dsimp only [zbq]
       have ag8 : a.tmps.getD 8 undef = .int .i64 k := hag.k 8
       clear hag; go_wp2_with fail; exact mp0 hJ rfl
      ·intro a gh w5 hag hJ hd
       dsimp only [zbq]
       clear hag; have e0 : a.tmps.getD 32 undef = .slice (some ⟨g, off, none⟩) acts.length cc := hd 1 (by kernel_rfl) _ rfl
       have e1 : a.tmps.getD 33 undef = .int .i64 k := hd 2 (by kernel_rfl) _ rfl
       go_wp2_with fail; exact mp0 hJ rfl
      ·intro a gh w5 hag hJ hd
       dsimp only [zbq]
       clear hag; have e0 : a.tmps.getD 34 undef = .pointer (some ⟨g, off + k * 3, none⟩) := hd 3 (by kernel_rfl) _ rfl
       have k0 := za5 hJ a0; have k1 := za5 hJ a1; have k2 := za5 hJ a2; go_wp2_with fail; exact mp0 hJ rfl
      ·intro a gh w5 hag hJ hd
       dsimp only [zbq]
       clear hag; have e0 : a.tmps.getD 31 undef = .agg #[.int .i64 n1', .slice Y1 cs1.length y1, .slice Y2 pl1.length y2, .slice Y3 ds1.length y3, .int .i64 m1'] := hd 0 (by kernel_rfl) _ rfl
       have e1 : a.tmps.getD 35 undef = .agg #[.int .i64 ka, .int .i64 aa, .int .i64 ba] := hd 4 (by kernel_rfl) _ rfl
       go_wp2_with fail; refine (hX.out w5 (hst.keep hJ).rd).mono ?_; rintro e w6 ⟨z1, z2, z3, T, rfl, owr, fr, hb6⟩; obtain ⟨⟨Z1, e1, rfl⟩, ⟨Z2, e2, rfl⟩, ⟨Z3, e3, rfl⟩⟩ := owr.rd.forms; go_wp2_with fail; exact ⟨rfl, _, rfl, ⟨_, _, _, _, _, _, rfl, OwG.of_fresh owr fr hJ.size⟩, zab hJ hb6, hb6⟩
      ·intro a gh w5 hag hJ hd
       dsimp only [zbq]
       clear hag; obtain ⟨Z1, Z2, Z3, e1, e2, e3, e0, h2⟩ : ∃ (Z1 Z2 Z3 : Option Addr) (e1 e2 e3 : Nat), a.tmps.getD 36 undef = .tuple #[.agg #[.int .i64 rn, .slice Z1 rcs.length e1, .slice Z2 rpl.length e2, .slice Z3 rds.length e3, .int .i64 rm], .int .i64 rk] /\ OwG wr.heap.size (fun w S => zai w S (.slice Z1 rcs.length e1) (.slice Z2 rpl.length e2) (.slice Z3 rds.length e3) rcs rpl rds) 1 gh w5 := hd 5 (by kernel_rfl) _ rfl
       go_wp2_with fail; exact ⟨rfl, _, rfl, ⟨Z1, Z2, Z3, e1, e2, e3, rfl, h2.same _⟩, hJ, Below.refl _ _⟩
      ·intro a gh w5 hag hJ hd
       dsimp only [zbq]
       clear hag; obtain ⟨Z1, Z2, Z3, e1, e2, e3, e0, h2⟩ : ∃ (Z1 Z2 Z3 : Option Addr) (e1 e2 e3 : Nat), a.tmps.getD 30 undef = .tuple #[.agg #[.int .i64 rn, .slice Z1 rcs.length e1, .slice Z2 rpl.length e2, .slice Z3 rds.length e3, .int .i64 rm], .int .i64 rk] /\ OwG wr.heap.size (fun w S => zai w S (.slice Z1 rcs.length e1) (.slice Z2 rpl.length e2) (.slice Z3 rds.length e3) rcs rpl rds) 1 gh w5 := hd 6 (by kernel_rfl) _ rfl
       go_wp2_with fail; exact ⟨rfl, _, rfl, ⟨Z1, Z2, Z3, e1, e2, e3, rfl, h2.same _⟩, hJ, Below.refl _ _⟩
      ·intro a gh w5 hag hJ hd
       dsimp only [zbq]
       clear hag; obtain ⟨Z1, Z2, Z3, e1, e2, e3, e0, h2⟩ : ∃ (Z1 Z2 Z3 : Option Addr) (e1 e2 e3 : Nat), a.tmps.getD 30 undef = .tuple #[.agg #[.int .i64 rn, .slice Z1 rcs.length e1, .slice Z2 rpl.length e2, .slice Z3 rds.length e3, .int .i64 rm], .int .i64 rk] /\ OwG wr.heap.size (fun w S => zai w S (.slice Z1 rcs.length e1) (.slice Z2 rpl.length e2) (.slice Z3 rds.length e3) rcs rpl rds) 1 gh w5 := hd 6 (by kernel_rfl) _ rfl
       go_wp2_with fail; exact mp0 hJ rfl
      ·intro a gh w5 hag hJ hd
       dsimp only [zbq]
       clear hag; go_wp2_with fail; exact ⟨rfl, _, rfl, ⟨w5.heap.size, rfl, hJ.size, Loc.new w5 #[.int .i64 0, .slice none 0 0, .slice none 0 0, .slice none 0 0, .int .i64 0] 39, if_neg (Nat.lt_irrefl _), by simp⟩, hJ.alloc hJ.size _, (Below.refl _ _).alloc (Nat.le_refl _) _⟩
     ·intro a gh w5 hag hJ hd
      have ag0 := hag.k 0
      have ag1 : a.tmps.getD 1 undef = .slice (some ⟨g, off, none⟩) acts.length cc := hag.k 1
      have ag2 := hag.k 2
      have ag3 := hag.k 3
      have ag4 := hag.k 4
      have ag5 := hag.k 5
      have ag6 : a.tmps.getD 6 undef = .pointer (some ⟨go, 0, none⟩) := hag.k 6
      have ag7 : a.tmps.getD 7 undef = .slice Av ns.length cv := hag.k 7
      have ag8 : a.tmps.getD 8 undef = .int .i64 k := hag.k 8
      have ag10 := hag.k 10
      have ag11 := hag.k 11
      have ag12 := hag.k 12
      have ag13 := hag.k 13
      have ag14 := hag.k 14
      have ag15 := hag.k 15
      have ag16 := hag.k 16
      have ag17 := hag.k 17
      have ag18 := hag.k 18
      have ag19 := hag.k 19
      have ag20 := hag.k 20
      have ag21 := hag.k 21
      have ag22 := hag.k 22
      have ag23 := hag.k 23
      have ag24 := hag.k 24
      have ag25 := hag.k 25
      have ag26 := hag.k 26
      have ag27 := hag.k 27
      have ag28 := hag.k 28
      have ag29 := hag.k 29
      have ag39 := hag.k 39
      have ag40 := hag.k 40
      have ag41 := hag.k 41
      have ag42 := hag.k 42
      have ag43 := hag.k 43
      have ag44 := hag.k 44
      have ag45 := hag.k 45
      rw [zd1 46 hag.size hag.defers]; simp only [gd, Nat.reduceAdd]; clear hag; obtain ⟨Z1, Z2, Z3, e1, e2, e3, e0, h2⟩ : ∃ (Z1 Z2 Z3 : Option Addr) (e1 e2 e3 : Nat), a.tmps.getD 37 undef = .agg #[.int .i64 rn, .slice Z1 rcs.length e1, .slice Z2 rpl.length e2, .slice Z3 rds.length e3, .int .i64 rm] /\ OwG wr.heap.size (fun w S => zai w S (.slice Z1 rcs.length e1) (.slice Z2 rpl.length e2) (.slice Z3 rds.length e3) rcs rpl rds) 1 gh w5 := hd 7 (by kernel_rfl) _ rfl
      obtain ⟨xb, e8, hxb, Lx, hgx, hxlt⟩ : ∃ xb, a.tmps.getD 9 undef = .pointer (some ⟨xb, 0, none⟩) /\ wr.heap.size <= xb /\ Loc w5 xb [.int .i64 0, .slice none 0 0, .slice none 0 0, .slice none 0 0, .int .i64 0] /\ gh xb = 2 /\ xb < w5.heap.size := hd 9 (by kernel_rfl) _ rfl
      have e9 : a.tmps.getD 38 undef = .int .i64 rk := hd 8 (by kernel_rfl) _ rfl
      rw [ag0, ag1, ag2, ag3, ag4, ag5, ag6, ag7, ag8, ag10, ag11, ag12, ag13, ag14, ag15, ag16, ag17, ag18, ag19, ag20, ag21, ag22, ag23, ag24, ag25, ag26, ag27, ag28, ag29, ag39, ag40, ag41, ag42, ag43, ag44, ag45, e0, e8, e9]; change wpList _ _ _ [_, _] _ _; obtain ⟨T, owr, hnd9, hcl9⟩ := h2; have HX : Hid (∀ b ∈ T, b ∉ [xb]) := fun b hb hb' => by have h1 := (hcl9 b hb).2; simp at hb'; subst hb'; omega
      have fr : zbc wr.heap.size w5 T := ⟨hnd9, fun b hb => (hcl9 b hb).1⟩
      have OW := Lib.hid owr; have FR := Lib.hid fr; obtain ⟨x0, x1, x2, x3, x4⟩ := Lx.a5; obtain ⟨xf0, xf1, xf2, xf3, xf4⟩ := Lx.b5; clear hd hcl9 owr fr hgx hnd9 a0 a1 a2
      go_upto_region 9 with (fail)
      have hchb : Chg [xb] w5 (((((w5.setCell ⟨xb, 0, none⟩ (.int .i64 rn)).setCell ⟨xb, 1, none⟩ (.slice Z1 rcs.length e1)).setCell ⟨xb, 2, none⟩ (.slice Z2 rpl.length e2)).setCell ⟨xb, 3, none⟩ (.slice Z3 rds.length e3)).setCell ⟨xb, 4, none⟩ (.int .i64 rm)) := cS
      have Lb := (((((Lx.set (i := 0) (u := .int .i64 rn) (v := .int .i64 0) rfl).set (i := 1) (u := .slice Z1 rcs.length e1) (v := .slice none 0 0) rfl).set (i := 2) (u := .slice Z2 rpl.length e2) (v := .slice none 0 0) rfl).set (i := 3) (u := .slice Z3 rds.length e3) (v := .slice none 0 0) rfl).set (i := 4) (u := .int .i64 rm) (v := .int .i64 0) rfl); have q2 : Below wr.heap.size wr (((((w5.setCell ⟨xb, 0, none⟩ (.int .i64 rn)).setCell ⟨xb, 1, none⟩ (.slice Z1 rcs.length e1)).setCell ⟨xb, 2, none⟩ (.slice Z2 rpl.length e2)).setCell ⟨xb, 3, none⟩ (.slice Z3 rds.length e3)).setCell ⟨xb, 4, none⟩ (.int .i64 rm)) := Below.chg hJ hchb hJ.size (by simp; omega)
      have owr2 := OW.out.chg hchb HX.out; have fr2 := zaa FR.out (Nat.le_refl _) hchb.size; clear x0 x1 x2 x3 x4 xf0 xf1 xf2 xf3 xf4 Lx OW FR HX hchb; generalize ((((w5.setCell ⟨xb, 0, none⟩ (.int .i64 rn)).setCell ⟨xb, 1, none⟩ (.slice Z1 rcs.length e1)).setCell ⟨xb, 2, none⟩ (.slice Z2 rpl.length e2)).setCell ⟨xb, 3, none⟩ (.slice Z3 rds.length e3)).setCell ⟨xb, 4, none⟩ (.int .i64 rm) = wb at *
      have lo2 := hst.lo.below q2; obtain ⟨o0, o1, o2, o3, o4⟩ := lo2.a5; obtain ⟨f0, f1, f2, f3, f4⟩ := lo2.b5; obtain ⟨b0, b1, b2, b3, b4⟩ := Lb.a5
      simp only at o0 o1 o2 o3 o4
      have HST9 := Lib.hid (hst.next (t' := ⟨rn, rm, rcs, rpl, rds⟩) q2 owr2 fr2); clear owr2 fr2
      go_upto_region 10 with (fail)
      have hst9 := HST9.out
      simp only at hst9
      clear lo2 o0 o1 o2 o3 o4 f0 f1 f2 f3 f4 b0 b1 b2 b3 b4 HST9 hst Lb q2; generalize ((((wb.setCell ⟨go, 0, none⟩ (.int .i64 rn)).setCell ⟨go, 1, none⟩ (.slice Z1 rcs.length e1)).setCell ⟨go, 2, none⟩ (.slice Z2 rpl.length e2)).setCell ⟨go, 3, none⟩ (.slice Z3 rds.length e3)).setCell ⟨go, 4, none⟩ (.int .i64 rm) = w9 at *
      have hn9 := hst9.nums; have hz9 := hst9.below.size
      go_wp2_with (at_builtin; go_must (refine zae _ rfl (.tmp 40) (.tmp 42) _ rfl (w.heap.size + 1 + 1) 3 i0 _ 1 8 Tryz.underlying37 hi0 hz0' hz1' hz2' rfl (by omega) _ ns.length (ns.flatMap cInt) rfl (hn9.alloc _) _ 1 [.int .i64 rk] rfl (zap w9 #[.int .i64 rk] _ 1 1 rfl (by simp [maxLen])) (by simp [Value.oneCell']) (by simp [maxLen]; omega) (by omega) (by have := hst9.base; simp; omega) ?_); intro v3 w3 own3 gr3 at3; obtain ⟨A3, c3, rfl, _, _⟩ := (RdS.of_own own3).form)
      have hstN := (hst9.keep ((Below.refl _ _).alloc (Nat.le_refl _) (.cells #[.int .i64 rk] 3))).app (k := rk) own3 gr3 at3; go_wp2_with fail; go_roundw
      case rel => exact ⟨k + 1, ⟨rn, rm, rcs, rpl, rds⟩, ns ++ [rk], _, _, _, _, _, _, _, by omega, by go_num, HN.out, hstN, rfl⟩
      case measure => simp [intOf]; omega
     ·intro a gh w5 hag hJ hd
      have ag0 := hag.k 0
      have ag1 : a.tmps.getD 1 undef = .slice (some ⟨g, off, none⟩) acts.length cc := hag.k 1
      have ag2 := hag.k 2
      have ag3 := hag.k 3
      have ag4 := hag.k 4
      have ag5 := hag.k 5
      have ag6 : a.tmps.getD 6 undef = .pointer (some ⟨go, 0, none⟩) := hag.k 6
      have ag7 : a.tmps.getD 7 undef = .slice Av ns.length cv := hag.k 7
      have ag8 : a.tmps.getD 8 undef = .int .i64 k := hag.k 8
      have ag10 := hag.k 10
      have ag11 := hag.k 11
      have ag12 := hag.k 12
      have ag13 := hag.k 13
      have ag14 := hag.k 14
      have ag15 := hag.k 15
      have ag16 := hag.k 16
      have ag17 := hag.k 17
      have ag18 := hag.k 18
      have ag19 := hag.k 19
      have ag20 := hag.k 20
      have ag21 := hag.k 21
      have ag22 := hag.k 22
      have ag23 := hag.k 23
      have ag24 := hag.k 24
      have ag25 := hag.k 25
      have ag26 := hag.k 26
      have ag27 := hag.k 27
      have ag28 := hag.k 28
      have ag29 := hag.k 29
      have ag39 := hag.k 39
      have ag40 := hag.k 40
      have ag41 := hag.k 41
      have ag42 := hag.k 42
      have ag43 := hag.k 43
      have ag44 := hag.k 44
      have ag45 := hag.k 45
      rw [zd1 46 hag.size hag.defers]; simp only [gd, Nat.reduceAdd]; clear hag; obtain ⟨Z1, Z2, Z3, e1, e2, e3, e0, h2⟩ : ∃ (Z1 Z2 Z3 : Option Addr) (e1 e2 e3 : Nat), a.tmps.getD 37 undef = .agg #[.int .i64 rn, .slice Z1 rcs.length e1, .slice Z2 rpl.length e2, .slice Z3 rds.length e3, .int .i64 rm] /\ OwG wr.heap.size (fun w S => zai w S (.slice Z1 rcs.length e1) (.slice Z2 rpl.length e2) (.slice Z3 rds.length e3) rcs rpl rds) 1 gh w5 := hd 7 (by kernel_rfl) (by decide) _ rfl
      obtain ⟨xb, e8, hxb, Lx, hgx, hxlt⟩ : ∃ xb, a.tmps.getD 9 undef = .pointer (some ⟨xb, 0, none⟩) /\ wr.heap.size <= xb /\ Loc w5 xb [.int .i64 0, .slice none 0 0, .slice none 0 0, .slice none 0 0, .int .i64 0] /\ gh xb = 2 /\ xb < w5.heap.size := hd 9 (by kernel_rfl) (by decide) _ rfl
      obtain ⟨Z1', Z2', Z3', e1', e2', e3', e9, _⟩ : ∃ (Z1' Z2' Z3' : Option Addr) (e1' e2' e3' : Nat), a.tmps.getD 30 undef = .tuple #[.agg #[.int .i64 rn, .slice Z1' rcs.length e1', .slice Z2' rpl.length e2', .slice Z3' rds.length e3', .int .i64 rm], .int .i64 rk] /\ OwG wr.heap.size (fun w S => zai w S (.slice Z1' rcs.length e1') (.slice Z2' rpl.length e2') (.slice Z3' rds.length e3') rcs rpl rds) 1 gh w5 := hd 6 (by kernel_rfl) (by decide) _ rfl
      rw [ag0, ag1, ag2, ag3, ag4, ag5, ag6, ag7, ag8, ag10, ag11, ag12, ag13, ag14, ag15, ag16, ag17, ag18, ag19, ag20, ag21, ag22, ag23, ag24, ag25, ag26, ag27, ag28, ag29, ag39, ag40, ag41, ag42, ag43, ag44, ag45, e0, e8, e9]; change wpList _ _ _ [_, _, _] _ _; obtain ⟨T, owr, hnd9, hcl9⟩ := h2; have HX : Hid (∀ b ∈ T, b ∉ [xb]) := fun b hb hb' => by have h1 := (hcl9 b hb).2; simp at hb'; subst hb'; omega
      have fr : zbc wr.heap.size w5 T := ⟨hnd9, fun b hb => (hcl9 b hb).1⟩
      have OW := Lib.hid owr; have FR := Lib.hid fr; obtain ⟨x0, x1, x2, x3, x4⟩ := Lx.a5; obtain ⟨xf0, xf1, xf2, xf3, xf4⟩ := Lx.b5; clear hd hcl9 owr fr hgx hnd9 a0 a1 a2
      go_upto_region 9 with (fail)
      have hchb : Chg [xb] w5 (((((w5.setCell ⟨xb, 0, none⟩ (.int .i64 rn)).setCell ⟨xb, 1, none⟩ (.slice Z1 rcs.length e1)).setCell ⟨xb, 2, none⟩ (.slice Z2 rpl.length e2)).setCell ⟨xb, 3, none⟩ (.slice Z3 rds.length e3)).setCell ⟨xb, 4, none⟩ (.int .i64 rm)) := cS
      have Lb := (((((Lx.set (i := 0) (u := .int .i64 rn) (v := .int .i64 0) rfl).set (i := 1) (u := .slice Z1 rcs.length e1) (v := .slice none 0 0) rfl).set (i := 2) (u := .slice Z2 rpl.length e2) (v := .slice none 0 0) rfl).set (i := 3) (u := .slice Z3 rds.length e3) (v := .slice none 0 0) rfl).set (i := 4) (u := .int .i64 rm) (v := .int .i64 0) rfl); have q2 : Below wr.heap.size wr (((((w5.setCell ⟨xb, 0, none⟩ (.int .i64 rn)).setCell ⟨xb, 1, none⟩ (.slice Z1 rcs.length e1)).setCell ⟨xb, 2, none⟩ (.slice Z2 rpl.length e2)).setCell ⟨xb, 3, none⟩ (.slice Z3 rds.length e3)).setCell ⟨xb, 4, none⟩ (.int .i64 rm)) := Below.chg hJ hchb hJ.size (by simp; omega)
      have owr2 := OW.out.chg hchb HX.out; have fr2 := zaa FR.out (Nat.le_refl _) hchb.size; clear x0 x1 x2 x3 x4 xf0 xf1 xf2 xf3 xf4 Lx OW FR HX hchb; generalize ((((w5.setCell ⟨xb, 0, none⟩ (.int .i64 rn)).setCell ⟨xb, 1, none⟩ (.slice Z1 rcs.length e1)).setCell ⟨xb, 2, none⟩ (.slice Z2 rpl.length e2)).setCell ⟨xb, 3, none⟩ (.slice Z3 rds.length e3)).setCell ⟨xb, 4, none⟩ (.int .i64 rm) = wb at *
      have lo2 := hst.lo.below q2; obtain ⟨o0, o1, o2, o3, o4⟩ := lo2.a5; obtain ⟨f0, f1, f2, f3, f4⟩ := lo2.b5; obtain ⟨b0, b1, b2, b3, b4⟩ := Lb.a5
      simp only at o0 o1 o2 o3 o4
      have HST9 := Lib.hid (hst.next (t' := ⟨rn, rm, rcs, rpl, rds⟩) q2 owr2 fr2); clear owr2 fr2
      go_upto_region 10 with (fail)
      have hst9 := HST9.out
      simp only at hst9
      clear lo2 o0 o1 o2 o3 o4 f0 f1 f2 f3 f4 b0 b1 b2 b3 b4 HST9 hst Lb q2; generalize ((((wb.setCell ⟨go, 0, none⟩ (.int .i64 rn)).setCell ⟨go, 1, none⟩ (.slice Z1 rcs.length e1)).setCell ⟨go, 2, none⟩ (.slice Z2 rpl.length e2)).setCell ⟨go, 3, none⟩ (.slice Z3 rds.length e3)).setCell ⟨go, 4, none⟩ (.int .i64 rm) = w9 at *
      have hn9 := hst9.nums; have hz9 := hst9.below.size
      go_wp2_with (at_builtin; go_must (refine zae _ rfl (.tmp 40) (.tmp 42) _ rfl (w.heap.size + 1 + 1) 3 i0 _ 1 8 Tryz.underlying37 hi0 hz0' hz1' hz2' rfl (by omega) _ ns.length (ns.flatMap cInt) rfl (hn9.alloc _) _ 1 [.int .i64 rk] rfl (zap w9 #[.int .i64 rk] _ 1 1 rfl (by simp [maxLen])) (by simp [Value.oneCell']) (by simp [maxLen]; omega) (by omega) (by have := hst9.base; simp; omega) ?_); intro v3 w3 own3 gr3 at3; obtain ⟨A3, c3, rfl, _, _⟩ := (RdS.of_own own3).form)
      have hstN := (hst9.keep ((Below.refl _ _).alloc (Nat.le_refl _) (.cells #[.int .i64 rk] 3))).app (k := rk) own3 gr3 at3; go_wp2_with fail; go_roundw
      case rel => exact ⟨k + 1, ⟨rn, rm, rcs, rpl, rds⟩, ns ++ [rk], _, _, _, _, _, _, _, by omega, by go_num, HN.out, hstN, rfl⟩
      case measure => simp [intOf]; omega
    ·skip
     obtain rfl : k = acts.length := by omega
     have HF : Hid (zci ⟨n, m, cs, pl, ds⟩ acts = (t1, ns)) := by show _ = _; rw [zqa (t := ⟨n, m, cs, pl, ds⟩) HQ.out (by omega), <- hrf.out, List.take_length]
     obtain ⟨n1', m1', cs1, pl1, ds1⟩ := t1; have o0 := (hst.lo 0 _ rfl).1; have o1 := (hst.lo 1 _ rfl).1; have o2 := (hst.lo 2 _ rfl).1; have o3 := (hst.lo 3 _ rfl).1; have o4 := (hst.lo 4 _ rfl).1; have r0 := (hst.lr 0 _ rfl).1; have r1 := (hst.lr 1 _ rfl).1; have r2 := (hst.lr 2 _ rfl).1; have r3 := (hst.lr 3 _ rfl).1; have r4 := (hst.lr 4 _ rfl).1; have rf0 := (hst.lr 0 _ rfl).2; have rf1 := (hst.lr 1 _ rfl).2; have rf2 := (hst.lr 2 _ rfl).2; have rf3 := (hst.lr 3 _ rfl).2; have rf4 := (hst.lr 4 _ rfl).2; have hbs := hst.base; obtain ⟨S9, ow9, fr9, dj9⟩ := hst.own; have hnums := hst.nums; have hbel := hst.below; have OW := Lib.hid ow9; have FR := Lib.hid fr9; have DJ := Lib.hid dj9; have HNU := Lib.hid hnums; have hnv : ∀ b ∈ (Value.slice Av ns.length cv).ownBlock.toList, w.heap.size + 1 + 1 <= b /\ b < wr.heap.size := fun b hb => hnums.lt b (by simpa using hb)
     have HNV := Lib.hid hnv; clear ow9 fr9 dj9 hnums hnv hst HZ hrf
     simp only at o0 o1 o2 o3 o4
     go_wp2_with fail; have hch : Chg [w.heap.size + 1] wr (((((wr.setCell ⟨w.heap.size + 1, 0, none⟩ (.int .i64 n1')).setCell ⟨w.heap.size + 1, 1, none⟩ (.slice Y1 cs1.length y1)).setCell ⟨w.heap.size + 1, 2, none⟩ (.slice Y2 pl1.length y2)).setCell ⟨w.heap.size + 1, 3, none⟩ (.slice Y3 ds1.length y3)).setCell ⟨w.heap.size + 1, 4, none⟩ (.int .i64 m1')) := cS
     refine bodyPost_ret (v := .tuple #[.agg #[.int .i64 n1', .slice Y1 cs1.length y1, .slice Y2 pl1.length y2, .slice Y3 ds1.length y3, .int .i64 m1'], .slice Av ns.length cv]) (by simp [results, Tryz.results11, go_sem, *]) rfl (zmb HF.out ⟨_, _, _, S9, _, _, rfl, OW.out.chg hch (fun b hb hb' => by have := (FR.out.2 b hb).1; simp at hb'; omega), zaa FR.out (by omega) hch.size, ⟨zaj (za0 HNU.out hch (fun b hb hb' => by have := HNV.out b hb; simp at hb'; omega)) (Nat.zero_le _), rfl⟩, ⟨by cases Av <;> simp [Value.ownBlock], fun b hb => by have := HNV.out b hb; have := hch.size; omega⟩, fun b hb => (DJ.out b hb).2, Below.chg hbel hch hbel.size (by simp)⟩)
 ·skip
  have qN := q; clear c0 c1 c2 c3 c4; have hzq : W3.heap.size <= W4.heap.size := by have := q.size; (try simp at this); omega
  replace Lc := Lc.below q; replace Lr := Lr.below q; replace Lo := Lo.below q; replace OK := Lib.hid (OK.out.below q); replace FK := Lib.hid (zaa (w' := W4) FK.out (Nat.le_refl _) hzq); replace hb : Below w.heap.size w W4 := hb.trans (q.mono hb.size); clear q; replace hnm := zac hnm qN; clear qN; obtain ⟨o0, o1, o2, o3, o4⟩ := Lo.a5; obtain ⟨r0, r1, r2, r3, r4⟩ := Lr.a5; obtain ⟨rf0, rf1, rf2, rf3, rf4⟩ := Lr.b5; go_wp2_with fail; have hchr : Chg [w.heap.size + 1] W4 ((((((W4).setCell ⟨w.heap.size + 1, 0, none⟩ (.int .i64 n)).setCell ⟨w.heap.size + 1, 1, none⟩ (.slice B1 cs.length k1)).setCell ⟨w.heap.size + 1, 2, none⟩ (.slice B2 pl.length k2)).setCell ⟨w.heap.size + 1, 3, none⟩ (.slice B3 ds.length k3)).setCell ⟨w.heap.size + 1, 4, none⟩ (.int .i64 m)) := cS
  refine bodyPost_ret (v := .tuple #[.agg #[.int .i64 n, .slice B1 cs.length k1, .slice B2 pl.length k2, .slice B3 ds.length k3, .int .i64 m], .slice (some ⟨gn, 0, none⟩) 0 0]) (by simp [results, Tryz.results11, go_sem, *]) rfl (zmb (zkz (fun hh => absurd (show zau n m cs pl ds = true from hh.1) (by rw [hq.out]; simp))) ⟨_, _, _, S, _, [gn], rfl, OK.out.chg hchr (fun x hx hx' => DK.out x hx (by simp at hx'; subst hx'; simp)), zaa FK.out (by omega) hchr.size, ⟨zaj (za0 hnm hchr (by simp [Value.ownBlock]; omega)) (Nat.zero_le _), rfl⟩, ⟨by simp, fun x hx => by simp at hx; subst hx; have := hchr.size; omega⟩, fun x hx => by have := HSN.out x hx; simp; omega, Below.chg hb hchr hb.size (fun x hx => by simp at hx; omega)⟩)
theorem zzy {t u : Th} {ok : Bool} (h : t.ok = true) : (becF t u ok).1.ok = true := by
 unfold becF
 split
 ·rename_i h2; exact h2.2.2
 ·exact h
theorem zi1 {t u : Th} {ok : Bool} (h : t.ok = true) {r : Th × Bool} (e : r = becF t u ok) : r.1.ok = true := by
 subst e; exact zzy h
theorem zyk {t : Th} (h : t.ok = true) (a : RAct) : (zg3 t a).1.ok = true := by
 unfold zg3
 split
 ·exact zi1 (r := zk5 t a.2.1) h rfl
 split
 ·exact zi1 (r := zgc t a.2.1 a.2.2) h rfl
 split
 ·exact zi1 (r := zfz t a.2.1 true) h rfl
 split
 ·exact zi1 (r := zfz t a.2.1 false) h rfl
 split
 ·exact zi1 (r := putT t) h rfl
 split
 ·exact zi1 (r := zk4 t a.2.1) h rfl
 exact h
theorem z0i {t : Th} (h : t.ok = true) (a : RAct) : (doF t a).1.ok = true := by
 unfold doF
 split
 ·exact zyk h a
 ·exact h
end Go.Proofs.YtkbacoadejglkaaGreatDoor
