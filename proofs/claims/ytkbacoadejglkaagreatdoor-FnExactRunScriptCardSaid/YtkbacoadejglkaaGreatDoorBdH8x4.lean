/- Lemmas and contracts that this claim's theorem rests on. Conditions: those that each states. -/
import Derived.Lib.AtoiErrMem
import Derived.Lib.AtoiBound
import Derived.Stop.IfaceNil
import Derived.Test.YtkbacoadejglkaaGreatDoorBdH5x3
namespace Go.Proofs.YtkbacoadejglkaaGreatDoor
set_option maxHeartbeats 16000000
set_option maxRecDepth 100000
open Go.RowKit
def zog (w : World) : Prop := ∃ tp p, w.var? Tryz.prog "strconv.ErrSyntax" = some #[.iface tp p]
theorem zog.below {w w' : World} (h : zog w) (hb : Below w.heap.size w w') : zog w' := by
 obtain ⟨tp, p, h⟩ := h; refine ⟨tp, p, ?_⟩; unfold World.var? at *
 cases hg : Tryz.prog.globalNamed "strconv.ErrSyntax" with
 | none => rw [hg] at h; exact h
 | some g =>
  rw [hg] at h
  simp only [Option.bind_some] at h ⊢
  have hlt : g < w.heap.size := by
   rcases Nat.lt_or_ge g w.heap.size with h1 | h1
   ·exact h1
   ·rw [Array.getElem?_eq_none h1] at h; cases h
  rw [hb.block g hlt]; exact h
theorem znx {a b : ByteArray} (h : ¬ a = b) : (a.toList == b.toList) = false := by
 rw [beq_eq_false_iff_ne, ByteArray.toList_eq, ByteArray.toList_eq]; exact fun e => h (zfx e)
theorem zgb {s : ByteArray} {n : Int} {b : Bool} (h : pU s = (n, b)) : Ending.returned (.tuple #[.int .i64 n, .bool b]) = .returned (.tuple #[.int .i64 (pU s).1, .bool (pU s).2]) := by rw [h]
theorem zzo {s : ByteArray} (h : Lib.atoi s.data.toList = none) : pU s = (0, false) := by
 rcases zd8 s with ⟨n, _, h2, _⟩ | ⟨h2, _⟩
 ·rw [h2, zrv] at h; cases h
 ·exact h2
theorem zyt {s : ByteArray} {n : Int} (h0 : 0 <= n /\ n <= 1000000000) (h : numS n = s) : pU s = (n, true) := by
 obtain ⟨m, rfl⟩ := Int.eq_ofNat_of_zero_le h0.1; rw [<- h]; exact zor (by omega)
theorem zwr {s : ByteArray} {n : Int} (h : Lib.atoi s.data.toList = some n) (h2 : ¬ (0 <= n /\ n <= 1000000000 /\ numS n = s)) : pU s = (0, false) := by
 rcases zd8 s with ⟨m, h3, h4, _⟩ | ⟨h3, _⟩
 ·rw [h4, zrv] at h
  injection h with h
  exact absurd ⟨by omega, by omega, by rw [<- h, h4]⟩ h2
 ·exact h3
theorem ziw (s : ByteArray) (w : World) (hs : s.size <= 9223372036854775807) (ht : zhr w) (he : zog w) :
  Calls Tryz.prog 36 #[.string s] w fun e w' => e = .returned (.tuple #[.int .i64 (pU s).1, .bool (pU s).2]) /\ Below w.heap.size w w' := by
 have hif : Tryz.prog.isIface 91 = true := by kernel_rfl
 by_cases h10 : 10 < s.size
 ·go_enter Tryz.func36, Tryz.ntmps36
  go_wp2_with fail; go_ret2; exact ⟨zgb (zuw h10), Below.refl _ _⟩
 ·cases hat : Lib.atoi s.data.toList with
  | none =>
   obtain ⟨tp, p, hv⟩ := he; have HP := Lib.hid (zzo hat); have HA := Lib.hid (lib_strconv_Atoi_err_var s (by omega) hat tp p w hv)
   clear hat hv
   go_enter Tryz.func36, Tryz.ntmps36
   go_wp2_with fail; refine HA.out.mono ?_; rintro e w1 ⟨N, rfl, _, _, hb⟩; go_wp2_with fail; go_ret2; exact ⟨zgb HP.out, hb⟩
  | some n =>
   have hbd := Lib.atoi_bound hat (by simp; omega)
   have hn0 : -9223372036854775808 <= n := by omega
   have hn1 : n <= 9223372036854775807 := by omega
   have HA := Lib.hid (lib_strconv_Atoi s n (by omega) hat w)
   have HO : Hid (¬ (0 <= n /\ n <= 1000000000 /\ numS n = s) -> pU s = (0, false)) := fun h2 => zwr hat h2
   have hns := zb0 n (by omega)
   clear hat hbd
   go_enter Tryz.func36, Tryz.ntmps36
   go_wp2_with fail; refine HA.out.mono ?_; rintro e w1 ⟨rfl, t, rfl⟩; have hb := Lib.bytesWorld_below w 5 t; generalize Lib.bytesWorld w 5 t = w1 at *
   have ht1 := ht.below hb; clear HA; go_wp2_with fail; refine twoI (zbo _ _ _ _) (fun hc hc0 hc1 => ?_) (fun hc => ?_)
   ·go_wp2_with fail
    refine (zb3 n w1 hn0 hn1 ht1).mono ?_; rintro e w2 ⟨rfl, hb2⟩; have hbb := zab hb hb2
    by_cases hq : numS n = s
    ·have HG := Lib.hid (zyt ⟨hc0, hc1⟩ hq)
     subst hq; go_wp2_with fail; go_ret2; exact ⟨zgb HG.out, hbb⟩
    ·have HG := Lib.hid (HO.out (fun h => hq h.2.2))
     have hq1 := znx hq; clear hq; go_wp2_with fail; go_ret2; exact ⟨zgb HG.out, hbb⟩
   ·have HG := Lib.hid (HO.out (fun h => zku.1 hc.out ⟨h.1, h.2.1⟩))
    go_wp2_with fail; go_ret2; exact ⟨zgb HG.out, hb⟩
theorem zzm {s : ByteArray} {m : Nat} (h : Lib.decFrom 0 s.data.toList = some m) : pU s = if m <= 1000000000 /\ numS m = s then ((m : Int), true) else (0, false) := by
 by_cases hq : m <= 1000000000 /\ numS m = s
 ·rw [if_pos hq, <- hq.2]; exact zor hq.1
 ·rw [if_neg hq]
  rcases zd8 s with ⟨n, h1, h2, _⟩ | ⟨h1, _⟩
  ·have h3 : Lib.decFrom 0 s.data.toList = some n := by rw [h2, zc2, zdh]; exact zpt n
   rw [h] at h3
   injection h3 with h3
   exact absurd ⟨by omega, by rw [h3, h2]⟩ hq
  ·exact h1
theorem zri {s : ByteArray} {k : Nat} (hk : k < s.size) (h : ¬ (48 <= s[k].toNat /\ s[k].toNat <= 57)) : pU s = (0, false) := by
 rcases zd8 s with ⟨n, h1, h2, _⟩ | ⟨h1, _⟩
 ·exfalso
  apply h
  have h3 : s.data.toList = Lib.decDigits n := by rw [h2, zc2, zdh]
  have hm : s[k] ∈ s.data.toList := by
   have : s[k] = s.data.toList[k]'(by simpa using hk) := rfl
   rw [this]; exact List.getElem_mem _
  rw [h3] at hm; exact zgs n _ hm
 ·exact h1
theorem zi4 (s : ByteArray) (w : World) (hs : s.size <= 9223372036854775807) :
  Calls Tryz.prog 48 #[.string s] w fun e w' => e = .returned (.tuple #[.int .i64 (pU s).1, .bool (pU s).2]) /\ Below w.heap.size w w' := by
 by_cases h10 : 10 < s.size
 ·go_enter Tryz.func48, Tryz.ntmps48
  go_wp2_with fail; go_ret2; exact ⟨zgb (zuw h10), Below.refl _ _⟩
 ·go_enter Tryz.func48, Tryz.ntmps48
  go_wp2_with fail
  go_loop [4, 5] (fun q i => ∃ k m : Nat, k <= s.size /\ i = .int .i64 k /\ q = .int .i64 m /\ Hid (Lib.decFrom 0 (s.data.toList.take k) = some m)) (fun _ i => s.size - (intOf i).toNat)
  case atStart => exact ⟨0, 0, Nat.zero_le _, rfl, rfl, rfl⟩
  case round =>
   obtain ⟨k, m, hk, rfl, rfl, hd⟩ := hrel
   have hmb : m < 10000000001 := by
    have h1 := Lib.decFrom_lt _ 0 m hd.out; have h2 : (s.data.toList.take k).length <= 10 := by rw [List.length_take]; omega
    have h3 : 10 ^ (s.data.toList.take k).length <= 10 ^ 10 := Nat.pow_le_pow_right (by decide) h2
    have h4 : (10 : Nat) ^ 10 = 10000000000 := by decide
    omega
   by_cases hlt : k < s.size
   ·by_cases h1 : (s[k].toNat : Int) < 48
    ·have HP := Lib.hid (zri hlt (by omega))
     go_wp2_with fail; go_ret2; exact ⟨zgb HP.out, Below.refl _ _⟩
    ·by_cases h2 : 57 < (s[k].toNat : Int)
     ·have HP := Lib.hid (zri hlt (by omega))
      go_wp2_with fail; go_ret2; exact ⟨zgb HP.out, Below.refl _ _⟩
     ·have hst : Hid (Lib.decFrom 0 (s.data.toList.take (k + 1)) = some (m * 10 + (s[k].toNat - 48))) := Lib.decFrom_take s.data.toList k 0 m s[k] _ hd.out (by
       show s.data.toList[k]? = some (s.data.toList[k]'(by simpa using hlt))
       exact List.getElem?_eq_getElem _) (by unfold Lib.digitVal; rw [if_pos (by omega)])
      go_wp2_with fail; go_round
      case rel => exact ⟨k + 1, m * 10 + (s[k].toNat - 48), by omega, by go_num, zcn (by omega), hst⟩
      case measure => simp [intOf]; omega
   ·have hd1 := hd.out
    rw [List.take_of_length_le (by simp; omega)] at hd1
    have HD := Lib.hid (zzm hd1); clear hd1 hd
    by_cases hm : 1000000000 < m
    ·have HP : Hid (pU s = (0, false)) := by show _ = _; rw [HD.out, if_neg (by omega)]
     have hm1 : 1000000000 < (m : Int) := by omega
     go_wp2_with fail; go_ret2; exact ⟨zgb HP.out, Below.refl _ _⟩
    ·have hm1 : ¬ 1000000000 < (m : Int) := by omega
     go_wp2_with fail; refine (zaz m w (by omega)).mono ?_
     rintro e w2 ⟨rfl, hb2⟩
     by_cases hq : numS m = s
     ·have HP : Hid (pU s = ((m : Int), true)) := by show _ = _; rw [HD.out, if_pos ⟨by omega, hq⟩]
      subst hq; go_wp2_with fail; go_ret2; exact ⟨zgb HP.out, hb2⟩
     ·have HP : Hid (pU s = (0, false)) := by show _ = _; rw [HD.out, if_neg (fun h => hq h.2)]
      have hq1 := znx hq; clear hq; go_wp2_with fail; go_ret2; exact ⟨zgb HP.out, hb2⟩
theorem zs2 {s : ByteArray} (h : 0 < s.size) : s.data.toList.head? = some s[0] := by
 have hl : 0 < s.data.toList.length := by simpa using h
 rw [List.head?_eq_getElem?, List.getElem?_eq_getElem hl]; rfl
theorem zza (s : ByteArray) : 0 <= (pU s).1 /\ (pU s).1 <= 1000000000 := by
 rcases zd8 s with ⟨n, h1, _, h3⟩ | ⟨h3, _⟩ <;> rw [h3] <;> simp <;> omega
theorem zyo (s : ByteArray) : -1000000000 <= numF s /\ numF s <= 1000000000 := by
 have h1 := zza s; have h2 := zza (s.extract 1 s.size); unfold numF
 split <;> omega
theorem zlt (s : ByteArray) (w : World) (hs : s.size <= 9223372036854775807) :
  Calls Tryz.prog 24 #[.string s] w fun e w' => e = .returned (.int .i64 (numF s)) /\ Below w.heap.size w w' := by
 have hP := Lib.hid (fun x hx => zi4 x w hx)
 have hxs : (s.extract 1 s.size).size <= 9223372036854775807 := by rw [ByteArray.size_extract]; omega
 by_cases h1 : 1 < s.size
 ·by_cases h2 : s[0] = 45
  ·have HN : Hid (numF s = -(pU (s.extract 1 s.size)).1) := by show _ = _; unfold numF; rw [if_pos ⟨h1, by rw [zs2 (by omega), h2]⟩]
   have hbd := zza (s.extract 1 s.size); have hC := Lib.hid (hP.out _ hxs); have h3 : ((s[0].toNat : Int) == 45) = true := by rw [h2]; rfl
   clear h2; generalize (pU (s.extract 1 s.size)).1 = n at *
   generalize (pU (s.extract 1 s.size)).2 = b at *
   have hn0 : 0 <= n := hbd.1; have hn1 : n <= 1000000000 := hbd.2; clear hbd hP
   go_enter Tryz.func24, Tryz.ntmps24
   go_wp2_with fail; refine hC.out.mono ?_; rintro e w1 ⟨rfl, hb1⟩; go_wp2_with fail; go_ret; exact ⟨by rw [HN.out]; rfl, hb1⟩
  ·have HN : Hid (numF s = (pU s).1) := by show _ = _; unfold numF; rw [if_neg (fun h => h2 (by have := h.2; rw [zs2 (by omega)] at this; exact Option.some.inj this))]
   have hC := Lib.hid (hP.out _ hs); have h3 : ((s[0].toNat : Int) == 45) = false := by rw [beq_eq_false_iff_ne]; intro h; exact h2 (UInt8.toNat_inj.1 (by have : (45 : UInt8).toNat = 45 := rfl; omega))
   clear h2 hP; generalize (pU s).1 = n at *
   generalize (pU s).2 = b at *
   go_enter Tryz.func24, Tryz.ntmps24
   go_wp2_with fail; refine hC.out.mono ?_; rintro e w1 ⟨rfl, hb1⟩; go_wp2_with fail; go_ret; exact ⟨by rw [HN.out]; rfl, hb1⟩
 ·have HN : Hid (numF s = (pU s).1) := by show _ = _; unfold numF; rw [if_neg (fun h => h1 h.1)]
  have hC := Lib.hid (hP.out _ hs); clear hP; generalize (pU s).1 = n at *
  generalize (pU s).2 = b at *
  go_enter Tryz.func24, Tryz.ntmps24
  go_wp2_with fail; refine hC.out.mono ?_; rintro e w1 ⟨rfl, hb1⟩; go_wp2_with fail; go_ret; exact ⟨by rw [HN.out]; rfl, hb1⟩
theorem zrt (l : List Int) : l.flatMap cInt = l.map (Value.int .i64) := by
 induction l with
 | nil => rfl
 | cons x l ih => rw [List.flatMap_cons, ih]; rfl
def ppa (B : Nat) (kk na nb : Int) (gn on fl cn : Nat) (i : Nat) (v : Value) (_ : Nat -> Nat) (w : World) : Prop :=
 match i with
 | 0 => v = .int .i64 kk
 | 1 => v = .slice (some ⟨gn, on, none⟩) (fl - 1 + 2) cn
 | 2 => v = .pointer (some ⟨gn, on, none⟩)
 | 3 => v = .int .i64 na
 | 4 => v = .slice (some ⟨gn, on, none⟩) (fl - 1 + 2) cn
 | 5 => v = .pointer (some ⟨gn, (on + 1), none⟩)
 | 6 => v = .int .i64 nb
 | 7 => v = .agg #[.int .i64 kk, .int .i64 na, .int .i64 nb]
 | 8 => ∃ xb, v = .pointer (some ⟨xb, 0, none⟩) /\ B <= xb /\ Loc w xb [.int .i64 0, .int .i64 0, .int .i64 0] /\ xb < w.heap.size
 | _ => True
theorem zfv (s : ByteArray) (w : World) (hs : s.size <= 9223372036854775807) :
  Calls Tryz.prog 10 #[.string s] w fun e w' => e = .returned (.tuple #[.agg #[.int .i64 (prsA s).1.1, .int .i64 (prsA s).1.2.1, .int .i64 (prsA s).1.2.2], .bool (prsA s).2]) /\ Below w.heap.size w w' := by
 have hal : Below w.heap.size w (w.alloc (.cells #[.int .i64 0, .int .i64 0, .int .i64 0] 30)) := (Below.refl _ _).alloc (Nat.le_refl _) _; have L0 : Loc (w.alloc (.cells #[.int .i64 0, .int .i64 0, .int .i64 0] 30)) w.heap.size [.int .i64 0, .int .i64 0, .int .i64 0] := Loc.new w #[.int .i64 0, .int .i64 0, .int .i64 0] 30; have hF := ztb s; have hsz : ∀ f ∈ fldF s, f.size <= 600 := fun f hf => ztj hf
 go_enter Tryz.func10, Tryz.ntmps10
 go_wp2_with fail; refine (zc6 s _ hs).mono ?_; rintro e w1 ⟨v, rfl, hr, hb1⟩; have L := L0.below hb1; have hb2 := zab hal hb1; have hz := hb2.size; obtain ⟨g, hg⟩ : ∃ g, w.heap.size = g := ⟨_, rfl⟩; rw [hg] at L ⊢; obtain ⟨b0, b1, b2⟩ := L.a3; obtain ⟨f0, f1, f2⟩ := L.b3; have hgz : g < w1.heap.size := World.block_lt_of_cell? w1 _ b0; clear L0 hb1 hal; obtain ⟨A, c, rfl, h1, h2⟩ := hr.form; obtain ⟨i0, hi0, hz0, hzz1, hz2⟩ := info_parts zcd; generalize hfs : fldF s = fs at *
 by_cases hfb : fldB s = true
 ·rw [hfb]
  by_cases h13 : 1 <= fs.length /\ fs.length <= 3
  ·have hp : prsA s = ze6 fs (argA fs).1 (argA fs).2 (zli 1) := by
    unfold prsA spcA; rw [if_pos hfb, hfs, if_neg (by omega)]; rfl
   have HP := Lib.hid hp; have hi := zbg.2 (show (1 : Int) <= (fs.length : Int) /\ (fs.length : Int) <= 3 by omega)
   clear hp; obtain ⟨g0, off0, rfl, hg0, hc0⟩ := hr.cell zey (by omega) (show 0 < fs.length by omega)
   have k0 := hc0 0 _ rfl
   simp only [Nat.add_zero, Nat.zero_mul] at k0
   have hown0 := World.ownsRow_made (size := 1) (e := 3) w1 #[] 0 (Nat.le_refl _) (by simp [maxLen]) rfl
   have hb0 : Below w1.heap.size w1 (w1.alloc (.cells #[] 3)) := (Below.refl _ _).alloc (Nat.le_refl _) _
   go_wp2_with (go_at_call 23; refine (zbv _ _ _ _).mono ?_; rintro e wq ⟨rfl, rfl⟩; rw [hi])
   go_loopw [6, 7, 8] (fun q r i wr => ∃ k : Nat, 1 <= k /\ k <= fs.length /\ i = .int .i64 k /\ q = .string (jnB (fs.take k)) /\ (jnB (fs.take k)).size <= 601 * k /\ wr.ownsRow w1.heap.size 3 1 r (k - 1) ((nF (fs.take k)).flatMap cInt) /\ Below w1.heap.size w1 wr) (fun _ _ i _ => fs.length - (intOf i).toNat)
   case atStart =>
    refine ⟨1, Nat.le_refl _, h13.1, rfl, ?_, ?_, ?_, hb0⟩
    ·rw [znp (by omega)]
    ·rw [znp (by omega)]; have := hsz _ (List.getElem_mem (show 0 < fs.length by omega)); omega
    ·rw [zvg]; exact hown0
   case round =>
    obtain ⟨k, h1k, hk, rfl, rfl, hq, hown, hb⟩ := hrel; clear hown0 hb0 k0 hc0; have hz1 := hb.size
    by_cases hlt : k < fs.length
    ·obtain ⟨g1, off1, hA1, hg1, hc1⟩ := (hr.below hb).cell zey (by omega) hlt
     obtain ⟨rfl, rfl⟩ : g0 = g1 /\ off0 = off1 := by simpa using hA1
     clear hA1; have k1 := hc1 0 _ rfl
     simp only [Nat.add_zero, Nat.mul_one] at k1
     clear hc1; have hjn := Lib.hid (zvy (by omega) hlt)
     have hnf := Lib.hid (zyj (by omega) hlt)
     have hfk := hsz _ (List.getElem_mem hlt); have hC := Lib.hid (fun W => zlt fs[k] W (by omega))
     have hbdN := zyo fs[k]; have hn1 : (jnB (fs.take k) ++ (⟨#[32]⟩ : ByteArray)).size = (jnB (fs.take k)).size + 1 := by rw [ByteArray.size_append]; rfl
     have hz4 : ¬ 9223372036854775807 < (jnB (fs.take k)).size + 1 := by omega
     have hz5 : ¬ 9223372036854775807 < (jnB (fs.take k) ++ (⟨#[32]⟩ : ByteArray)).size + fs[k].size := by omega
     obtain ⟨Aq, cq, rfl, _, _⟩ := (RdS.of_own hown).form; go_wp2_with fail; refine (hC.out wr).mono ?_; rintro e w2 ⟨rfl, hb3⟩; have hb4 := zab hb hb3; have hown2 := zac hown hb3; have hz6 := hb4.size; clear hC hown; generalize numF fs[k] = n at *
     go_wp2_with (at_builtin; go_must (refine zaf _ rfl (.tmp 44) (.tmp 50) _ rfl w1.heap.size 3 i0 _ 1 8 Tryz.underlying37 hi0 hz0 hzz1 hz2 rfl (by omega) _ (k - 1) ((nF (fs.take k)).flatMap cInt) rfl (hown2.alloc _) _ 1 [.int .i64 n] rfl (zap w2 #[.int .i64 n] _ 1 1 rfl (by simp [maxLen])) (by simp [Value.oneCell']) (by simp [maxLen]; omega) (by omega) (by simp; omega) ?_); intro v3 w3 hown3 hgr3)
     have hb5 : Below w1.heap.size w1 w3 := (hb4.alloc hb4.size _).trans (zag (hown2.alloc (.cells #[.int .i64 n] 3)) hgr3 (by simp; omega))
     have hjs : (jnB (fs.take (k + 1))).size <= 601 * (k + 1) := by rw [hjn.out, ByteArray.size_append]; omega
     clear hown2 hgr3; go_wp2_with fail; go_roundw
     case rel => exact ⟨k + 1, by omega, by omega, by go_num, congrArg Value.string hjn.out.symm, hjs, by rw [hnf.out, List.flatMap_append, show k + 1 - 1 = k - 1 + 1 by omega]; exact hown3, hb5⟩
     case measure => simp [intOf]; omega
    ·have hke : k = fs.length := by omega
     subst hke; rw [List.take_length] at hown hq ⊢; have hz3 := hb.size; have hnl : (nF fs).length = fs.length - 1 := by simp [nF]
     obtain ⟨Aq, cq, rfl, _, _⟩ := (RdS.of_own hown).form
     go_wp2_with (at_builtin; go_must (refine zaf _ rfl (.tmp 52) (.tmp 53) _ rfl w1.heap.size 3 i0 _ 1 8 Tryz.underlying37 hi0 hz0 hzz1 hz2 rfl (by omega) _ (fs.length - 1) ((nF fs).flatMap cInt) rfl (hown.alloc _) _ 2 [.int .i64 0, .int .i64 0] rfl (zap wr #[.int .i64 0, .int .i64 0] _ 1 2 rfl (by simp [maxLen])) (by simp [Value.oneCell']) (by simp [maxLen]; omega) (by omega) (by simp; omega) ?_); intro v3 w3 hown3 hgr3)
     have hb5 : Below w1.heap.size w1 w3 := (hb.alloc hb.size _).trans (zag (hown.alloc (.cells #[.int .i64 0, .int .i64 0] 3)) hgr3 (by simp; omega))
     obtain ⟨A3, cn, rfl, hcn1, hcn2⟩ := (RdS.of_own hown3).form; obtain ⟨gn, on, rfl, hgn, hcell⟩ := RdS.at_ (RdS.of_own hown3) (by omega) (by omega)
     have hA := nF_a h13.1 h13.2; have hfl : ((nF fs).flatMap cInt ++ [Value.int .i64 0, .int .i64 0]) = (nF fs ++ [0, 0]).flatMap cInt := by rw [List.flatMap_append]; rfl
     have n0 : w3.cell? ⟨gn, on + 0, none⟩ = some (.int .i64 (argA fs).1) := hcell 0 _ (by rw [hfl, zrt, List.getElem?_map, hA.1]; rfl)
     have n1 : w3.cell? ⟨gn, on + 1, none⟩ = some (.int .i64 (argA fs).2) := hcell 1 _ (by rw [hfl, zrt, List.getElem?_map, hA.2]; rfl)
     rw [Nat.add_zero] at n0; have HJB := Lib.hid (⟨hF, h13⟩ : FB fs /\ 1 <= fs.length /\ fs.length <= 3); have L3 := L.below hb5; have hz5 := hb5.size; clear hcell hfl hA hown hgr3 hown3 hnl hr hzz1 hF; generalize (argA fs).1 = na at *
     generalize (argA fs).2 = nb at *
     clear b0 b1 b2 f0 f1 f2; go_wp2_with fail
     go_loopw [9] (fun i wr => ∃ kk : Nat, 1 <= kk /\ kk <= 8 /\ i = .int .i64 kk /\ Hid (prsA s = ze6 fs na nb (zli kk)) /\ Below w3.heap.size w3 wr) (fun i _ => 8 - (intOf i).toNat)
     case atStart => exact ⟨1, Nat.le_refl _, by omega, rfl, HP, Below.refl _ _⟩
     case round =>
      obtain ⟨kk, hk1, hk8, rfl, HQ, hb6⟩ := hrel; replace n0 := za5 hb6 n0; replace n1 := za5 hb6 n1; replace L3 := L3.below hb6; have hz6 := hb6.size; clear HP
      by_cases hle : kk <= 7
      ·have hk7 : (kk : Int) <= 7 := by omega
       have hp0 : (0 : Int) < ((fs.length - 1 + 2 : Nat) : Int) := by omega
       have hp1 : (1 : Int) < ((fs.length - 1 + 2 : Nat) : Int) := by omega
       obtain ⟨t, hts⟩ : ∃ t, actS ((kk : Int), na, nb) = t := ⟨_, rfl⟩; obtain ⟨bb, hbb⟩ : ∃ bb, actB (kk : Int) na nb = bb := ⟨_, rfl⟩; have hC := fun W => zin (kk : Int) na nb W
       rw [hts, hbb] at hC; have HC := Lib.hid hC; have HTS := Lib.hid hts; have HBB := Lib.hid hbb; clear hC hts hbb
       go_upto_region 15 with (fail)
       refine zba (n := 80) 9 (by kernel_rfl) rfl (by kernel_rfl) (fun w' => Below wr.heap.size wr w') (fun _ => 0) (ppa wr.heap.size kk na nb gn on fs.length cn) (Below.refl _ _).drew ?_ ?_ ?_
       ·intro i v gh gh' w1 w2 hp hJ hb' hg
        match i, hp with
        | 0, hp => exact hp
        | 1, hp => exact hp
        | 2, hp => exact hp
        | 3, hp => exact hp
        | 4, hp => exact hp
        | 5, hp => exact hp
        | 6, hp => exact hp
        | 7, hp => exact hp
        | 8, hp => exact (by obtain ⟨xb, h1, h2, h3, h4⟩ := hp; exact ⟨xb, h1, h2, h3.below hb', Nat.lt_of_lt_of_le h4 hb'.size⟩)
        | _ + 9, _ => trivial
       ·refine ⟨?_, ?_, ?_, ?_, ?_, ?_, ?_, ?_, ?_, trivial⟩
        ·intro a gh w5 hag hJ hd
         have ag9 : a.tmps.getD 9 undef = .int .i64 kk := hag.k 9
         clear hag; go_wp2_with fail; exact mp0 hJ rfl
        ·intro a gh w5 hag hJ hd
         have ag7 : a.tmps.getD 7 undef = .slice (some ⟨gn, on, none⟩) (fs.length - 1 + 2) cn := hag.k 7
         clear hag; go_wp2_with fail; exact mp0 hJ rfl
        ·intro a gh w5 hag hJ hd
         clear hag; have e0 : a.tmps.getD 60 undef = .slice (some ⟨gn, on, none⟩) (fs.length - 1 + 2) cn := hd 1 (by kernel_rfl) _ rfl
         go_wp2_with fail; exact mp0 hJ rfl
        ·intro a gh w5 hag hJ hd
         clear hag; have e0 : a.tmps.getD 61 undef = .pointer (some ⟨gn, on, none⟩) := hd 2 (by kernel_rfl) _ rfl
         have k0 := za5 hJ n0; go_wp2_with fail; exact mp0 hJ rfl
        ·intro a gh w5 hag hJ hd
         have ag7 : a.tmps.getD 7 undef = .slice (some ⟨gn, on, none⟩) (fs.length - 1 + 2) cn := hag.k 7
         clear hag; go_wp2_with fail; exact mp0 hJ rfl
        ·intro a gh w5 hag hJ hd
         clear hag; have e0 : a.tmps.getD 63 undef = .slice (some ⟨gn, on, none⟩) (fs.length - 1 + 2) cn := hd 4 (by kernel_rfl) _ rfl
         go_wp2_with fail; exact mp0 hJ rfl
        ·intro a gh w5 hag hJ hd
         clear hag; have e0 : a.tmps.getD 64 undef = .pointer (some ⟨gn, (on + 1), none⟩) := hd 5 (by kernel_rfl) _ rfl
         have k0 := za5 hJ n1; go_wp2_with fail; exact mp0 hJ rfl
        ·intro a gh w5 hag hJ hd
         have e0 : a.tmps.getD 59 undef = .int .i64 kk := hd 0 (by kernel_rfl) _ rfl
         have e1 : a.tmps.getD 62 undef = .int .i64 na := hd 3 (by kernel_rfl) _ rfl
         have e2 : a.tmps.getD 65 undef = .int .i64 nb := hd 6 (by kernel_rfl) _ rfl
         rw [zd1 80 hag.size hag.defers]; simp only [gd, Nat.reduceAdd, e0, e1, e2]; clear hag; go_wp2_with fail; exact mp0 hJ rfl
        ·intro a gh w5 hag hJ hd
         clear hag; go_wp2_with fail; exact ⟨rfl, _, rfl, ⟨w5.heap.size, rfl, hJ.size, Loc.new w5 #[.int .i64 0, .int .i64 0, .int .i64 0] 30, by simp⟩, hJ.alloc hJ.size _, (Below.refl _ _).alloc (Nat.le_refl _) _⟩
       ·intro a gh w5 hag hJ hd
        have ag0 := hag.k 0
        have ag1 := hag.k 1
        have ag2 := hag.k 2
        have ag3 := hag.k 3
        have ag4 := hag.k 4
        have ag5 := hag.k 5
        have ag6 := hag.k 6
        have ag7 : a.tmps.getD 7 undef = .slice (some ⟨gn, on, none⟩) (fs.length - 1 + 2) cn := hag.k 7
        have ag8 := hag.k 8
        have ag9 : a.tmps.getD 9 undef = .int .i64 kk := hag.k 9
        have ag11 := hag.k 11
        have ag12 := hag.k 12
        have ag13 := hag.k 13
        have ag14 := hag.k 14
        have ag15 := hag.k 15
        have ag16 := hag.k 16
        have ag17 := hag.k 17
        have ag18 := hag.k 18
        have ag19 := hag.k 19
        have ag20 := hag.k 20
        have ag21 := hag.k 21
        have ag22 := hag.k 22
        have ag23 := hag.k 23
        have ag24 := hag.k 24
        have ag25 := hag.k 25
        have ag26 := hag.k 26
        have ag27 := hag.k 27
        have ag28 := hag.k 28
        have ag29 := hag.k 29
        have ag30 := hag.k 30
        have ag31 := hag.k 31
        have ag32 := hag.k 32
        have ag33 := hag.k 33
        have ag34 := hag.k 34
        have ag35 := hag.k 35
        have ag36 := hag.k 36
        have ag37 := hag.k 37
        have ag38 := hag.k 38
        have ag39 := hag.k 39
        have ag40 := hag.k 40
        have ag41 := hag.k 41
        have ag42 := hag.k 42
        have ag43 := hag.k 43
        have ag44 := hag.k 44
        have ag45 := hag.k 45
        have ag46 := hag.k 46
        have ag47 := hag.k 47
        have ag48 := hag.k 48
        have ag49 := hag.k 49
        have ag50 := hag.k 50
        have ag51 := hag.k 51
        have ag52 := hag.k 52
        have ag53 := hag.k 53
        have ag54 := hag.k 54
        have ag55 := hag.k 55
        have ag56 := hag.k 56
        have ag57 := hag.k 57
        have ag58 := hag.k 58
        have ag67 := hag.k 67
        have ag68 := hag.k 68
        have ag69 := hag.k 69
        have ag70 := hag.k 70
        have ag71 := hag.k 71
        have ag72 := hag.k 72
        have ag73 := hag.k 73
        have ag74 := hag.k 74
        have ag75 := hag.k 75
        have ag76 := hag.k 76
        have ag77 := hag.k 77
        have ag78 := hag.k 78
        have ag79 := hag.k 79
        rw [zd1 80 hag.size hag.defers]; simp only [gd, Nat.reduceAdd]; clear hag; have e66 : a.tmps.getD 66 undef = .agg #[.int .i64 kk, .int .i64 na, .int .i64 nb] := hd 7 (by kernel_rfl) _ rfl
        obtain ⟨xb, e10, hxb, Lx, hxlt⟩ : ∃ xb, a.tmps.getD 10 undef = .pointer (some ⟨xb, 0, none⟩) /\ wr.heap.size <= xb /\ Loc w5 xb [.int .i64 0, .int .i64 0, .int .i64 0] /\ xb < w5.heap.size := hd 8 (by kernel_rfl) _ rfl
        rw [ag0, ag1, ag2, ag3, ag4, ag5, ag6, ag7, ag8, ag9, ag11, ag12, ag13, ag14, ag15, ag16, ag17, ag18, ag19, ag20, ag21, ag22, ag23, ag24, ag25, ag26, ag27, ag28, ag29, ag30, ag31, ag32, ag33, ag34, ag35, ag36, ag37, ag38, ag39, ag40, ag41, ag42, ag43, ag44, ag45, ag46, ag47, ag48, ag49, ag50, ag51, ag52, ag53, ag54, ag55, ag56, ag57, ag58, ag67, ag68, ag69, ag70, ag71, ag72, ag73, ag74, ag75, ag76, ag77, ag78, ag79, e66, e10]; change wpList _ _ _ [_] _ _; have hgx : g ≠ xb := by omega
        obtain ⟨c0, c1, c2⟩ := Lx.a3; obtain ⟨d0, d1, d2⟩ := Lx.b3; have LX := ((Lx.set (i := 0) (u := .int .i64 kk) rfl).set (i := 1) (u := .int .i64 na) rfl).set (i := 2) (u := .int .i64 nb) rfl; have LG := (((L3.below hJ).far (g := xb) (i := 0) (u := .int .i64 kk) hgx).far (g := xb) (i := 1) (u := .int .i64 na) hgx).far (g := xb) (i := 2) (u := .int .i64 nb) hgx; have hbJ := zab hb6 hJ
        have hbX : Below w3.heap.size w3 (((w5.setCell ⟨xb, 0, none⟩ (.int .i64 kk)).setCell ⟨xb, 1, none⟩ (.int .i64 na)).setCell ⟨xb, 2, none⟩ (.int .i64 nb)) := by
         have hx3 : w3.heap.size <= xb := by omega
         exact Below.chg hbJ (S := [xb]) (cS) hbJ.size (by simpa using hx3)
        obtain ⟨x0, x1, x2⟩ := LX.a3; clear hd; go_wp2_with fail; refine (HC.out _).mono ?_; rintro e w6 ⟨rfl, hb7⟩; have hb8 := zab hbX hb7; replace LX := LX.below hb7; replace LG := LG.below hb7; clear c0 c1 c2 d0 d1 d2 x0 x1 x2 hb7 hbX hbJ Lx HC n0 n1
        cases bb
        ·have HQ2 : Hid (prsA s = ze6 fs na nb (zli (kk + 1))) := HQ.out.trans (zwk hk1 hle HBB.out)
         go_wp2_with fail; go_roundw
         case rel => exact ⟨kk + 1, by omega, by omega, by go_num, HQ2, hb8⟩
         case measure => simp [intOf]; omega
        ·by_cases heq : t = jnB fs
         ·have HY : Hid (prsA s = (((kk : Int), na, nb), true)) := HQ.out.trans (zy1 hk1 hle HBB.out HJB.out.1 (HTS.out.trans heq))
          subst heq; obtain ⟨x0, x1, x2⟩ := LX.a3; obtain ⟨c0, c1, c2⟩ := LG.a3; obtain ⟨d0, d1, d2⟩ := LG.b3; have hbT : Below w.heap.size w w6 := zab hb2 (zab hb5 hb8); go_wp2_with fail; refine bodyPost_ret (v := .tuple #[.agg #[.int .i64 kk, .int .i64 na, .int .i64 nb], .bool true]) (by simp [results, Tryz.results10, go_sem, c0, c1, c2]) rfl ⟨by rw [HY.out], by subst hg; (repeat' (first | exact Below.refl _ _ | refine qS ?_ _ | refine qA ?_ _ | refine qD ?_ | refine qN ?_ _ | refine qT ?_ (by assumption)))⟩
         ·have HQ2 : Hid (prsA s = ze6 fs na nb (zli (kk + 1))) := HQ.out.trans (zwu hk1 hle HJB.out.1 (fun h => heq (HTS.out.symm.trans h)))
          have hne := znx heq; go_wp2_with fail; go_roundw
          case rel => exact ⟨kk + 1, by omega, by omega, by go_num, HQ2, hb8⟩
          case measure => simp [intOf]; omega
      ·obtain rfl : kk = 8 := by omega
       have HY : Hid (prsA s = ((0, 0, 0), false)) := HQ.out; obtain ⟨c0, c1, c2⟩ := L3.a3; obtain ⟨d0, d1, d2⟩ := L3.b3; have hbT : Below w.heap.size w wr := zab hb2 (zab hb5 hb6); go_wp2_with fail; refine bodyPost_ret (v := .tuple #[.agg #[.int .i64 0, .int .i64 0, .int .i64 0], .bool false]) (by simp [results, Tryz.results10, go_sem, c0, c1, c2]) rfl ⟨by rw [HY.out], by subst hg; (repeat' (first | exact Below.refl _ _ | refine qS ?_ _ | refine qA ?_ _ | refine qD ?_ | refine qN ?_ _ | refine qT ?_ (by assumption)))⟩
  ·have hp : prsA s = ((0, 0, 0), false) := by
    unfold prsA spcA; rw [if_pos hfb, hfs, if_pos (by omega)]
   have HP := Lib.hid hp; have hi := zku.2 (show ¬ ((1 : Int) <= (fs.length : Int) /\ (fs.length : Int) <= 3) by omega)
   clear hp
   go_wp2_with (go_at_call 23; refine (zbv _ _ _ _).mono ?_; rintro e wq ⟨rfl, rfl⟩; rw [hi])
   refine bodyPost_ret (v := .tuple #[.agg #[.int .i64 0, .int .i64 0, .int .i64 0], .bool false]) (by simp [results, Tryz.results10, go_sem, b0, b1, b2]) rfl ⟨by rw [HP.out], by subst hg; (repeat' (first | exact Below.refl _ _ | refine qS ?_ _ | refine qA ?_ _ | refine qD ?_ | refine qN ?_ _ | refine qT ?_ (by assumption)))⟩
 ·have hp : prsA s = ((0, 0, 0), false) := by unfold prsA; rw [if_neg hfb]
  have HP := Lib.hid hp; rw [Bool.not_eq_true] at hfb; rw [hfb]; clear hp; go_wp2_with fail; refine bodyPost_ret (v := .tuple #[.agg #[.int .i64 0, .int .i64 0, .int .i64 0], .bool false]) (by simp [results, Tryz.results10, go_sem, b0, b1, b2]) rfl ⟨by rw [HP.out], by subst hg; (repeat' (first | exact Below.refl _ _ | refine qS ?_ _ | refine qA ?_ _ | refine qD ?_ | refine qN ?_ _ | refine qT ?_ (by assumption)))⟩
def zm6 : List ByteArray := [⟨#[]⟩, zi8, zfk, zfh, ziv, zd3, zir, wWhy]
def zi6 (s : ByteArray) : Nat -> Int
  | 0 => 0
  | k + 1 => if zm6.getD k ByteArray.empty = s then (k : Int) else zi6 s k
theorem zue (s : ByteArray) : zi6 s 8 = zb8 s := by
  by_cases h : s = ⟨#[]⟩ ∨ s = zi8 ∨ s = zfk ∨ s = zfh ∨ s = ziv ∨ s = zd3 ∨ s = zir ∨ s = wWhy
  · rcases h with rfl | rfl | rfl | rfl | rfl | rfl | rfl | rfl <;> decide
  · simp only [not_or] at h
    obtain ⟨h0, h1, h2, h3, h4, h5, h6, h7⟩ := h; unfold zb8; rw [if_neg h1, if_neg h2, if_neg h3, if_neg h4, if_neg h5, if_neg h6, if_neg h7]; have e : ∀ {a : ByteArray}, ¬ s = a -> ¬ a = s := fun h q => h q.symm
    simp only [zi6, zm6, List.getD_cons_zero, List.getD_cons_succ]
    rw [if_neg (e h7), if_neg (e h6), if_neg (e h5), if_neg (e h4), if_neg (e h3), if_neg (e h2), if_neg (e h1), if_neg (e h0)]
theorem zyf {s : ByteArray} {k : Nat} {x : ByteArray} (hx : zm6[k]? = some x) (h : x = s) : zi6 s (k + 1) = k := by
  rw [zi6, List.getD_eq_getElem?_getD, hx]; exact if_pos h
theorem zya {s : ByteArray} {k : Nat} {x : ByteArray} (hx : zm6[k]? = some x) (h : ¬ x = s) : zi6 s (k + 1) = zi6 s k := by
  rw [zi6, List.getD_eq_getElem?_getD, hx]; exact if_neg h
def aTo (fs : List ByteArray) (k : Nat) : Int := if 1 <= k then (pU (fs.getD 1 ByteArray.empty)).1 else 0
def bTo (fs : List ByteArray) (k : Nat) : Int := if 2 <= k then (pU (fs.getD 2 ByteArray.empty)).1 else 0
theorem zwn {fs : List ByteArray} (h3 : fs.length <= 3) {k : Nat} (hk : k + 1 < fs.length) (h : (pU fs[k + 1]).2 = false) : impA fs = ((0, 0, 0), false) := by
  match fs, h3, k, hk, h with
  | [_, x], _, 0, _, h => exact if_neg (fun q => by rw [show (pU x).2 = false from h] at q; cases q)
  | [_, x, y], _, 0, _, h => exact if_neg (fun q => by have := q.1; rw [show (pU x).2 = false from h] at this; cases this)
  | [_, x, y], _, 1, _, h => exact if_neg (fun q => by have := q.2; rw [show (pU y).2 = false from h] at this; cases this)
  | [], _, _, hk, _ => exact absurd hk (by simp)
  | [_], _, _, hk, _ => exact absurd hk (by simp)
  | [_, _], _, k + 1, hk, _ => exact absurd hk (by simp)
  | [_, _, _], _, k + 2, hk, _ => exact absurd hk (by simp)
  | _ :: _ :: _ :: _ :: _, h3, _, _, _ => exact absurd h3 (by simp)
theorem zwl {fs : List ByteArray} (h0 : 0 < fs.length) (h3 : fs.length <= 3) (h : ∀ k : Nat, ∀ x, 1 <= k -> fs[k]? = some x -> (pU x).2 = true) : impA fs = finA (zb8 fs[0], aTo fs (fs.length - 1), bTo fs (fs.length - 1)) fs := by
  match fs, h0, h3, h with
  | [_], _, _, _ => rfl
  | [_, x], _, _, h => exact if_pos (h 1 x (by omega) rfl)
  | [_, x, y], _, _, h => exact if_pos ⟨h 1 x (by omega) rfl, h 2 y (by omega) rfl⟩
  | [], h0, _, _ => exact absurd h0 (by simp)
  | _ :: _ :: _ :: _ :: _, _, h3, _ => exact absurd h3 (by simp)
theorem zxz {fs : List ByteArray} (h : 1 < fs.length) : aTo fs 1 = (pU fs[1]).1 := by
  unfold aTo; rw [if_pos (Nat.le_refl _), List.getD_eq_getElem?_getD, List.getElem?_eq_getElem h]; rfl
theorem zy7 {fs : List ByteArray} (h : 2 < fs.length) : bTo fs 2 = (pU fs[2]).1 := by
  unfold bTo; rw [if_pos (Nat.le_refl _), List.getD_eq_getElem?_getD, List.getElem?_eq_getElem h]; rfl
theorem zx5 (fs : List ByteArray) : baL (Lib.join (fs.map (fun s => s.data.toList)) [32]) = jnB fs := by
  rw [zmm]; rfl
theorem zvw {fs : List ByteArray} (h3 : fs.length <= 3) (h : ∀ f ∈ fs, f.size <= 600) : (jnB fs).size <= 2000 := by
  have hs : (⟨#[32]⟩ : ByteArray).size = 1 := rfl
  match fs, h3, h with
  | [], _, _ => exact Nat.zero_le _
  | [a], _, h => rw [zmv]; have := h a List.mem_cons_self; omega
  | [a, b], _, h =>
    have e := zkb a b []; rw [List.nil_append, zmv] at e; rw [e, ByteArray.size_append, ByteArray.size_append, hs]; have := h a (by simp)
    have := h b (by simp)
    omega
  | [a, b, c], _, h =>
    have e := zkb a c [b]; have e2 := zkb a b []; rw [List.nil_append, zmv] at e2; rw [List.singleton_append] at e; rw [e, e2, ByteArray.size_append, ByteArray.size_append, ByteArray.size_append, ByteArray.size_append, hs]; have := h a (by simp)
    have := h b (by simp)
    have := h c (by simp)
    omega
  | _ :: _ :: _ :: _ :: _, h3, _ => exact absurd h3 (by simp)
theorem zwt {s : ByteArray} (h : fldB s = true) : prsA s = impA (fldF s) := by
  unfold prsA; rw [if_pos h, zup]
theorem zj1 (s : ByteArray) (w : World) (hs : s.size <= 9223372036854775807) (ht : zhr w) (he : zog w) :
    Calls Tryz.prog 17 #[.string s] w fun e w' => e = .returned (.tuple #[.agg #[.int .i64 (prsA s).1.1, .int .i64 (prsA s).1.2.1, .int .i64 (prsA s).1.2.2], .bool (prsA s).2]) /\ Below w.heap.size w w' := by
  have hal : Below w.heap.size w (w.alloc (.cells #[.int .i64 0, .int .i64 0, .int .i64 0] 30)) := (Below.refl _ _).alloc (Nat.le_refl _) _; have L0 : Loc (w.alloc (.cells #[.int .i64 0, .int .i64 0, .int .i64 0] 30)) w.heap.size [.int .i64 0, .int .i64 0, .int .i64 0] := Loc.new w #[.int .i64 0, .int .i64 0, .int .i64 0] 30; have hF := ztb s; have hsz : ∀ f ∈ fldF s, f.size <= 600 := fun f hf => ztj hf
  go_enter Tryz.func17, Tryz.ntmps17
  go_wp2_with fail; refine (zee s _ hs).mono ?_; rintro e w1 ⟨v, rfl, hr, hb1⟩; have L := L0.below hb1; have hb2 := zab hal hb1; have hz := hb2.size; have ht1 := ht.below hb2; have he1 := he.below hb2; obtain ⟨g, hg⟩ : ∃ g, w.heap.size = g := ⟨_, rfl⟩; rw [hg] at L ⊢; obtain ⟨b0, b1, b2⟩ := L.a3; obtain ⟨f0, f1, f2⟩ := L.b3; have hgz : g < w1.heap.size := World.block_lt_of_cell? w1 _ b0; clear L0 hb1 hal; obtain ⟨A, c, rfl, h1, h2⟩ := hr.form
  by_cases hfb : fldB s = true
  · have hpi := zwt hfb
    generalize hfs : fldF s = fs at *
    rw [hfb]
    by_cases h13 : 1 <= fs.length /\ fs.length <= 3
    · have HP := Lib.hid hpi
      have HFB := Lib.hid hF; have hi := zbg.2 (show (1 : Int) <= (fs.length : Int) /\ (fs.length : Int) <= 3 by omega)
      clear hpi hF; obtain ⟨g0, off0, rfl, hg0, hc0⟩ := hr.cell zey (by omega) (show 0 < fs.length by omega)
      have k0 := hc0 0 _ rfl
      simp only [Nat.add_zero, Nat.zero_mul] at k0
      clear hc0
      go_wp2_with (go_at_call 35; refine (zbo _ _ _ _).mono ?_; rintro e wq ⟨rfl, rfl⟩; rw [hi])
      generalize hfz : fs[0] = fz at *
      have HFZ := Lib.hid hfz; clear hfz; have hb3 : Below w1.heap.size w1 ((w1.alloc (.cells #[.string ⟨#[]⟩, .string ⟨#[104, 105, 114, 101]⟩, .string ⟨#[116, 101, 97, 99, 104]⟩, .string ⟨#[102, 114, 111, 110, 116]⟩, .string ⟨#[98, 97, 99, 107]⟩, .string ⟨#[111, 114, 100, 101, 114]⟩, .string ⟨#[115, 104, 111, 119]⟩, .string ⟨#[119, 104, 121]⟩] 9)).alloc (.cells #[.int .i64 0, .int .i64 0, .int .i64 0] 30)) := bM
      have LW : Loc ((w1.alloc (.cells #[.string ⟨#[]⟩, .string ⟨#[104, 105, 114, 101]⟩, .string ⟨#[116, 101, 97, 99, 104]⟩, .string ⟨#[102, 114, 111, 110, 116]⟩, .string ⟨#[98, 97, 99, 107]⟩, .string ⟨#[111, 114, 100, 101, 114]⟩, .string ⟨#[115, 104, 111, 119]⟩, .string ⟨#[119, 104, 121]⟩] 9)).alloc (.cells #[.int .i64 0, .int .i64 0, .int .i64 0] 30)) w1.heap.size (zm6.map Value.string) := (show Loc (w1.alloc (.cells #[.string ⟨#[]⟩, .string ⟨#[104, 105, 114, 101]⟩, .string ⟨#[116, 101, 97, 99, 104]⟩, .string ⟨#[102, 114, 111, 110, 116]⟩, .string ⟨#[98, 97, 99, 107]⟩, .string ⟨#[111, 114, 100, 101, 114]⟩, .string ⟨#[115, 104, 111, 119]⟩, .string ⟨#[119, 104, 121]⟩] 9)) w1.heap.size (zm6.map Value.string) from Loc.new w1 #[.string ⟨#[]⟩, .string ⟨#[104, 105, 114, 101]⟩, .string ⟨#[116, 101, 97, 99, 104]⟩, .string ⟨#[102, 114, 111, 110, 116]⟩, .string ⟨#[98, 97, 99, 107]⟩, .string ⟨#[111, 114, 100, 101, 114]⟩, .string ⟨#[115, 104, 111, 119]⟩, .string ⟨#[119, 104, 121]⟩] 9).below ((Below.refl _ _).alloc (Nat.le_refl _) _)
      have LB : Loc ((w1.alloc (.cells #[.string ⟨#[]⟩, .string ⟨#[104, 105, 114, 101]⟩, .string ⟨#[116, 101, 97, 99, 104]⟩, .string ⟨#[102, 114, 111, 110, 116]⟩, .string ⟨#[98, 97, 99, 107]⟩, .string ⟨#[111, 114, 100, 101, 114]⟩, .string ⟨#[115, 104, 111, 119]⟩, .string ⟨#[119, 104, 121]⟩] 9)).alloc (.cells #[.int .i64 0, .int .i64 0, .int .i64 0] 30)) (w1.heap.size + 1) [.int .i64 (zi6 fz 0), .int .i64 0, .int .i64 0] := by
        have h := Loc.new (w1.alloc (.cells #[.string ⟨#[]⟩, .string ⟨#[104, 105, 114, 101]⟩, .string ⟨#[116, 101, 97, 99, 104]⟩, .string ⟨#[102, 114, 111, 110, 116]⟩, .string ⟨#[98, 97, 99, 107]⟩, .string ⟨#[111, 114, 100, 101, 114]⟩, .string ⟨#[115, 104, 111, 119]⟩, .string ⟨#[119, 104, 121]⟩] 9)) #[.int .i64 0, .int .i64 0, .int .i64 0] 30; rw [show (w1.alloc (.cells #[.string ⟨#[]⟩, .string ⟨#[104, 105, 114, 101]⟩, .string ⟨#[116, 101, 97, 99, 104]⟩, .string ⟨#[102, 114, 111, 110, 116]⟩, .string ⟨#[98, 97, 99, 107]⟩, .string ⟨#[111, 114, 100, 101, 114]⟩, .string ⟨#[115, 104, 111, 119]⟩, .string ⟨#[119, 104, 121]⟩] 9)).heap.size = w1.heap.size + 1 by simp] at h
        exact h
      go_wp2_with fail
      go_loopw [34] (fun i wr => ∃ k : Nat, k <= 8 /\ i = .int .i64 k /\ Loc wr w1.heap.size (zm6.map Value.string) /\ Loc wr (w1.heap.size + 1) [.int .i64 (zi6 fz k), .int .i64 0, .int .i64 0] /\ Below w1.heap.size w1 wr) (fun i _ => 8 - (intOf i).toNat)
      case atStart => exact ⟨0, Nat.zero_le _, rfl, LW, LB, hb3⟩
      case round =>
        obtain ⟨k, hk8, rfl, LW2, LB2, hb4⟩ := hrel; clear LW LB hb3 b0 b1 b2 f0 f1 f2
        by_cases hlt : k < 8
        · obtain ⟨x, hx⟩ : ∃ x, zm6[k]? = some x := ⟨_, List.getElem?_eq_getElem (show k < zm6.length from hlt)⟩
          have q0 := (LW2 k (.string x) (by rw [List.getElem?_map, hx]; rfl)).1
          have HX := Lib.hid hx; have k0' := za5 hb4 k0; have c0 := (LB2 0 _ rfl).1; have d0 := (LB2 0 _ rfl).2; have hki : (k : Int) < 8 := by omega
          clear hx k0
          by_cases hxe : x = fz
          · have HT : Hid (zi6 fz (k + 1) = k) := zyf HX.out hxe
            subst hxe; go_wp2_with fail; go_roundw
            case rel =>
              refine ⟨k + 1, by omega, by go_num, LW2.far (by omega), ?_, bL⟩
              rw [HT.out]; exact LB2.set (i := 0) (u := .int .i64 k) rfl
            case measure => simp [intOf]; omega
          · have HT : Hid (zi6 fz (k + 1) = zi6 fz k) := zya HX.out hxe
            have hne := znx hxe; go_wp2_with fail; go_roundw
            case rel => exact ⟨k + 1, by omega, by go_num, LW2, by rw [HT.out]; exact LB2, hb4⟩
            case measure => simp [intOf]; omega
        · obtain rfl : k = 8 := by omega
          rw [zue] at LB2; have hf1 : (1 : Int) <= (fs.length : Int) := by omega
          have hf2 : ¬ (fs.length : Int) < 1 := by omega
          clear LW2
          rcases Decidable.em (c = 1) with rfl | hcc
          all_goals
            go_wp2_with fail
            go_loopw [50] (fun i wr => ∃ j : Nat, j <= fs.length - 1 /\ i = .int .i64 j /\ Loc wr (w1.heap.size + 1) [.int .i64 (zb8 fz), .int .i64 (aTo fs j), .int .i64 (bTo fs j)] /\ Hid (∀ (q : Nat) (x : ByteArray), 1 <= q -> q <= j -> fs[q]? = some x -> (pU x).2 = true) /\ Below w1.heap.size w1 wr) (fun i _ => fs.length - 1 - (intOf i).toNat)
            case atStart => exact ⟨0, Nat.zero_le _, rfl, by simpa [aTo, bTo] using LB2, fun q x h1 h2 => by omega, hb4⟩
            case round =>
              obtain ⟨j, hj, rfl, LB3, HU, hb5⟩ := hrel; have LG3 := L.below hb5; have hbT5 := zab hb2 hb5; clear LB2
              by_cases hlt : j < fs.length - 1
              · first
                | (exfalso; omega)
                | (have hj1 : j + 1 < fs.length := by omega
                   have HSZ : Hid (fs[j + 1].size <= 600) := hsz _ (List.getElem_mem hj1); obtain ⟨g1, off1, hA1, hg1, hc1⟩ := (hr.below hb5).cell zey (by omega) hj1
                   obtain ⟨rfl, rfl⟩ : g0 = g1 /\ off0 = off1 := by simpa using hA1
                   have k1 := hc1 0 _ rfl
                   simp only [Nat.add_zero, Nat.mul_one] at k1
                   rw [show off0 + (j + 1) = off0 + 1 + j by omega] at k1
                   have hUN := fun W ht he => ziw fs[j + 1] W (by have := HSZ.out; omega) ht he
                   have HPB : Hid ((pU fs[j + 1]).2 = false -> prsA s = ((0, 0, 0), false)) := fun h => HP.out.trans (zwn h13.2 hj1 h)
                   have HXJ : Hid (fs[j + 1]? = some fs[j + 1]) := List.getElem?_eq_getElem hj1; have HA1 : Hid (j = 0 -> aTo fs (j + 1) = (pU fs[j + 1]).1 /\ bTo fs (j + 1) = bTo fs j) := fun e => by subst e; exact ⟨zxz hj1, rfl⟩
                   have HA2 : Hid (j = 1 -> aTo fs (j + 1) = aTo fs j /\ bTo fs (j + 1) = (pU fs[j + 1]).1) := fun e => by subst e; exact ⟨rfl, zy7 hj1⟩
                   have HJ01 : Hid (j = 0 ∨ j = 1) := show _ ∨ _ by omega
                   have hji : (j : Int) < ((fs.length - 1 : Nat) : Int) := by omega
                   clear hc1 hA1 k0; generalize fs[j + 1] = x at *
                   obtain ⟨pu, hpu⟩ : ∃ pu, pU x = pu := ⟨_, rfl⟩; rw [hpu] at hUN HPB HA1 HA2; obtain ⟨un, ub⟩ := pu; have HUN := Lib.hid hUN; have HPU := Lib.hid hpu; clear hUN hpu; go_wp2_with fail; refine (HUN.out wr (ht1.below hb5) (he1.below hb5)).mono ?_; rintro e w6 ⟨rfl, hb7⟩; have LG6 := LG3.below hb7; have LB6 := LB3.below hb7; have hb6 := zab hb5 hb7; have hbT6 := zab hb2 hb6; clear hb7 k1 LG3 LB3 hbT5 HUN
                   cases ub
                   · have HY : Hid (prsA s = ((0, 0, 0), false)) := HPB.out rfl
                     obtain ⟨c0, c1, c2⟩ := LG6.a3; obtain ⟨d0, d1, d2⟩ := LG6.b3; go_wp2_with fail; refine bodyPost_ret (v := .tuple #[.agg #[.int .i64 0, .int .i64 0, .int .i64 0], .bool false]) (by simp [results, Tryz.results17, go_sem, c0, c1, c2]) rfl ⟨by rw [HY.out], by subst hg; (repeat' (first | exact Below.refl _ _ | refine qS ?_ _ | refine qA ?_ _ | refine qD ?_ | refine qN ?_ _ | refine qT ?_ (by assumption)))⟩
                   · have HU2 : Hid (∀ (q : Nat) (y : ByteArray), 1 <= q -> q <= j + 1 -> fs[q]? = some y -> (pU y).2 = true) := fun q y h1 h2 h3 => by
                       by_cases hq : q = j + 1
                       · subst hq
                         rw [HXJ.out] at h3
                         injection h3 with h3
                         rw [<- h3, HPU.out]
                       · exact HU.out q y h1 (by omega) h3
                     obtain ⟨c0, c1, c2⟩ := LB6.a3; obtain ⟨d0, d1, d2⟩ := LB6.b3
                     rcases HJ01.out with e | e
                     · have hj0 : ((j : Int) == 0) = true := by rw [beq_iff_eq]; omega
                       go_wp2_with fail; go_roundw
                       case rel =>
                         refine ⟨j + 1, by omega, by go_num, ?_, HU2, Below.chg hb6 (S := [w1.heap.size + 1]) (cS) hb6.size (by simp)⟩
                         rw [(HA1.out e).1, (HA1.out e).2]; exact LB6.set (i := 1) (u := .int .i64 un) rfl
                       case measure => simp [intOf]; omega
                     · have hj0 : ((j : Int) == 0) = false := by rw [beq_eq_false_iff_ne]; omega
                       go_wp2_with fail; go_roundw
                       case rel =>
                         refine ⟨j + 1, by omega, by go_num, ?_, HU2, Below.chg hb6 (S := [w1.heap.size + 1]) (cS) hb6.size (by simp)⟩
                         rw [(HA2.out e).1, (HA2.out e).2]; exact LB6.set (i := 2) (u := .int .i64 un) rfl
                       case measure => simp [intOf]; omega)
              · have hje : j = fs.length - 1 := by omega
                have HE : Hid (prsA s = finA (zb8 fz, aTo fs j, bTo fs j) fs) := by
                  show _ = _
                  rw [HP.out, zwl (by omega) h13.2 (fun k x h1 hx => HU.out k x h1 (by have := (List.getElem?_eq_some_iff.1 hx).1; omega) hx), HFZ.out, hje]
                have hji : ¬ (j : Int) < ((fs.length - 1 : Nat) : Int) := by omega
                have HJZ : Hid ((jnB fs).size <= 2000) := zvw h13.2 hsz; generalize zb8 fz = kd at *
                generalize aTo fs j = na at *
                generalize bTo fs j = nb at *
                obtain ⟨t, hts⟩ : ∃ t, actS (kd, na, nb) = t := ⟨_, rfl⟩; obtain ⟨bb, hbb⟩ : ∃ bb, actB kd na nb = bb := ⟨_, rfl⟩; have hC := fun W hW => zjf kd na nb W hW
                rw [hts, hbb] at hC; have HC := Lib.hid hC; have HTS := Lib.hid hts; have HBB := Lib.hid hbb; obtain ⟨c0, c1, c2⟩ := LB3.a3; clear hC hts hbb HU hje; go_wp2_with fail; refine (HC.out wr (ht1.below hb5)).mono ?_; rintro e w6 ⟨rfl, hb7⟩; have LG6 := LG3.below hb7; have LB6 := LB3.below hb7; have hb6 := zab hb5 hb7; have hbT6 := zab hb2 hb6; clear hb7 LG3 LB3 hbT5 c0 c1 c2 HC
                cases bb
                · have HY : Hid (prsA s = ((0, 0, 0), false)) := HE.out.trans (zs8 HBB.out)
                  obtain ⟨c0, c1, c2⟩ := LG6.a3; obtain ⟨d0, d1, d2⟩ := LG6.b3; go_wp2_with fail; refine bodyPost_ret (v := .tuple #[.agg #[.int .i64 0, .int .i64 0, .int .i64 0], .bool false]) (by simp [results, Tryz.results17, go_sem, c0, c1, c2]) rfl ⟨by rw [HY.out], by subst hg; (repeat' (first | exact Below.refl _ _ | refine qS ?_ _ | refine qA ?_ _ | refine qD ?_ | refine qN ?_ _ | refine qT ?_ (by assumption)))⟩
                · have HJ : Hid (∀ cq : Nat, fs.length <= cq -> cq <= 9223372036854775807 -> Calls Tryz.prog 38 #[.slice (some ⟨g0, off0, none⟩) fs.length cq, .string ⟨#[32]⟩] w6 fun e w' => e = .returned (.string (jnB fs)) /\ Below w6.heap.size w6 w') := by
                    intro cq hq1 hq2; have e1 : (⟨(Lib.join (fs.map (·.data.toList)) [32]).toArray⟩ : ByteArray) = jnB fs := zx5 fs; have h5 : (⟨(Lib.join (fs.map (·.data.toList)) [32]).toArray⟩ : ByteArray).size = (Lib.join (fs.map (·.data.toList)) [32]).length := List.size_toArray; have hz9 := HJZ.out; rw [<- e1, h5] at hz9
                    have hxs : ∀ (q : Nat) (x : ByteArray), fs[q]? = some x -> w6.cell? ⟨g0, off0 + q, none⟩ = some (.string x) := fun q x hq => by
                      obtain ⟨hql, hqe⟩ := List.getElem?_eq_some_iff.1 hq; obtain ⟨g1, off1, hA1, _, hc1⟩ := (hr.below hb6).cell zey (by omega) hql
                      obtain ⟨rfl, rfl⟩ : g0 = g1 /\ off0 = off1 := by simpa using hA1
                      have k1 := hc1 0 _ rfl
                      simp only [Nat.add_zero, Nat.mul_one] at k1
                      rw [k1, hqe]
                    have hz6 := hb6.size; have hz10 : (Lib.join (fs.map (·.data.toList)) [32]).length <= 140737488355328 := by omega
                    have hJ := lib_strings_Join g0 off0 cq fs ⟨#[32]⟩ w6 hxs (by omega) (by omega) (by omega) hz10
                    exact hJ.mono fun e w' ⟨he, hw⟩ => ⟨by rw [he]; exact congrArg (fun x => Ending.returned (.string x)) e1, hw⟩
                  obtain ⟨jt, hjt⟩ : ∃ jt, jnB fs = jt := ⟨_, rfl⟩; rw [hjt] at HJ HJZ; have HJT := Lib.hid hjt; clear hjt
                  by_cases heq : t = jt
                  · have HY : Hid (prsA s = ((kd, na, nb), true)) := HE.out.trans (zw5 HBB.out HFB.out (HTS.out.trans (heq.trans HJT.out.symm)))
                    subst heq
                    go_wp2_with (go_at_call 38; refine (HJ.out _ (by omega) (by omega)).mono ?_; rintro e w7 ⟨rfl, hb8⟩; have LG7 := LG6.below hb8; have LB7 := LB6.below hb8; have hbT7 := zab hbT6 hb8; obtain ⟨c0, c1, c2⟩ := LG7.a3; obtain ⟨d0, d1, d2⟩ := LG7.b3; obtain ⟨x0, x1, x2⟩ := LB7.a3)
                    refine bodyPost_ret (v := .tuple #[.agg #[.int .i64 kd, .int .i64 na, .int .i64 nb], .bool true]) (by simp [results, Tryz.results17, go_sem, c0, c1, c2]) rfl ⟨by rw [HY.out], by subst hg; (repeat' (first | exact Below.refl _ _ | refine qS ?_ _ | refine qA ?_ _ | refine qD ?_ | refine qN ?_ _ | refine qT ?_ (by assumption)))⟩
                  · have HY : Hid (prsA s = ((0, 0, 0), false)) := HE.out.trans (zti HFB.out (fun h => heq (HTS.out.symm.trans (h.trans HJT.out))))
                    have hne := znx heq
                    go_wp2_with (go_at_call 38; refine (HJ.out _ (by omega) (by omega)).mono ?_; rintro e w7 ⟨rfl, hb8⟩; have LG7 := LG6.below hb8; have hbT7 := zab hbT6 hb8; obtain ⟨c0, c1, c2⟩ := LG7.a3; obtain ⟨d0, d1, d2⟩ := LG7.b3)
                    refine bodyPost_ret (v := .tuple #[.agg #[.int .i64 0, .int .i64 0, .int .i64 0], .bool false]) (by simp [results, Tryz.results17, go_sem, c0, c1, c2]) rfl ⟨by rw [HY.out], by subst hg; (repeat' (first | exact Below.refl _ _ | refine qS ?_ _ | refine qA ?_ _ | refine qD ?_ | refine qN ?_ _ | refine qT ?_ (by assumption)))⟩
    · have hp : prsA s = ((0, 0, 0), false) := by
        unfold prsA spcA; rw [if_pos hfb, hfs, if_pos (by omega)]
      have HP := Lib.hid hp; have hi := zku.2 (show ¬ ((1 : Int) <= (fs.length : Int) /\ (fs.length : Int) <= 3) by omega)
      clear hp hpi
      go_wp2_with (go_at_call 35; refine (zbo _ _ _ _).mono ?_; rintro e wq ⟨rfl, rfl⟩; rw [hi])
      refine bodyPost_ret (v := .tuple #[.agg #[.int .i64 0, .int .i64 0, .int .i64 0], .bool false]) (by simp [results, Tryz.results17, go_sem, b0, b1, b2]) rfl ⟨by rw [HP.out], by subst hg; (repeat' (first | exact Below.refl _ _ | refine qS ?_ _ | refine qA ?_ _ | refine qD ?_ | refine qN ?_ _ | refine qT ?_ (by assumption)))⟩
  · have hp : prsA s = ((0, 0, 0), false) := by unfold prsA; rw [if_neg hfb]
    have HP := Lib.hid hp; rw [Bool.not_eq_true] at hfb; rw [hfb]; clear hp; go_wp2_with fail; refine bodyPost_ret (v := .tuple #[.agg #[.int .i64 0, .int .i64 0, .int .i64 0], .bool false]) (by simp [results, Tryz.results17, go_sem, b0, b1, b2]) rfl ⟨by rw [HP.out], by subst hg; (repeat' (first | exact Below.refl _ _ | refine qS ?_ _ | refine qA ?_ _ | refine qD ?_ | refine qN ?_ _ | refine qT ?_ (by assumption)))⟩
end Go.Proofs.YtkbacoadejglkaaGreatDoor
