/- FnExactDoAct: for every input the program's DoAct returns what the reference's returns. No condition. Written by a program (exact2.py). -/
import Derived.OpenShut
import Derived.Deep.RegionHeld3
import Derived.Deep.DeepCutAuto
import Derived.Test.YtlhdeojkpmpecaaGreatBdK17x5
import Derived.Test.YtlhdeojkpmpecaaGreatM15
import Derived.Test.YtlhdeojkpmpecaaGreatBdM5x6
import Derived.Test.YtlhdeojkpmpecaaGreatBdM7x3
import Derived.Test.YtlhdeojkpmpecaaGreatBdA1x8
import Derived.Test.YtlhdeojkpmpecaaGreatO3
namespace Go.Proofs.YtlhdeojkpmpecaaGreat
open Go.ChangeShapes Go.WideShapes Go.ChangeAt Go.RowKit
set_option maxRecDepth 100000 in
theorem act104xw {a : Act} (h : a.tmps.size = 104) (hd : a.defers = []) : a = ⟨List.toArray (a.tmps.getD 0 undef :: a.tmps.getD 1 undef :: a.tmps.getD 2 undef :: a.tmps.getD 3 undef :: a.tmps.getD 4 undef :: a.tmps.getD 5 undef :: a.tmps.getD 6 undef :: a.tmps.getD 7 undef :: a.tmps.getD 8 undef :: a.tmps.getD 9 undef :: a.tmps.getD 10 undef :: a.tmps.getD 11 undef :: a.tmps.getD 12 undef :: a.tmps.getD 13 undef :: a.tmps.getD 14 undef :: a.tmps.getD 15 undef :: a.tmps.getD 16 undef :: a.tmps.getD 17 undef :: a.tmps.getD 18 undef :: a.tmps.getD 19 undef :: a.tmps.getD 20 undef :: a.tmps.getD 21 undef :: a.tmps.getD 22 undef :: a.tmps.getD 23 undef :: a.tmps.getD 24 undef :: a.tmps.getD 25 undef :: a.tmps.getD 26 undef :: a.tmps.getD 27 undef :: a.tmps.getD 28 undef :: a.tmps.getD 29 undef :: a.tmps.getD 30 undef :: a.tmps.getD 31 undef :: a.tmps.getD 32 undef :: a.tmps.getD 33 undef :: a.tmps.getD 34 undef :: a.tmps.getD 35 undef :: a.tmps.getD 36 undef :: a.tmps.getD 37 undef :: a.tmps.getD 38 undef :: a.tmps.getD 39 undef :: a.tmps.getD 40 undef :: a.tmps.getD 41 undef :: a.tmps.getD 42 undef :: a.tmps.getD 43 undef :: a.tmps.getD 44 undef :: a.tmps.getD 45 undef :: a.tmps.getD 46 undef :: a.tmps.getD 47 undef :: a.tmps.getD 48 undef :: a.tmps.getD 49 undef :: a.tmps.getD 50 undef :: a.tmps.getD 51 undef :: a.tmps.getD 52 undef :: a.tmps.getD 53 undef :: a.tmps.getD 54 undef :: a.tmps.getD 55 undef :: a.tmps.getD 56 undef :: a.tmps.getD 57 undef :: a.tmps.getD 58 undef :: a.tmps.getD 59 undef :: a.tmps.getD 60 undef :: a.tmps.getD 61 undef :: a.tmps.getD 62 undef :: a.tmps.getD 63 undef :: a.tmps.getD 64 undef :: a.tmps.getD 65 undef :: a.tmps.getD 66 undef :: a.tmps.getD 67 undef :: a.tmps.getD 68 undef :: a.tmps.getD 69 undef :: a.tmps.getD 70 undef :: a.tmps.getD 71 undef :: a.tmps.getD 72 undef :: a.tmps.getD 73 undef :: a.tmps.getD 74 undef :: a.tmps.getD 75 undef :: a.tmps.getD 76 undef :: a.tmps.getD 77 undef :: a.tmps.getD 78 undef :: a.tmps.getD 79 undef :: a.tmps.getD 80 undef :: a.tmps.getD 81 undef :: a.tmps.getD 82 undef :: a.tmps.getD 83 undef :: a.tmps.getD 84 undef :: a.tmps.getD 85 undef :: a.tmps.getD 86 undef :: a.tmps.getD 87 undef :: a.tmps.getD 88 undef :: a.tmps.getD 89 undef :: a.tmps.getD 90 undef :: a.tmps.getD 91 undef :: a.tmps.getD 92 undef :: a.tmps.getD 93 undef :: a.tmps.getD 94 undef :: a.tmps.getD 95 undef :: a.tmps.getD 96 undef :: a.tmps.getD 97 undef :: a.tmps.getD 98 undef :: a.tmps.getD 99 undef :: a.tmps.getD 100 undef :: a.tmps.getD 101 undef :: a.tmps.getD 102 undef :: a.tmps.getD 103 undef :: []), []⟩ := act_eq 104 h hd
def pxw (B : Nat) (n' m' k' n m ka aa ba : Int) (Aa0_0 Aa0_1 Aa0_2 : Option Addr) (na0_0 na0_1 na0_2 : Nat) (cs' : List RCross) (pl' : List RPl) (ds' : List Int) (cs : List RCross) (pl : List RPl) (ds : List Int) (i : Nat) (v : Value) (gh : Nat → Nat) (w : World) : Prop :=
 match i with
 | 0 => v = .agg #[.int .i64 n, (Value.slice Aa0_0 (cs).length na0_0), (Value.slice Aa0_1 (pl).length na0_1), (Value.slice Aa0_2 (ds).length na0_2), .int .i64 m]
 | 1 => ∃ (T00 T01 T02 : Option Addr) (t00 t01 t02 : Nat), v = .agg #[.int .i64 n, (Value.slice T00 (cs).length t00), (Value.slice T01 (pl).length t01), (Value.slice T02 (ds).length t02), .int .i64 m] ∧ RdTheatre w (Value.slice T00 (cs).length t00) (Value.slice T01 (pl).length t01) (Value.slice T02 (ds).length t02) cs pl ds
 | 2 => v = .agg #[.int .i64 ka, .int .i64 aa, .int .i64 ba]
 | 3 => v = .agg #[.int .i64 ka, .int .i64 aa, .int .i64 ba]
 | 4 => ∃ (Y0 Y1 Y2 : Option Addr) (y0 y1 y2 : Nat), v = .tuple #[.agg #[.int .i64 n', (Value.slice Y0 (cs').length y0), (Value.slice Y1 (pl').length y1), (Value.slice Y2 (ds').length y2), .int .i64 m'], .int .i64 k'] ∧ OwG B (fun w S => OwTheatre w S (Value.slice Y0 (cs').length y0) (Value.slice Y1 (pl').length y1) (Value.slice Y2 (ds').length y2) cs' pl' ds') 1 gh w
 | 5 => ∃ (Y0 Y1 Y2 : Option Addr) (y0 y1 y2 : Nat), v = .tuple #[.agg #[.int .i64 n', (Value.slice Y0 (cs').length y0), (Value.slice Y1 (pl').length y1), (Value.slice Y2 (ds').length y2), .int .i64 m'], .int .i64 k'] ∧ OwG B (fun w S => OwTheatre w S (Value.slice Y0 (cs').length y0) (Value.slice Y1 (pl').length y1) (Value.slice Y2 (ds').length y2) cs' pl' ds') 1 gh w
 | 6 => ∃ (Y0 Y1 Y2 : Option Addr) (y0 y1 y2 : Nat), v = .agg #[.int .i64 n', (Value.slice Y0 (cs').length y0), (Value.slice Y1 (pl').length y1), (Value.slice Y2 (ds').length y2), .int .i64 m'] ∧ OwG B (fun w S => OwTheatre w S (Value.slice Y0 (cs').length y0) (Value.slice Y1 (pl').length y1) (Value.slice Y2 (ds').length y2) cs' pl' ds') 1 gh w
 | 7 => v = .int .i64 k'
 | 8 => ∃ xb, v = .pointer (some ⟨xb, 0, none⟩) ∧ B ≤ xb ∧ Loc w xb [.int .i64 0, .slice none 0 0, .slice none 0 0, .slice none 0 0, .int .i64 0] ∧ gh xb = 2 ∧ xb < w.heap.size
 | _ => True
set_option maxRecDepth 100000 in
theorem act104xg {a : Act} (h : a.tmps.size = 104) (hd : a.defers = []) : a = ⟨List.toArray (a.tmps.getD 0 undef :: a.tmps.getD 1 undef :: a.tmps.getD 2 undef :: a.tmps.getD 3 undef :: a.tmps.getD 4 undef :: a.tmps.getD 5 undef :: a.tmps.getD 6 undef :: a.tmps.getD 7 undef :: a.tmps.getD 8 undef :: a.tmps.getD 9 undef :: a.tmps.getD 10 undef :: a.tmps.getD 11 undef :: a.tmps.getD 12 undef :: a.tmps.getD 13 undef :: a.tmps.getD 14 undef :: a.tmps.getD 15 undef :: a.tmps.getD 16 undef :: a.tmps.getD 17 undef :: a.tmps.getD 18 undef :: a.tmps.getD 19 undef :: a.tmps.getD 20 undef :: a.tmps.getD 21 undef :: a.tmps.getD 22 undef :: a.tmps.getD 23 undef :: a.tmps.getD 24 undef :: a.tmps.getD 25 undef :: a.tmps.getD 26 undef :: a.tmps.getD 27 undef :: a.tmps.getD 28 undef :: a.tmps.getD 29 undef :: a.tmps.getD 30 undef :: a.tmps.getD 31 undef :: a.tmps.getD 32 undef :: a.tmps.getD 33 undef :: a.tmps.getD 34 undef :: a.tmps.getD 35 undef :: a.tmps.getD 36 undef :: a.tmps.getD 37 undef :: a.tmps.getD 38 undef :: a.tmps.getD 39 undef :: a.tmps.getD 40 undef :: a.tmps.getD 41 undef :: a.tmps.getD 42 undef :: a.tmps.getD 43 undef :: a.tmps.getD 44 undef :: a.tmps.getD 45 undef :: a.tmps.getD 46 undef :: a.tmps.getD 47 undef :: a.tmps.getD 48 undef :: a.tmps.getD 49 undef :: a.tmps.getD 50 undef :: a.tmps.getD 51 undef :: a.tmps.getD 52 undef :: a.tmps.getD 53 undef :: a.tmps.getD 54 undef :: a.tmps.getD 55 undef :: a.tmps.getD 56 undef :: a.tmps.getD 57 undef :: a.tmps.getD 58 undef :: a.tmps.getD 59 undef :: a.tmps.getD 60 undef :: a.tmps.getD 61 undef :: a.tmps.getD 62 undef :: a.tmps.getD 63 undef :: a.tmps.getD 64 undef :: a.tmps.getD 65 undef :: a.tmps.getD 66 undef :: a.tmps.getD 67 undef :: a.tmps.getD 68 undef :: a.tmps.getD 69 undef :: a.tmps.getD 70 undef :: a.tmps.getD 71 undef :: a.tmps.getD 72 undef :: a.tmps.getD 73 undef :: a.tmps.getD 74 undef :: a.tmps.getD 75 undef :: a.tmps.getD 76 undef :: a.tmps.getD 77 undef :: a.tmps.getD 78 undef :: a.tmps.getD 79 undef :: a.tmps.getD 80 undef :: a.tmps.getD 81 undef :: a.tmps.getD 82 undef :: a.tmps.getD 83 undef :: a.tmps.getD 84 undef :: a.tmps.getD 85 undef :: a.tmps.getD 86 undef :: a.tmps.getD 87 undef :: a.tmps.getD 88 undef :: a.tmps.getD 89 undef :: a.tmps.getD 90 undef :: a.tmps.getD 91 undef :: a.tmps.getD 92 undef :: a.tmps.getD 93 undef :: a.tmps.getD 94 undef :: a.tmps.getD 95 undef :: a.tmps.getD 96 undef :: a.tmps.getD 97 undef :: a.tmps.getD 98 undef :: a.tmps.getD 99 undef :: a.tmps.getD 100 undef :: a.tmps.getD 101 undef :: a.tmps.getD 102 undef :: a.tmps.getD 103 undef :: []), []⟩ := act_eq 104 h hd
def pxg (B : Nat) (n' m' k' n m ka aa ba : Int) (Ax0_0 Ax0_1 Ax0_2 : Option Addr) (nx0_0 nx0_1 nx0_2 : Nat) (cs' : List RCross) (pl' : List RPl) (ds' : List Int) (cs : List RCross) (pl : List RPl) (ds : List Int) (i : Nat) (v : Value) (gh : Nat → Nat) (w : World) : Prop :=
 match i with
 | 0 => v = .agg #[.int .i64 n, (Value.slice Ax0_0 (cs).length nx0_0), (Value.slice Ax0_1 (pl).length nx0_1), (Value.slice Ax0_2 (ds).length nx0_2), .int .i64 m]
 | 1 => v = .agg #[.int .i64 ka, .int .i64 aa, .int .i64 ba]
 | 2 => v = .agg #[.int .i64 ka, .int .i64 aa, .int .i64 ba]
 | 3 => ∃ (Y0 Y1 Y2 : Option Addr) (y0 y1 y2 : Nat), v = .tuple #[.agg #[.int .i64 n', (Value.slice Y0 (cs').length y0), (Value.slice Y1 (pl').length y1), (Value.slice Y2 (ds').length y2), .int .i64 m'], .int .i64 k'] ∧ OwG B (fun w S => OwTheatre w S (Value.slice Y0 (cs').length y0) (Value.slice Y1 (pl').length y1) (Value.slice Y2 (ds').length y2) cs' pl' ds') 1 gh w
 | 4 => ∃ (Y0 Y1 Y2 : Option Addr) (y0 y1 y2 : Nat), v = .tuple #[.agg #[.int .i64 n', (Value.slice Y0 (cs').length y0), (Value.slice Y1 (pl').length y1), (Value.slice Y2 (ds').length y2), .int .i64 m'], .int .i64 k'] ∧ OwG B (fun w S => OwTheatre w S (Value.slice Y0 (cs').length y0) (Value.slice Y1 (pl').length y1) (Value.slice Y2 (ds').length y2) cs' pl' ds') 1 gh w
 | 5 => ∃ (Y0 Y1 Y2 : Option Addr) (y0 y1 y2 : Nat), v = .agg #[.int .i64 n', (Value.slice Y0 (cs').length y0), (Value.slice Y1 (pl').length y1), (Value.slice Y2 (ds').length y2), .int .i64 m'] ∧ OwG B (fun w S => OwTheatre w S (Value.slice Y0 (cs').length y0) (Value.slice Y1 (pl').length y1) (Value.slice Y2 (ds').length y2) cs' pl' ds') 1 gh w
 | 6 => v = .int .i64 k'
 | 7 => ∃ xb, v = .pointer (some ⟨xb, 0, none⟩) ∧ B ≤ xb ∧ Loc w xb [.int .i64 0, .slice none 0 0, .slice none 0 0, .slice none 0 0, .int .i64 0] ∧ gh xb = 2 ∧ xb < w.heap.size
 | _ => True
set_option maxRecDepth 100000 in
theorem act104xh {a : Act} (h : a.tmps.size = 104) (hd : a.defers = []) : a = ⟨List.toArray (a.tmps.getD 0 undef :: a.tmps.getD 1 undef :: a.tmps.getD 2 undef :: a.tmps.getD 3 undef :: a.tmps.getD 4 undef :: a.tmps.getD 5 undef :: a.tmps.getD 6 undef :: a.tmps.getD 7 undef :: a.tmps.getD 8 undef :: a.tmps.getD 9 undef :: a.tmps.getD 10 undef :: a.tmps.getD 11 undef :: a.tmps.getD 12 undef :: a.tmps.getD 13 undef :: a.tmps.getD 14 undef :: a.tmps.getD 15 undef :: a.tmps.getD 16 undef :: a.tmps.getD 17 undef :: a.tmps.getD 18 undef :: a.tmps.getD 19 undef :: a.tmps.getD 20 undef :: a.tmps.getD 21 undef :: a.tmps.getD 22 undef :: a.tmps.getD 23 undef :: a.tmps.getD 24 undef :: a.tmps.getD 25 undef :: a.tmps.getD 26 undef :: a.tmps.getD 27 undef :: a.tmps.getD 28 undef :: a.tmps.getD 29 undef :: a.tmps.getD 30 undef :: a.tmps.getD 31 undef :: a.tmps.getD 32 undef :: a.tmps.getD 33 undef :: a.tmps.getD 34 undef :: a.tmps.getD 35 undef :: a.tmps.getD 36 undef :: a.tmps.getD 37 undef :: a.tmps.getD 38 undef :: a.tmps.getD 39 undef :: a.tmps.getD 40 undef :: a.tmps.getD 41 undef :: a.tmps.getD 42 undef :: a.tmps.getD 43 undef :: a.tmps.getD 44 undef :: a.tmps.getD 45 undef :: a.tmps.getD 46 undef :: a.tmps.getD 47 undef :: a.tmps.getD 48 undef :: a.tmps.getD 49 undef :: a.tmps.getD 50 undef :: a.tmps.getD 51 undef :: a.tmps.getD 52 undef :: a.tmps.getD 53 undef :: a.tmps.getD 54 undef :: a.tmps.getD 55 undef :: a.tmps.getD 56 undef :: a.tmps.getD 57 undef :: a.tmps.getD 58 undef :: a.tmps.getD 59 undef :: a.tmps.getD 60 undef :: a.tmps.getD 61 undef :: a.tmps.getD 62 undef :: a.tmps.getD 63 undef :: a.tmps.getD 64 undef :: a.tmps.getD 65 undef :: a.tmps.getD 66 undef :: a.tmps.getD 67 undef :: a.tmps.getD 68 undef :: a.tmps.getD 69 undef :: a.tmps.getD 70 undef :: a.tmps.getD 71 undef :: a.tmps.getD 72 undef :: a.tmps.getD 73 undef :: a.tmps.getD 74 undef :: a.tmps.getD 75 undef :: a.tmps.getD 76 undef :: a.tmps.getD 77 undef :: a.tmps.getD 78 undef :: a.tmps.getD 79 undef :: a.tmps.getD 80 undef :: a.tmps.getD 81 undef :: a.tmps.getD 82 undef :: a.tmps.getD 83 undef :: a.tmps.getD 84 undef :: a.tmps.getD 85 undef :: a.tmps.getD 86 undef :: a.tmps.getD 87 undef :: a.tmps.getD 88 undef :: a.tmps.getD 89 undef :: a.tmps.getD 90 undef :: a.tmps.getD 91 undef :: a.tmps.getD 92 undef :: a.tmps.getD 93 undef :: a.tmps.getD 94 undef :: a.tmps.getD 95 undef :: a.tmps.getD 96 undef :: a.tmps.getD 97 undef :: a.tmps.getD 98 undef :: a.tmps.getD 99 undef :: a.tmps.getD 100 undef :: a.tmps.getD 101 undef :: a.tmps.getD 102 undef :: a.tmps.getD 103 undef :: []), []⟩ := act_eq 104 h hd
def pxh (B : Nat) (n' m' k' n m ka aa ba : Int) (Aa0_0 Aa0_1 Aa0_2 : Option Addr) (na0_0 na0_1 na0_2 : Nat) (cs' : List RCross) (pl' : List RPl) (ds' : List Int) (cs : List RCross) (pl : List RPl) (ds : List Int) (i : Nat) (v : Value) (gh : Nat → Nat) (w : World) : Prop :=
 match i with
 | 0 => v = .agg #[.int .i64 n, (Value.slice Aa0_0 (cs).length na0_0), (Value.slice Aa0_1 (pl).length na0_1), (Value.slice Aa0_2 (ds).length na0_2), .int .i64 m]
 | 1 => ∃ (T00 T01 T02 : Option Addr) (t00 t01 t02 : Nat), v = .agg #[.int .i64 n, (Value.slice T00 (cs).length t00), (Value.slice T01 (pl).length t01), (Value.slice T02 (ds).length t02), .int .i64 m] ∧ RdTheatre w (Value.slice T00 (cs).length t00) (Value.slice T01 (pl).length t01) (Value.slice T02 (ds).length t02) cs pl ds
 | 2 => v = .agg #[.int .i64 ka, .int .i64 aa, .int .i64 ba]
 | 3 => v = .agg #[.int .i64 ka, .int .i64 aa, .int .i64 ba]
 | 4 => ∃ (Y0 Y1 Y2 : Option Addr) (y0 y1 y2 : Nat), v = .tuple #[.agg #[.int .i64 n', (Value.slice Y0 (cs').length y0), (Value.slice Y1 (pl').length y1), (Value.slice Y2 (ds').length y2), .int .i64 m'], .int .i64 k'] ∧ OwG B (fun w S => OwTheatre w S (Value.slice Y0 (cs').length y0) (Value.slice Y1 (pl').length y1) (Value.slice Y2 (ds').length y2) cs' pl' ds') 1 gh w
 | 5 => ∃ (Y0 Y1 Y2 : Option Addr) (y0 y1 y2 : Nat), v = .tuple #[.agg #[.int .i64 n', (Value.slice Y0 (cs').length y0), (Value.slice Y1 (pl').length y1), (Value.slice Y2 (ds').length y2), .int .i64 m'], .int .i64 k'] ∧ OwG B (fun w S => OwTheatre w S (Value.slice Y0 (cs').length y0) (Value.slice Y1 (pl').length y1) (Value.slice Y2 (ds').length y2) cs' pl' ds') 1 gh w
 | 6 => ∃ (Y0 Y1 Y2 : Option Addr) (y0 y1 y2 : Nat), v = .agg #[.int .i64 n', (Value.slice Y0 (cs').length y0), (Value.slice Y1 (pl').length y1), (Value.slice Y2 (ds').length y2), .int .i64 m'] ∧ OwG B (fun w S => OwTheatre w S (Value.slice Y0 (cs').length y0) (Value.slice Y1 (pl').length y1) (Value.slice Y2 (ds').length y2) cs' pl' ds') 1 gh w
 | 7 => v = .int .i64 k'
 | 8 => ∃ xb, v = .pointer (some ⟨xb, 0, none⟩) ∧ B ≤ xb ∧ Loc w xb [.int .i64 0, .slice none 0 0, .slice none 0 0, .slice none 0 0, .int .i64 0] ∧ gh xb = 2 ∧ xb < w.heap.size
 | _ => True
set_option maxHeartbeats 32000000 in
set_option maxRecDepth 100000 in
theorem lawDoAct_any (n m : Int) (a0_0 a0_1 a0_2 : Value) (cs : List RCross) (pl : List RPl) (ds : List Int) (ka aa ba : Int) (w : World) (h0 : RdTheatre w a0_0 a0_1 a0_2 cs pl ds) :
  Calls Tryz.prog 3 #[.agg #[.int .i64 n, a0_0, a0_1, a0_2, .int .i64 m], .agg #[.int .i64 ka, .int .i64 aa, .int .i64 ba]] w fun e w' => e = .returned (.bool true) ∧ Below w.heap.size w w' := by
 obtain ⟨⟨Aa0_0, na0_0, rfl⟩, ⟨Aa0_1, na0_1, rfl⟩, ⟨Aa0_2, na0_2, rfl⟩⟩ := h0.forms
 obtain ⟨n', m', k', cs', pl', ds', hs', C1, C2⟩ := do2 n m (ka, aa, ba) cs pl ds
 replace C1 := Lib.hid C1
 replace C2 := Lib.hid C2
 go_enter Tryz.func3, Tryz.ntmps3
 go_wp2_with fail
 refine (szTheatre_any n m (Value.slice Aa0_0 (cs).length na0_0) (Value.slice Aa0_1 (pl).length na0_1) (Value.slice Aa0_2 (ds).length na0_2) cs pl ds 1048576 _ (h0.below (by (repeat' (first | exact Below.refl _ _ | (refine Below.setCell ?_ (by first | omega | (simp <;> omega)) _) | (refine Below.alloc ?_ (by first | omega | (simp <;> omega)) _) | (refine Below.drew ?_) | (refine below_drewN ?_ _) | (refine Below.trans ?_ (Below.mono (by assumption) (by first | omega | (simp <;> omega)))))))) (by omega)).mono ?_
 rintro e w1 ⟨r0, rfl, q1, hr0, ht0⟩
 have Ht0 := Lib.hid ht0
 clear ht0
 have b1 : Below w.heap.size w w1 := (bl_alloc (bl_alloc q1))
 have z1 : w.heap.size + 2 ≤ w1.heap.size := by have := q1.size; (try simp at this); omega
 have ca0_0 := carry (b := w.heap.size) (o := 0) (v := .int .i64 n) q1 (by simp [go_sem])
 have ca0_1 := carry (b := w.heap.size) (o := 1) (v := (Value.slice Aa0_0 (cs).length na0_0)) q1 (by simp [go_sem])
 have ca0_2 := carry (b := w.heap.size) (o := 2) (v := (Value.slice Aa0_1 (pl).length na0_1)) q1 (by simp [go_sem])
 have ca0_3 := carry (b := w.heap.size) (o := 3) (v := (Value.slice Aa0_2 (ds).length na0_2)) q1 (by simp [go_sem])
 have ca0_4 := carry (b := w.heap.size) (o := 4) (v := .int .i64 m) q1 (by simp [go_sem])
 have ca1_0 := carry (b := w.heap.size + 1) (o := 0) (v := .int .i64 ka) q1 (by simp [go_sem])
 have ca1_1 := carry (b := w.heap.size + 1) (o := 1) (v := .int .i64 aa) q1 (by simp [go_sem])
 have ca1_2 := carry (b := w.heap.size + 1) (o := 2) (v := .int .i64 ba) q1 (by simp [go_sem])
 have hb : Below w.heap.size w w1 := b1
 by_cases hneg0 : r0 < 0
 ·go_wp2_with fail
  go_ret
  exact ⟨rfl, hb⟩
 have hlen0 : szTheatre cs pl ds ≤ 1048576 := by have := Ht0.out (by omega); omega
 go_upto_region 5 with (fail)
 go_cut [6, 7] (fun s6 s7 wx => ∃ (xb : Nat) (Y0 Y1 Y2 : Option Addr) (y0 y1 y2 : Nat) (S : List Nat), s6 = .pointer (some ⟨xb, 0, none⟩) ∧ s7 = .int .i64 k' ∧ Loc wx xb [.int .i64 n', (Value.slice Y0 (cs').length y0), (Value.slice Y1 (pl').length y1), (Value.slice Y2 (ds').length y2), .int .i64 m'] ∧ (OwTheatre wx S (Value.slice Y0 (cs').length y0) (Value.slice Y1 (pl').length y1) (Value.slice Y2 (ds').length y2) cs' pl' ds') ∧ Fresh w1.heap.size wx S ∧ ((w1.heap.size ≤ xb ∧ xb < wx.heap.size) ∧ ∀ b ∈ S, b ∉ [xb]) ∧ Below w1.heap.size w1 wx)
 case first =>
  refine region_pendL (n := 104) 9 7 (by kernel_rfl) rfl (by kernel_rfl) [] (by kernel_rfl) (fun _ => false) (fun w' => Below w1.heap.size w1 w') (fun i => if i = 8 then 2 else 1) (pxw w1.heap.size n' m' k' n m ka aa ba Aa0_0 Aa0_1 Aa0_2 na0_0 na0_1 na0_2 cs' pl' ds' cs pl ds) trivial (Below.refl _ _).drew ?_ ?_ ?_ ?_
  ·intro i v gh gh' w1 w2 hp hJ hb' hg
   match i, hp with
   | 0, hp => exact hp
   | 1, hp => exact (by obtain ⟨T00, T01, T02, t00, t01, t02, h1, h2⟩ := hp; exact ⟨T00, T01, T02, t00, t01, t02, h1, h2.below hb'⟩)
   | 2, hp => exact hp
   | 3, hp => exact hp
   | 4, hp => exact (by obtain ⟨Y0, Y1, Y2, y0, y1, y2, h1, h2⟩ := hp; exact ⟨Y0, Y1, Y2, y0, y1, y2, h1, h2.keep (fun S h => h.below hb') hb' hg⟩)
   | 5, hp => exact (by obtain ⟨Y0, Y1, Y2, y0, y1, y2, h1, h2⟩ := hp; exact ⟨Y0, Y1, Y2, y0, y1, y2, h1, h2.keep (fun S h => h.below hb') hb' hg⟩)
   | 6, hp => exact (by obtain ⟨Y0, Y1, Y2, y0, y1, y2, h1, h2⟩ := hp; exact ⟨Y0, Y1, Y2, y0, y1, y2, h1, h2.keep (fun S h => h.below hb') hb' hg⟩)
   | 7, hp => exact hp
   | 8, hp => exact (by obtain ⟨xb, h1, h2, h3, h4, h5⟩ := hp; exact ⟨xb, h1, h2, h3.below hb', (hg _ h5).trans h4, Nat.lt_of_lt_of_le h5 hb'.size⟩)
   | _ + 9, _ => trivial
  ·refine ⟨?_, ?_, ?_, ?_, ?_, ?_, ?_, ?_, ?_, trivial⟩
   ·intro a gh w5 hag hJ hd
    dsimp only [bareO]
    have ag2 : a.tmps.getD 2 undef = .pointer (some ⟨w.heap.size, 0, none⟩) := hag.kept 2 (by kernel_rfl)
    clear hag
    have ka0_0 := carry hJ ca0_0
    have ka0_1 := carry hJ ca0_1
    have ka0_2 := carry hJ ca0_2
    have ka0_3 := carry hJ ca0_3
    have ka0_4 := carry hJ ca0_4
    go_wp2_with fail
    exact ⟨rfl, _, rfl, rfl, hJ, Below.refl _ _⟩
   ·intro a gh w5 hag hJ hd
    dsimp only [bareO]
    clear hag
    have e0 : a.tmps.getD 22 undef = .agg #[.int .i64 n, (Value.slice Aa0_0 (cs).length na0_0), (Value.slice Aa0_1 (pl).length na0_1), (Value.slice Aa0_2 (ds).length na0_2), .int .i64 m] := hd 0 (by kernel_rfl) _ rfl
    go_wp2_with fail
    refine (toTheatre_any n m (Value.slice Aa0_0 (cs).length na0_0) (Value.slice Aa0_1 (pl).length na0_1) (Value.slice Aa0_2 (ds).length na0_2) cs pl ds w5 (h0.below (hb.trans (hJ.mono hb.size))) hlen0).mono ?_
    rintro e w6 ⟨v60, v61, v62, S6, rfl, o6, f6, hb6⟩
    obtain ⟨⟨G0, g0, rfl⟩, ⟨G1, g1, rfl⟩, ⟨G2, g2, rfl⟩⟩ := o6.rd.forms
    go_wp2_with fail
    exact ⟨rfl, _, rfl, ⟨_, _, _, _, _, _, rfl, o6.rd⟩, bl_trans hJ hb6, hb6⟩
   ·intro a gh w5 hag hJ hd
    dsimp only [bareO]
    have ag3 : a.tmps.getD 3 undef = .pointer (some ⟨w.heap.size + 1, 0, none⟩) := hag.kept 3 (by kernel_rfl)
    clear hag
    have ka1_0 := carry hJ ca1_0
    have ka1_1 := carry hJ ca1_1
    have ka1_2 := carry hJ ca1_2
    go_wp2_with fail
    exact ⟨rfl, _, rfl, rfl, hJ, Below.refl _ _⟩
   ·intro a gh w5 hag hJ hd
    dsimp only [bareO]
    clear hag
    have e0 : a.tmps.getD 24 undef = .agg #[.int .i64 ka, .int .i64 aa, .int .i64 ba] := hd 2 (by kernel_rfl) _ rfl
    go_wp2_with fail
    refine (toAct_any ka aa ba w5).mono ?_
    rintro e w6 ⟨rfl, hb6⟩
    go_wp2_with fail
    exact ⟨rfl, _, rfl, rfl, bl_trans hJ hb6, hb6⟩
   ·intro a gh w5 hag hJ hd
    dsimp only [bareO]
    clear hag
    have e0 : a.tmps.getD 25 undef = .agg #[.int .i64 ka, .int .i64 aa, .int .i64 ba] := hd 3 (by kernel_rfl) _ rfl
    obtain ⟨T00, T01, T02, t00, t01, t02, e10, h10⟩ : ∃ (T00 T01 T02 : Option Addr) (t00 t01 t02 : Nat), a.tmps.getD 23 undef = .agg #[.int .i64 n, (Value.slice T00 (cs).length t00), (Value.slice T01 (pl).length t01), (Value.slice T02 (ds).length t02), .int .i64 m] ∧ RdTheatre w5 (Value.slice T00 (cs).length t00) (Value.slice T01 (pl).length t01) (Value.slice T02 (ds).length t02) cs pl ds := hd 1 (by kernel_rfl) _ rfl
    go_wp2_with fail
    refine (C1.out _ _ _ _ h10 hlen0).mono ?_
    rintro e w6 ⟨v61, v62, v63, S6, rfl, o6, f6, hb6⟩
    obtain ⟨⟨G0, g0, rfl⟩, ⟨G1, g1, rfl⟩, ⟨G2, g2, rfl⟩⟩ := o6.rd.forms
    go_wp2_with fail
    exact ⟨rfl, _, rfl, ⟨_, _, _, _, _, _, rfl, OwG.of_fresh o6 f6 hJ.size⟩, bl_trans hJ hb6, hb6⟩
   ·intro a gh w5 hag hJ hd
    dsimp only [bareO]
    clear hag
    obtain ⟨Y0, Y1, Y2, y0, y1, y2, e0, h2⟩ : ∃ (Y0 Y1 Y2 : Option Addr) (y0 y1 y2 : Nat), a.tmps.getD 26 undef = .tuple #[.agg #[.int .i64 n', (Value.slice Y0 (cs').length y0), (Value.slice Y1 (pl').length y1), (Value.slice Y2 (ds').length y2), .int .i64 m'], .int .i64 k'] ∧ OwG w1.heap.size (fun w S => OwTheatre w S (Value.slice Y0 (cs').length y0) (Value.slice Y1 (pl').length y1) (Value.slice Y2 (ds').length y2) cs' pl' ds') 1 gh w5 := hd 4 (by kernel_rfl) _ rfl
    go_wp2_with fail
    exact ⟨rfl, _, rfl, ⟨Y0, Y1, Y2, y0, y1, y2, rfl, h2.same _⟩, hJ, Below.refl _ _⟩
   ·intro a gh w5 hag hJ hd
    dsimp only [bareO]
    clear hag
    obtain ⟨Y0, Y1, Y2, y0, y1, y2, e0, h2⟩ : ∃ (Y0 Y1 Y2 : Option Addr) (y0 y1 y2 : Nat), a.tmps.getD 21 undef = .tuple #[.agg #[.int .i64 n', (Value.slice Y0 (cs').length y0), (Value.slice Y1 (pl').length y1), (Value.slice Y2 (ds').length y2), .int .i64 m'], .int .i64 k'] ∧ OwG w1.heap.size (fun w S => OwTheatre w S (Value.slice Y0 (cs').length y0) (Value.slice Y1 (pl').length y1) (Value.slice Y2 (ds').length y2) cs' pl' ds') 1 gh w5 := hd 5 (by kernel_rfl) _ rfl
    go_wp2_with fail
    exact ⟨rfl, _, rfl, ⟨Y0, Y1, Y2, y0, y1, y2, rfl, h2.same _⟩, hJ, Below.refl _ _⟩
   ·intro a gh w5 hag hJ hd
    dsimp only [bareO]
    clear hag
    obtain ⟨Y0, Y1, Y2, y0, y1, y2, e0, h2⟩ : ∃ (Y0 Y1 Y2 : Option Addr) (y0 y1 y2 : Nat), a.tmps.getD 21 undef = .tuple #[.agg #[.int .i64 n', (Value.slice Y0 (cs').length y0), (Value.slice Y1 (pl').length y1), (Value.slice Y2 (ds').length y2), .int .i64 m'], .int .i64 k'] ∧ OwG w1.heap.size (fun w S => OwTheatre w S (Value.slice Y0 (cs').length y0) (Value.slice Y1 (pl').length y1) (Value.slice Y2 (ds').length y2) cs' pl' ds') 1 gh w5 := hd 5 (by kernel_rfl) _ rfl
    go_wp2_with fail
    exact ⟨rfl, _, rfl, rfl, hJ, Below.refl _ _⟩
   ·intro a gh w5 hag hJ hd
    dsimp only [bareO]
    clear hag
    go_wp2_with fail
    exact ⟨rfl, _, rfl, ⟨w5.heap.size, rfl, hJ.size, Loc.new w5 #[.int .i64 0, .slice none 0 0, .slice none 0 0, .slice none 0 0, .int .i64 0] 37, if_neg (Nat.lt_irrefl _), by simp⟩, hJ.alloc hJ.size _, (Below.refl _ _).alloc (Nat.le_refl _) _⟩
  ·intro a gh w5 hag hJ hd
   have ag0 := hag.kept 0 (by kernel_rfl)
   have ag1 := hag.kept 1 (by kernel_rfl)
   have ag2 : a.tmps.getD 2 undef = .pointer (some ⟨w.heap.size, 0, none⟩) := hag.kept 2 (by kernel_rfl)
   have ag3 : a.tmps.getD 3 undef = .pointer (some ⟨w.heap.size + 1, 0, none⟩) := hag.kept 3 (by kernel_rfl)
   have ag4 := hag.kept 4 (by kernel_rfl)
   have ag5 := hag.kept 5 (by kernel_rfl)
   have ag8 := hag.kept 8 (by kernel_rfl)
   have ag9 := hag.kept 9 (by kernel_rfl)
   have ag10 := hag.kept 10 (by kernel_rfl)
   have ag11 := hag.kept 11 (by kernel_rfl)
   have ag12 := hag.kept 12 (by kernel_rfl)
   have ag13 := hag.kept 13 (by kernel_rfl)
   have ag14 := hag.kept 14 (by kernel_rfl)
   have ag15 := hag.kept 15 (by kernel_rfl)
   rw [act104xw hag.size hag.defers]
   clear hag
   obtain ⟨Y0, Y1, Y2, y0, y1, y2, e0, h2⟩ : ∃ (Y0 Y1 Y2 : Option Addr) (y0 y1 y2 : Nat), a.tmps.getD 27 undef = .agg #[.int .i64 n', (Value.slice Y0 (cs').length y0), (Value.slice Y1 (pl').length y1), (Value.slice Y2 (ds').length y2), .int .i64 m'] ∧ OwG w1.heap.size (fun w S => OwTheatre w S (Value.slice Y0 (cs').length y0) (Value.slice Y1 (pl').length y1) (Value.slice Y2 (ds').length y2) cs' pl' ds') 1 gh w5 := hd 6 (by kernel_rfl) _ rfl
   obtain ⟨xb, e8, hxb, Lx, hgx, hxlt⟩ : ∃ xb, a.tmps.getD 6 undef = .pointer (some ⟨xb, 0, none⟩) ∧ w1.heap.size ≤ xb ∧ Loc w5 xb [.int .i64 0, .slice none 0 0, .slice none 0 0, .slice none 0 0, .int .i64 0] ∧ gh xb = 2 ∧ xb < w5.heap.size := hd 8 (by kernel_rfl) _ rfl
   have e9 : a.tmps.getD 28 undef = .int .i64 k' := hd 7 (by kernel_rfl) _ rfl
   rw [ag0, ag1, ag2, ag3, ag4, ag5, ag8, ag9, ag10, ag11, ag12, ag13, ag14, ag15, e0, e8, e9]
   change wpList _ _ _ [_, _] _ _
   obtain ⟨S9, ow9, hnd9, hcl9⟩ := h2
   have HX : Hid (∀ b ∈ S9, b ∉ [xb]) := fun b hb hb' => by have h1 := (hcl9 b hb).2; simp at hb'; subst hb'; omega
   have HFR : Hid (Fresh w1.heap.size w5 S9) := ⟨hnd9, fun b hb => (hcl9 b hb).1⟩
   have HOW := Lib.hid ow9
   have f0 := (Lx 0 _ rfl).2
   have f1 := (Lx 1 _ rfl).2
   have f2 := (Lx 2 _ rfl).2
   have f3 := (Lx 3 _ rfl).2
   have f4 := (Lx 4 _ rfl).2
   have x0 := (Lx 0 _ rfl).1
   have x1 := (Lx 1 _ rfl).1
   have x2 := (Lx 2 _ rfl).1
   have x3 := (Lx 3 _ rfl).1
   have x4 := (Lx 4 _ rfl).1
   clear hd hcl9 ow9 hgx hnd9
   go_wp2_with fail
   go_meet
   case rel =>
    have hch : Chg [xb] w5 (((((w5.setCell ⟨xb, 0, none⟩ (.int .i64 n')).setCell ⟨xb, 1, none⟩ ((Value.slice Y0 (cs').length y0))).setCell ⟨xb, 2, none⟩ ((Value.slice Y1 (pl').length y1))).setCell ⟨xb, 3, none⟩ ((Value.slice Y2 (ds').length y2))).setCell ⟨xb, 4, none⟩ (.int .i64 m')) := by repeat' (first | (with_reducible exact Chg.refl _ _) | (with_reducible refine chg_set ?_ (by simp)))
    exact ⟨xb, Y0, Y1, Y2, y0, y1, y2, S9, rfl, rfl, (((((Lx.set (i := 0) (u := .int .i64 n') (v := .int .i64 0) rfl).set (i := 1) (u := (Value.slice Y0 (cs').length y0)) (v := .slice none 0 0) rfl).set (i := 2) (u := (Value.slice Y1 (pl').length y1)) (v := .slice none 0 0) rfl).set (i := 3) (u := (Value.slice Y2 (ds').length y2)) (v := .slice none 0 0) rfl).set (i := 4) (u := .int .i64 m') (v := .int .i64 0) rfl), HOW.out.chg hch HX.out, fresh_mono HFR.out (Nat.le_refl _) hch.size, ⟨⟨hxb, Nat.lt_of_lt_of_le hxlt hch.size⟩, HX.out⟩, Below.chg hJ hch hJ.size (by simp; omega)⟩
  ·intro a gh w5 hag hJ hd
   have ag0 := hag.kept 0 (by kernel_rfl)
   have ag1 := hag.kept 1 (by kernel_rfl)
   have ag2 : a.tmps.getD 2 undef = .pointer (some ⟨w.heap.size, 0, none⟩) := hag.kept 2 (by kernel_rfl)
   have ag3 : a.tmps.getD 3 undef = .pointer (some ⟨w.heap.size + 1, 0, none⟩) := hag.kept 3 (by kernel_rfl)
   have ag4 := hag.kept 4 (by kernel_rfl)
   have ag5 := hag.kept 5 (by kernel_rfl)
   have ag8 := hag.kept 8 (by kernel_rfl)
   have ag9 := hag.kept 9 (by kernel_rfl)
   have ag10 := hag.kept 10 (by kernel_rfl)
   have ag11 := hag.kept 11 (by kernel_rfl)
   have ag12 := hag.kept 12 (by kernel_rfl)
   have ag13 := hag.kept 13 (by kernel_rfl)
   have ag14 := hag.kept 14 (by kernel_rfl)
   have ag15 := hag.kept 15 (by kernel_rfl)
   rw [act104xw hag.size hag.defers]
   clear hag
   obtain ⟨Y0, Y1, Y2, y0, y1, y2, e0, h2⟩ : ∃ (Y0 Y1 Y2 : Option Addr) (y0 y1 y2 : Nat), a.tmps.getD 27 undef = .agg #[.int .i64 n', (Value.slice Y0 (cs').length y0), (Value.slice Y1 (pl').length y1), (Value.slice Y2 (ds').length y2), .int .i64 m'] ∧ OwG w1.heap.size (fun w S => OwTheatre w S (Value.slice Y0 (cs').length y0) (Value.slice Y1 (pl').length y1) (Value.slice Y2 (ds').length y2) cs' pl' ds') 1 gh w5 := hd 6 (by kernel_rfl) (by decide) _ rfl
   obtain ⟨xb, e8, hxb, Lx, hgx, hxlt⟩ : ∃ xb, a.tmps.getD 6 undef = .pointer (some ⟨xb, 0, none⟩) ∧ w1.heap.size ≤ xb ∧ Loc w5 xb [.int .i64 0, .slice none 0 0, .slice none 0 0, .slice none 0 0, .int .i64 0] ∧ gh xb = 2 ∧ xb < w5.heap.size := hd 8 (by kernel_rfl) (by decide) _ rfl
   obtain ⟨Y0', Y1', Y2', y0', y1', y2', e9, _⟩ : ∃ (Y0' Y1' Y2' : Option Addr) (y0' y1' y2' : Nat), a.tmps.getD 21 undef = .tuple #[.agg #[.int .i64 n', (Value.slice Y0' (cs').length y0'), (Value.slice Y1' (pl').length y1'), (Value.slice Y2' (ds').length y2'), .int .i64 m'], .int .i64 k'] ∧ OwG w1.heap.size (fun w S => OwTheatre w S (Value.slice Y0' (cs').length y0') (Value.slice Y1' (pl').length y1') (Value.slice Y2' (ds').length y2') cs' pl' ds') 1 gh w5 := hd 5 (by kernel_rfl) (by decide) _ rfl
   rw [ag0, ag1, ag2, ag3, ag4, ag5, ag8, ag9, ag10, ag11, ag12, ag13, ag14, ag15, e0, e8, e9]
   change wpList _ _ _ [_, _, _] _ _
   obtain ⟨S9, ow9, hnd9, hcl9⟩ := h2
   have HX : Hid (∀ b ∈ S9, b ∉ [xb]) := fun b hb hb' => by have h1 := (hcl9 b hb).2; simp at hb'; subst hb'; omega
   have HFR : Hid (Fresh w1.heap.size w5 S9) := ⟨hnd9, fun b hb => (hcl9 b hb).1⟩
   have HOW := Lib.hid ow9
   have f0 := (Lx 0 _ rfl).2
   have f1 := (Lx 1 _ rfl).2
   have f2 := (Lx 2 _ rfl).2
   have f3 := (Lx 3 _ rfl).2
   have f4 := (Lx 4 _ rfl).2
   have x0 := (Lx 0 _ rfl).1
   have x1 := (Lx 1 _ rfl).1
   have x2 := (Lx 2 _ rfl).1
   have x3 := (Lx 3 _ rfl).1
   have x4 := (Lx 4 _ rfl).1
   clear hd hcl9 ow9 hgx hnd9
   go_wp2_with fail
   go_meet
   case rel =>
    have hch : Chg [xb] w5 (((((w5.setCell ⟨xb, 0, none⟩ (.int .i64 n')).setCell ⟨xb, 1, none⟩ ((Value.slice Y0 (cs').length y0))).setCell ⟨xb, 2, none⟩ ((Value.slice Y1 (pl').length y1))).setCell ⟨xb, 3, none⟩ ((Value.slice Y2 (ds').length y2))).setCell ⟨xb, 4, none⟩ (.int .i64 m')) := by repeat' (first | (with_reducible exact Chg.refl _ _) | (with_reducible refine chg_set ?_ (by simp)))
    exact ⟨xb, Y0, Y1, Y2, y0, y1, y2, S9, rfl, rfl, (((((Lx.set (i := 0) (u := .int .i64 n') (v := .int .i64 0) rfl).set (i := 1) (u := (Value.slice Y0 (cs').length y0)) (v := .slice none 0 0) rfl).set (i := 2) (u := (Value.slice Y1 (pl').length y1)) (v := .slice none 0 0) rfl).set (i := 3) (u := (Value.slice Y2 (ds').length y2)) (v := .slice none 0 0) rfl).set (i := 4) (u := .int .i64 m') (v := .int .i64 0) rfl), HOW.out.chg hch HX.out, fresh_mono HFR.out (Nat.le_refl _) hch.size, ⟨⟨hxb, Nat.lt_of_lt_of_le hxlt hch.size⟩, HX.out⟩, Below.chg hJ hch hJ.size (by simp; omega)⟩
 obtain ⟨xbw, Aw0_0, Aw0_1, Aw0_2, nw0_0, nw0_1, nw0_2, Sw0, rfl, rfl, Lx, ow0, fw0, ⟨hxw, hpw⟩, q2⟩ := hcut
 obtain ⟨w2, rfl⟩ : ∃ W : World, W = wc := ⟨_, rfl⟩
 have b2 : Below w1.heap.size w1 w2 := q2
 have z2 : w1.heap.size ≤ w2.heap.size := q2.size
 have Hpw := Lib.hid hpw
 clear hpw
 have cw0_0 : w2.cell? ⟨xbw, 0, none⟩ = some (.int .i64 n') := (Lx 0 _ rfl).1
 have cw0_1 : w2.cell? ⟨xbw, 1, none⟩ = some ((Value.slice Aw0_0 (cs').length nw0_0)) := (Lx 1 _ rfl).1
 have cw0_2 : w2.cell? ⟨xbw, 2, none⟩ = some ((Value.slice Aw0_1 (pl').length nw0_1)) := (Lx 2 _ rfl).1
 have cw0_3 : w2.cell? ⟨xbw, 3, none⟩ = some ((Value.slice Aw0_2 (ds').length nw0_2)) := (Lx 3 _ rfl).1
 have cw0_4 : w2.cell? ⟨xbw, 4, none⟩ = some (.int .i64 m') := (Lx 4 _ rfl).1
 clear Lx
 replace ca0_0 := carry b2 ca0_0
 replace ca0_1 := carry b2 ca0_1
 replace ca0_2 := carry b2 ca0_2
 replace ca0_3 := carry b2 ca0_3
 replace ca0_4 := carry b2 ca0_4
 replace ca1_0 := carry b2 ca1_0
 replace ca1_1 := carry b2 ca1_1
 replace ca1_2 := carry b2 ca1_2
 replace hb : Below w.heap.size w w2 := bl_trans hb b2
 go_wp2_with fail
 refine (toTheatre_any n m (Value.slice Aa0_0 (cs).length na0_0) (Value.slice Aa0_1 (pl).length na0_1) (Value.slice Aa0_2 (ds).length na0_2) cs pl ds _ (h0.below (by first | exact hb | exact hb.alloc hb.size _ | (repeat' (first | exact Below.refl _ _ | (refine Below.setCell ?_ (by first | omega | (simp <;> omega)) _) | (refine Below.alloc ?_ (by first | omega | (simp <;> omega)) _) | (refine Below.drew ?_) | (refine below_drewN ?_ _) | (refine Below.trans ?_ (Below.mono (by assumption) (by first | omega | (simp <;> omega)))))))) hlen0).mono ?_
 rintro e w3 ⟨vx0_1, vx0_2, vx0_3, Sx0, rfl, ox0, fx0, q3⟩
 obtain ⟨⟨Ax0_0, nx0_0, rfl⟩, ⟨Ax0_1, nx0_1, rfl⟩, ⟨Ax0_2, nx0_2, rfl⟩⟩ := ox0.rd.forms
 have b3 : Below w2.heap.size w2 w3 := q3
 have z3 : w2.heap.size + 0 ≤ w3.heap.size := by have := q3.size; (try simp at this); omega
 replace ca0_0 := carry b3 ca0_0
 replace ca0_1 := carry b3 ca0_1
 replace ca0_2 := carry b3 ca0_2
 replace ca0_3 := carry b3 ca0_3
 replace ca0_4 := carry b3 ca0_4
 replace ca1_0 := carry b3 ca1_0
 replace ca1_1 := carry b3 ca1_1
 replace ca1_2 := carry b3 ca1_2
 replace cw0_0 := carry b3 cw0_0
 replace cw0_1 := carry b3 cw0_1
 replace cw0_2 := carry b3 cw0_2
 replace cw0_3 := carry b3 cw0_3
 replace cw0_4 := carry b3 cw0_4
 replace ow0 := ow0.below b3
 replace hb : Below w.heap.size w w3 := bl_trans hb b3
 replace fx0 := fresh_mono (B' := w2.heap.size + 0) fx0 (by first | exact Nat.le_refl _ | (simp; done) | (simp; omega)) (Nat.le_refl _)
 go_upto_region 7 with (fail)
 have b4 : Below w3.heap.size w3 (w3.alloc (.cells #[.int .i64 n, (Value.slice Ax0_0 (cs).length nx0_0), (Value.slice Ax0_1 (pl).length nx0_1), (Value.slice Ax0_2 (ds).length nx0_2), .int .i64 m] 37)) := (Below.refl _ _).alloc (Nat.le_refl _) _
 have z4 : w3.heap.size + 1 ≤ (w3.alloc (.cells #[.int .i64 n, (Value.slice Ax0_0 (cs).length nx0_0), (Value.slice Ax0_1 (pl).length nx0_1), (Value.slice Ax0_2 (ds).length nx0_2), .int .i64 m] 37)).heap.size := by simp
 have cx0_0 : (w3.alloc (.cells #[.int .i64 n, (Value.slice Ax0_0 (cs).length nx0_0), (Value.slice Ax0_1 (pl).length nx0_1), (Value.slice Ax0_2 (ds).length nx0_2), .int .i64 m] 37)).cell? ⟨w3.heap.size, 0, none⟩ = some (.int .i64 n) := (Loc.new w3 #[.int .i64 n, (Value.slice Ax0_0 (cs).length nx0_0), (Value.slice Ax0_1 (pl).length nx0_1), (Value.slice Ax0_2 (ds).length nx0_2), .int .i64 m] 37 0 _ rfl).1
 have cx0_1 : (w3.alloc (.cells #[.int .i64 n, (Value.slice Ax0_0 (cs).length nx0_0), (Value.slice Ax0_1 (pl).length nx0_1), (Value.slice Ax0_2 (ds).length nx0_2), .int .i64 m] 37)).cell? ⟨w3.heap.size, 1, none⟩ = some ((Value.slice Ax0_0 (cs).length nx0_0)) := (Loc.new w3 #[.int .i64 n, (Value.slice Ax0_0 (cs).length nx0_0), (Value.slice Ax0_1 (pl).length nx0_1), (Value.slice Ax0_2 (ds).length nx0_2), .int .i64 m] 37 1 _ rfl).1
 have cx0_2 : (w3.alloc (.cells #[.int .i64 n, (Value.slice Ax0_0 (cs).length nx0_0), (Value.slice Ax0_1 (pl).length nx0_1), (Value.slice Ax0_2 (ds).length nx0_2), .int .i64 m] 37)).cell? ⟨w3.heap.size, 2, none⟩ = some ((Value.slice Ax0_1 (pl).length nx0_1)) := (Loc.new w3 #[.int .i64 n, (Value.slice Ax0_0 (cs).length nx0_0), (Value.slice Ax0_1 (pl).length nx0_1), (Value.slice Ax0_2 (ds).length nx0_2), .int .i64 m] 37 2 _ rfl).1
 have cx0_3 : (w3.alloc (.cells #[.int .i64 n, (Value.slice Ax0_0 (cs).length nx0_0), (Value.slice Ax0_1 (pl).length nx0_1), (Value.slice Ax0_2 (ds).length nx0_2), .int .i64 m] 37)).cell? ⟨w3.heap.size, 3, none⟩ = some ((Value.slice Ax0_2 (ds).length nx0_2)) := (Loc.new w3 #[.int .i64 n, (Value.slice Ax0_0 (cs).length nx0_0), (Value.slice Ax0_1 (pl).length nx0_1), (Value.slice Ax0_2 (ds).length nx0_2), .int .i64 m] 37 3 _ rfl).1
 have cx0_4 : (w3.alloc (.cells #[.int .i64 n, (Value.slice Ax0_0 (cs).length nx0_0), (Value.slice Ax0_1 (pl).length nx0_1), (Value.slice Ax0_2 (ds).length nx0_2), .int .i64 m] 37)).cell? ⟨w3.heap.size, 4, none⟩ = some (.int .i64 m) := (Loc.new w3 #[.int .i64 n, (Value.slice Ax0_0 (cs).length nx0_0), (Value.slice Ax0_1 (pl).length nx0_1), (Value.slice Ax0_2 (ds).length nx0_2), .int .i64 m] 37 4 _ rfl).1
 replace ca0_0 := carry b4 ca0_0
 replace ca0_1 := carry b4 ca0_1
 replace ca0_2 := carry b4 ca0_2
 replace ca0_3 := carry b4 ca0_3
 replace ca0_4 := carry b4 ca0_4
 replace ca1_0 := carry b4 ca1_0
 replace ca1_1 := carry b4 ca1_1
 replace ca1_2 := carry b4 ca1_2
 replace cw0_0 := carry b4 cw0_0
 replace cw0_1 := carry b4 cw0_1
 replace cw0_2 := carry b4 cw0_2
 replace cw0_3 := carry b4 cw0_3
 replace cw0_4 := carry b4 cw0_4
 replace ow0 := ow0.below b4
 replace ox0 := ox0.below b4
 replace hb : Below w.heap.size w (w3.alloc (.cells #[.int .i64 n, (Value.slice Ax0_0 (cs).length nx0_0), (Value.slice Ax0_1 (pl).length nx0_1), (Value.slice Ax0_2 (ds).length nx0_2), .int .i64 m] 37)) := bl_trans hb b4
 generalize w3.alloc (.cells #[.int .i64 n, (Value.slice Ax0_0 (cs).length nx0_0), (Value.slice Ax0_1 (pl).length nx0_1), (Value.slice Ax0_2 (ds).length nx0_2), .int .i64 m] 37) = w4 at *
 go_upto_region 7 with (fail)
 go_cut [9, 10] (fun s6 s7 wx => ∃ (xb : Nat) (Y0 Y1 Y2 : Option Addr) (y0 y1 y2 : Nat) (S : List Nat), s6 = .pointer (some ⟨xb, 0, none⟩) ∧ s7 = .int .i64 k' ∧ Loc wx xb [.int .i64 n', (Value.slice Y0 (cs').length y0), (Value.slice Y1 (pl').length y1), (Value.slice Y2 (ds').length y2), .int .i64 m'] ∧ (OwTheatre wx S (Value.slice Y0 (cs').length y0) (Value.slice Y1 (pl').length y1) (Value.slice Y2 (ds').length y2) cs' pl' ds') ∧ Fresh w4.heap.size wx S ∧ ((w4.heap.size ≤ xb ∧ xb < wx.heap.size) ∧ ∀ b ∈ S, b ∉ [xb]) ∧ Below w4.heap.size w4 wx)
 case first =>
  refine region_pendL (n := 104) 8 6 (by kernel_rfl) rfl (by kernel_rfl) [] (by kernel_rfl) (fun _ => false) (fun w' => Below w4.heap.size w4 w') (fun i => if i = 7 then 2 else 1) (pxg w4.heap.size n' m' k' n m ka aa ba Ax0_0 Ax0_1 Ax0_2 nx0_0 nx0_1 nx0_2 cs' pl' ds' cs pl ds) trivial (Below.refl _ _).drew ?_ ?_ ?_ ?_
  ·intro i v gh gh' w1 w2 hp hJ hb' hg
   match i, hp with
   | 0, hp => exact hp
   | 1, hp => exact hp
   | 2, hp => exact hp
   | 3, hp => exact (by obtain ⟨Y0, Y1, Y2, y0, y1, y2, h1, h2⟩ := hp; exact ⟨Y0, Y1, Y2, y0, y1, y2, h1, h2.keep (fun S h => h.below hb') hb' hg⟩)
   | 4, hp => exact (by obtain ⟨Y0, Y1, Y2, y0, y1, y2, h1, h2⟩ := hp; exact ⟨Y0, Y1, Y2, y0, y1, y2, h1, h2.keep (fun S h => h.below hb') hb' hg⟩)
   | 5, hp => exact (by obtain ⟨Y0, Y1, Y2, y0, y1, y2, h1, h2⟩ := hp; exact ⟨Y0, Y1, Y2, y0, y1, y2, h1, h2.keep (fun S h => h.below hb') hb' hg⟩)
   | 6, hp => exact hp
   | 7, hp => exact (by obtain ⟨xb, h1, h2, h3, h4, h5⟩ := hp; exact ⟨xb, h1, h2, h3.below hb', (hg _ h5).trans h4, Nat.lt_of_lt_of_le h5 hb'.size⟩)
   | _ + 8, _ => trivial
  ·refine ⟨?_, ?_, ?_, ?_, ?_, ?_, ?_, ?_, trivial⟩
   ·intro a gh w5 hag hJ hd
    dsimp only [bareO]
    have ag8 : a.tmps.getD 8 undef = .pointer (some ⟨w3.heap.size, 0, none⟩) := hag.kept 8 (by kernel_rfl)
    clear hag
    have kx0_0 := carry hJ cx0_0
    have kx0_1 := carry hJ cx0_1
    have kx0_2 := carry hJ cx0_2
    have kx0_3 := carry hJ cx0_3
    have kx0_4 := carry hJ cx0_4
    go_wp2_with fail
    exact ⟨rfl, _, rfl, rfl, hJ, Below.refl _ _⟩
   ·intro a gh w5 hag hJ hd
    dsimp only [bareO]
    have ag3 : a.tmps.getD 3 undef = .pointer (some ⟨w.heap.size + 1, 0, none⟩) := hag.kept 3 (by kernel_rfl)
    clear hag
    have ka1_0 := carry hJ ca1_0
    have ka1_1 := carry hJ ca1_1
    have ka1_2 := carry hJ ca1_2
    go_wp2_with fail
    exact ⟨rfl, _, rfl, rfl, hJ, Below.refl _ _⟩
   ·intro a gh w5 hag hJ hd
    dsimp only [bareO]
    clear hag
    have e0 : a.tmps.getD 33 undef = .agg #[.int .i64 ka, .int .i64 aa, .int .i64 ba] := hd 1 (by kernel_rfl) _ rfl
    go_wp2_with fail
    refine (toAct_any ka aa ba w5).mono ?_
    rintro e w6 ⟨rfl, hb6⟩
    go_wp2_with fail
    exact ⟨rfl, _, rfl, rfl, bl_trans hJ hb6, hb6⟩
   ·intro a gh w5 hag hJ hd
    dsimp only [bareO]
    clear hag
    have e0 : a.tmps.getD 32 undef = .agg #[.int .i64 n, (Value.slice Ax0_0 (cs).length nx0_0), (Value.slice Ax0_1 (pl).length nx0_1), (Value.slice Ax0_2 (ds).length nx0_2), .int .i64 m] := hd 0 (by kernel_rfl) _ rfl
    have e1 : a.tmps.getD 34 undef = .agg #[.int .i64 ka, .int .i64 aa, .int .i64 ba] := hd 2 (by kernel_rfl) _ rfl
    go_wp2_with fail
    refine (C2.out _ _ _ _ (ox0.rd.below hJ) hlen0).mono ?_
    rintro e w6 ⟨v61, v62, v63, S6, rfl, o6, f6, hb6⟩
    obtain ⟨⟨G0, g0, rfl⟩, ⟨G1, g1, rfl⟩, ⟨G2, g2, rfl⟩⟩ := o6.rd.forms
    go_wp2_with fail
    exact ⟨rfl, _, rfl, ⟨_, _, _, _, _, _, rfl, OwG.of_fresh o6 f6 hJ.size⟩, bl_trans hJ hb6, hb6⟩
   ·intro a gh w5 hag hJ hd
    dsimp only [bareO]
    clear hag
    obtain ⟨Y0, Y1, Y2, y0, y1, y2, e0, h2⟩ : ∃ (Y0 Y1 Y2 : Option Addr) (y0 y1 y2 : Nat), a.tmps.getD 35 undef = .tuple #[.agg #[.int .i64 n', (Value.slice Y0 (cs').length y0), (Value.slice Y1 (pl').length y1), (Value.slice Y2 (ds').length y2), .int .i64 m'], .int .i64 k'] ∧ OwG w4.heap.size (fun w S => OwTheatre w S (Value.slice Y0 (cs').length y0) (Value.slice Y1 (pl').length y1) (Value.slice Y2 (ds').length y2) cs' pl' ds') 1 gh w5 := hd 3 (by kernel_rfl) _ rfl
    go_wp2_with fail
    exact ⟨rfl, _, rfl, ⟨Y0, Y1, Y2, y0, y1, y2, rfl, h2.same _⟩, hJ, Below.refl _ _⟩
   ·intro a gh w5 hag hJ hd
    dsimp only [bareO]
    clear hag
    obtain ⟨Y0, Y1, Y2, y0, y1, y2, e0, h2⟩ : ∃ (Y0 Y1 Y2 : Option Addr) (y0 y1 y2 : Nat), a.tmps.getD 31 undef = .tuple #[.agg #[.int .i64 n', (Value.slice Y0 (cs').length y0), (Value.slice Y1 (pl').length y1), (Value.slice Y2 (ds').length y2), .int .i64 m'], .int .i64 k'] ∧ OwG w4.heap.size (fun w S => OwTheatre w S (Value.slice Y0 (cs').length y0) (Value.slice Y1 (pl').length y1) (Value.slice Y2 (ds').length y2) cs' pl' ds') 1 gh w5 := hd 4 (by kernel_rfl) _ rfl
    go_wp2_with fail
    exact ⟨rfl, _, rfl, ⟨Y0, Y1, Y2, y0, y1, y2, rfl, h2.same _⟩, hJ, Below.refl _ _⟩
   ·intro a gh w5 hag hJ hd
    dsimp only [bareO]
    clear hag
    obtain ⟨Y0, Y1, Y2, y0, y1, y2, e0, h2⟩ : ∃ (Y0 Y1 Y2 : Option Addr) (y0 y1 y2 : Nat), a.tmps.getD 31 undef = .tuple #[.agg #[.int .i64 n', (Value.slice Y0 (cs').length y0), (Value.slice Y1 (pl').length y1), (Value.slice Y2 (ds').length y2), .int .i64 m'], .int .i64 k'] ∧ OwG w4.heap.size (fun w S => OwTheatre w S (Value.slice Y0 (cs').length y0) (Value.slice Y1 (pl').length y1) (Value.slice Y2 (ds').length y2) cs' pl' ds') 1 gh w5 := hd 4 (by kernel_rfl) _ rfl
    go_wp2_with fail
    exact ⟨rfl, _, rfl, rfl, hJ, Below.refl _ _⟩
   ·intro a gh w5 hag hJ hd
    dsimp only [bareO]
    clear hag
    go_wp2_with fail
    exact ⟨rfl, _, rfl, ⟨w5.heap.size, rfl, hJ.size, Loc.new w5 #[.int .i64 0, .slice none 0 0, .slice none 0 0, .slice none 0 0, .int .i64 0] 37, if_neg (Nat.lt_irrefl _), by simp⟩, hJ.alloc hJ.size _, (Below.refl _ _).alloc (Nat.le_refl _) _⟩
  ·intro a gh w5 hag hJ hd
   have ag0 := hag.kept 0 (by kernel_rfl)
   have ag1 := hag.kept 1 (by kernel_rfl)
   have ag2 := hag.kept 2 (by kernel_rfl)
   have ag3 : a.tmps.getD 3 undef = .pointer (some ⟨w.heap.size + 1, 0, none⟩) := hag.kept 3 (by kernel_rfl)
   have ag4 := hag.kept 4 (by kernel_rfl)
   have ag5 := hag.kept 5 (by kernel_rfl)
   have ag6 := hag.kept 6 (by kernel_rfl)
   have ag7 := hag.kept 7 (by kernel_rfl)
   have ag8 : a.tmps.getD 8 undef = .pointer (some ⟨w3.heap.size, 0, none⟩) := hag.kept 8 (by kernel_rfl)
   have ag11 := hag.kept 11 (by kernel_rfl)
   have ag12 := hag.kept 12 (by kernel_rfl)
   have ag13 := hag.kept 13 (by kernel_rfl)
   have ag14 := hag.kept 14 (by kernel_rfl)
   have ag15 := hag.kept 15 (by kernel_rfl)
   rw [act104xg hag.size hag.defers]
   clear hag
   obtain ⟨Y0, Y1, Y2, y0, y1, y2, e0, h2⟩ : ∃ (Y0 Y1 Y2 : Option Addr) (y0 y1 y2 : Nat), a.tmps.getD 36 undef = .agg #[.int .i64 n', (Value.slice Y0 (cs').length y0), (Value.slice Y1 (pl').length y1), (Value.slice Y2 (ds').length y2), .int .i64 m'] ∧ OwG w4.heap.size (fun w S => OwTheatre w S (Value.slice Y0 (cs').length y0) (Value.slice Y1 (pl').length y1) (Value.slice Y2 (ds').length y2) cs' pl' ds') 1 gh w5 := hd 5 (by kernel_rfl) _ rfl
   obtain ⟨xb, e8, hxb, Lx, hgx, hxlt⟩ : ∃ xb, a.tmps.getD 9 undef = .pointer (some ⟨xb, 0, none⟩) ∧ w4.heap.size ≤ xb ∧ Loc w5 xb [.int .i64 0, .slice none 0 0, .slice none 0 0, .slice none 0 0, .int .i64 0] ∧ gh xb = 2 ∧ xb < w5.heap.size := hd 7 (by kernel_rfl) _ rfl
   have e9 : a.tmps.getD 37 undef = .int .i64 k' := hd 6 (by kernel_rfl) _ rfl
   rw [ag0, ag1, ag2, ag3, ag4, ag5, ag6, ag7, ag8, ag11, ag12, ag13, ag14, ag15, e0, e8, e9]
   change wpList _ _ _ [_, _] _ _
   obtain ⟨S9, ow9, hnd9, hcl9⟩ := h2
   have HX : Hid (∀ b ∈ S9, b ∉ [xb]) := fun b hb hb' => by have h1 := (hcl9 b hb).2; simp at hb'; subst hb'; omega
   have HFR : Hid (Fresh w4.heap.size w5 S9) := ⟨hnd9, fun b hb => (hcl9 b hb).1⟩
   have HOW := Lib.hid ow9
   have f0 := (Lx 0 _ rfl).2
   have f1 := (Lx 1 _ rfl).2
   have f2 := (Lx 2 _ rfl).2
   have f3 := (Lx 3 _ rfl).2
   have f4 := (Lx 4 _ rfl).2
   have x0 := (Lx 0 _ rfl).1
   have x1 := (Lx 1 _ rfl).1
   have x2 := (Lx 2 _ rfl).1
   have x3 := (Lx 3 _ rfl).1
   have x4 := (Lx 4 _ rfl).1
   clear hd hcl9 ow9 hgx hnd9
   go_wp2_with fail
   go_meet
   case rel =>
    have hch : Chg [xb] w5 (((((w5.setCell ⟨xb, 0, none⟩ (.int .i64 n')).setCell ⟨xb, 1, none⟩ ((Value.slice Y0 (cs').length y0))).setCell ⟨xb, 2, none⟩ ((Value.slice Y1 (pl').length y1))).setCell ⟨xb, 3, none⟩ ((Value.slice Y2 (ds').length y2))).setCell ⟨xb, 4, none⟩ (.int .i64 m')) := by repeat' (first | (with_reducible exact Chg.refl _ _) | (with_reducible refine chg_set ?_ (by simp)))
    exact ⟨xb, Y0, Y1, Y2, y0, y1, y2, S9, rfl, rfl, (((((Lx.set (i := 0) (u := .int .i64 n') (v := .int .i64 0) rfl).set (i := 1) (u := (Value.slice Y0 (cs').length y0)) (v := .slice none 0 0) rfl).set (i := 2) (u := (Value.slice Y1 (pl').length y1)) (v := .slice none 0 0) rfl).set (i := 3) (u := (Value.slice Y2 (ds').length y2)) (v := .slice none 0 0) rfl).set (i := 4) (u := .int .i64 m') (v := .int .i64 0) rfl), HOW.out.chg hch HX.out, fresh_mono HFR.out (Nat.le_refl _) hch.size, ⟨⟨hxb, Nat.lt_of_lt_of_le hxlt hch.size⟩, HX.out⟩, Below.chg hJ hch hJ.size (by simp; omega)⟩
  ·intro a gh w5 hag hJ hd
   have ag0 := hag.kept 0 (by kernel_rfl)
   have ag1 := hag.kept 1 (by kernel_rfl)
   have ag2 := hag.kept 2 (by kernel_rfl)
   have ag3 : a.tmps.getD 3 undef = .pointer (some ⟨w.heap.size + 1, 0, none⟩) := hag.kept 3 (by kernel_rfl)
   have ag4 := hag.kept 4 (by kernel_rfl)
   have ag5 := hag.kept 5 (by kernel_rfl)
   have ag6 := hag.kept 6 (by kernel_rfl)
   have ag7 := hag.kept 7 (by kernel_rfl)
   have ag8 : a.tmps.getD 8 undef = .pointer (some ⟨w3.heap.size, 0, none⟩) := hag.kept 8 (by kernel_rfl)
   have ag11 := hag.kept 11 (by kernel_rfl)
   have ag12 := hag.kept 12 (by kernel_rfl)
   have ag13 := hag.kept 13 (by kernel_rfl)
   have ag14 := hag.kept 14 (by kernel_rfl)
   have ag15 := hag.kept 15 (by kernel_rfl)
   rw [act104xg hag.size hag.defers]
   clear hag
   obtain ⟨Y0, Y1, Y2, y0, y1, y2, e0, h2⟩ : ∃ (Y0 Y1 Y2 : Option Addr) (y0 y1 y2 : Nat), a.tmps.getD 36 undef = .agg #[.int .i64 n', (Value.slice Y0 (cs').length y0), (Value.slice Y1 (pl').length y1), (Value.slice Y2 (ds').length y2), .int .i64 m'] ∧ OwG w4.heap.size (fun w S => OwTheatre w S (Value.slice Y0 (cs').length y0) (Value.slice Y1 (pl').length y1) (Value.slice Y2 (ds').length y2) cs' pl' ds') 1 gh w5 := hd 5 (by kernel_rfl) (by decide) _ rfl
   obtain ⟨xb, e8, hxb, Lx, hgx, hxlt⟩ : ∃ xb, a.tmps.getD 9 undef = .pointer (some ⟨xb, 0, none⟩) ∧ w4.heap.size ≤ xb ∧ Loc w5 xb [.int .i64 0, .slice none 0 0, .slice none 0 0, .slice none 0 0, .int .i64 0] ∧ gh xb = 2 ∧ xb < w5.heap.size := hd 7 (by kernel_rfl) (by decide) _ rfl
   obtain ⟨Y0', Y1', Y2', y0', y1', y2', e9, _⟩ : ∃ (Y0' Y1' Y2' : Option Addr) (y0' y1' y2' : Nat), a.tmps.getD 31 undef = .tuple #[.agg #[.int .i64 n', (Value.slice Y0' (cs').length y0'), (Value.slice Y1' (pl').length y1'), (Value.slice Y2' (ds').length y2'), .int .i64 m'], .int .i64 k'] ∧ OwG w4.heap.size (fun w S => OwTheatre w S (Value.slice Y0' (cs').length y0') (Value.slice Y1' (pl').length y1') (Value.slice Y2' (ds').length y2') cs' pl' ds') 1 gh w5 := hd 4 (by kernel_rfl) (by decide) _ rfl
   rw [ag0, ag1, ag2, ag3, ag4, ag5, ag6, ag7, ag8, ag11, ag12, ag13, ag14, ag15, e0, e8, e9]
   change wpList _ _ _ [_, _, _] _ _
   obtain ⟨S9, ow9, hnd9, hcl9⟩ := h2
   have HX : Hid (∀ b ∈ S9, b ∉ [xb]) := fun b hb hb' => by have h1 := (hcl9 b hb).2; simp at hb'; subst hb'; omega
   have HFR : Hid (Fresh w4.heap.size w5 S9) := ⟨hnd9, fun b hb => (hcl9 b hb).1⟩
   have HOW := Lib.hid ow9
   have f0 := (Lx 0 _ rfl).2
   have f1 := (Lx 1 _ rfl).2
   have f2 := (Lx 2 _ rfl).2
   have f3 := (Lx 3 _ rfl).2
   have f4 := (Lx 4 _ rfl).2
   have x0 := (Lx 0 _ rfl).1
   have x1 := (Lx 1 _ rfl).1
   have x2 := (Lx 2 _ rfl).1
   have x3 := (Lx 3 _ rfl).1
   have x4 := (Lx 4 _ rfl).1
   clear hd hcl9 ow9 hgx hnd9
   go_wp2_with fail
   go_meet
   case rel =>
    have hch : Chg [xb] w5 (((((w5.setCell ⟨xb, 0, none⟩ (.int .i64 n')).setCell ⟨xb, 1, none⟩ ((Value.slice Y0 (cs').length y0))).setCell ⟨xb, 2, none⟩ ((Value.slice Y1 (pl').length y1))).setCell ⟨xb, 3, none⟩ ((Value.slice Y2 (ds').length y2))).setCell ⟨xb, 4, none⟩ (.int .i64 m')) := by repeat' (first | (with_reducible exact Chg.refl _ _) | (with_reducible refine chg_set ?_ (by simp)))
    exact ⟨xb, Y0, Y1, Y2, y0, y1, y2, S9, rfl, rfl, (((((Lx.set (i := 0) (u := .int .i64 n') (v := .int .i64 0) rfl).set (i := 1) (u := (Value.slice Y0 (cs').length y0)) (v := .slice none 0 0) rfl).set (i := 2) (u := (Value.slice Y1 (pl').length y1)) (v := .slice none 0 0) rfl).set (i := 3) (u := (Value.slice Y2 (ds').length y2)) (v := .slice none 0 0) rfl).set (i := 4) (u := .int .i64 m') (v := .int .i64 0) rfl), HOW.out.chg hch HX.out, fresh_mono HFR.out (Nat.le_refl _) hch.size, ⟨⟨hxb, Nat.lt_of_lt_of_le hxlt hch.size⟩, HX.out⟩, Below.chg hJ hch hJ.size (by simp; omega)⟩
 obtain ⟨xbg, Ag0_0, Ag0_1, Ag0_2, ng0_0, ng0_1, ng0_2, Sg0, rfl, rfl, Lx, og0, fg0, ⟨hxg, hpg⟩, q5⟩ := hcut
 obtain ⟨w5, rfl⟩ : ∃ W : World, W = wc := ⟨_, rfl⟩
 have b5 : Below w4.heap.size w4 w5 := q5
 have z5 : w4.heap.size ≤ w5.heap.size := q5.size
 have Hpg := Lib.hid hpg
 clear hpg
 have cg0_0 : w5.cell? ⟨xbg, 0, none⟩ = some (.int .i64 n') := (Lx 0 _ rfl).1
 have cg0_1 : w5.cell? ⟨xbg, 1, none⟩ = some ((Value.slice Ag0_0 (cs').length ng0_0)) := (Lx 1 _ rfl).1
 have cg0_2 : w5.cell? ⟨xbg, 2, none⟩ = some ((Value.slice Ag0_1 (pl').length ng0_1)) := (Lx 2 _ rfl).1
 have cg0_3 : w5.cell? ⟨xbg, 3, none⟩ = some ((Value.slice Ag0_2 (ds').length ng0_2)) := (Lx 3 _ rfl).1
 have cg0_4 : w5.cell? ⟨xbg, 4, none⟩ = some (.int .i64 m') := (Lx 4 _ rfl).1
 clear Lx
 replace ca0_0 := carry b5 ca0_0
 replace ca0_1 := carry b5 ca0_1
 replace ca0_2 := carry b5 ca0_2
 replace ca0_3 := carry b5 ca0_3
 replace ca0_4 := carry b5 ca0_4
 replace ca1_0 := carry b5 ca1_0
 replace ca1_1 := carry b5 ca1_1
 replace ca1_2 := carry b5 ca1_2
 replace cw0_0 := carry b5 cw0_0
 replace cw0_1 := carry b5 cw0_1
 replace cw0_2 := carry b5 cw0_2
 replace cw0_3 := carry b5 cw0_3
 replace cw0_4 := carry b5 cw0_4
 replace cx0_0 := carry b5 cx0_0
 replace cx0_1 := carry b5 cx0_1
 replace cx0_2 := carry b5 cx0_2
 replace cx0_3 := carry b5 cx0_3
 replace cx0_4 := carry b5 cx0_4
 replace ow0 := ow0.below b5
 replace ox0 := ox0.below b5
 replace hb : Below w.heap.size w w5 := bl_trans hb b5
 go_wp2_with fail
 refine (eqTheatre_any n' m' (Value.slice Ag0_0 (cs').length ng0_0) (Value.slice Ag0_1 (pl').length ng0_1) (Value.slice Ag0_2 (ds').length ng0_2) (Value.slice Aw0_0 (cs').length nw0_0) (Value.slice Aw0_1 (pl').length nw0_1) (Value.slice Aw0_2 (ds').length nw0_2) cs' pl' ds' _ (og0.rd.below (by (repeat' (first | exact Below.refl _ _ | (refine Below.setCell ?_ (by first | omega | (simp <;> omega)) _) | (refine Below.alloc ?_ (by first | omega | (simp <;> omega)) _) | (refine Below.drew ?_) | (refine below_drewN ?_ _) | (refine Below.trans ?_ (Below.mono (by assumption) (by first | omega | (simp <;> omega)))))))) (ow0.rd.below (by (repeat' (first | exact Below.refl _ _ | (refine Below.setCell ?_ (by first | omega | (simp <;> omega)) _) | (refine Below.alloc ?_ (by first | omega | (simp <;> omega)) _) | (refine Below.drew ?_) | (refine below_drewN ?_ _) | (refine Below.trans ?_ (Below.mono (by assumption) (by first | omega | (simp <;> omega))))))))).mono ?_
 rintro e w6 ⟨rfl, q6⟩
 have b6 : Below w5.heap.size w5 w6 := q6
 have z6 : w5.heap.size + 0 ≤ w6.heap.size := by have := q6.size; (try simp at this); omega
 replace ca0_0 := carry b6 ca0_0
 replace ca0_1 := carry b6 ca0_1
 replace ca0_2 := carry b6 ca0_2
 replace ca0_3 := carry b6 ca0_3
 replace ca0_4 := carry b6 ca0_4
 replace ca1_0 := carry b6 ca1_0
 replace ca1_1 := carry b6 ca1_1
 replace ca1_2 := carry b6 ca1_2
 replace cw0_0 := carry b6 cw0_0
 replace cw0_1 := carry b6 cw0_1
 replace cw0_2 := carry b6 cw0_2
 replace cw0_3 := carry b6 cw0_3
 replace cw0_4 := carry b6 cw0_4
 replace cx0_0 := carry b6 cx0_0
 replace cx0_1 := carry b6 cx0_1
 replace cx0_2 := carry b6 cx0_2
 replace cx0_3 := carry b6 cx0_3
 replace cx0_4 := carry b6 cx0_4
 replace cg0_0 := carry b6 cg0_0
 replace cg0_1 := carry b6 cg0_1
 replace cg0_2 := carry b6 cg0_2
 replace cg0_3 := carry b6 cg0_3
 replace cg0_4 := carry b6 cg0_4
 replace ow0 := ow0.below b6
 replace ox0 := ox0.below b6
 replace og0 := og0.below b6
 replace hb : Below w.heap.size w w6 := bl_trans hb b6
 go_wp2_with fail
 go_region_held3 (fun w' => w'.cell? ⟨w3.heap.size, 0, none⟩ = some (.int .i64 n) ∧ w'.cell? ⟨w3.heap.size, 1, none⟩ = some ((Value.slice Ax0_0 (cs).length nx0_0)) ∧ w'.cell? ⟨w3.heap.size, 2, none⟩ = some ((Value.slice Ax0_1 (pl).length nx0_1)) ∧ w'.cell? ⟨w3.heap.size, 3, none⟩ = some ((Value.slice Ax0_2 (ds).length nx0_2)) ∧ w'.cell? ⟨w3.heap.size, 4, none⟩ = some (.int .i64 m) ∧ w'.cell? ⟨w.heap.size, 0, none⟩ = some (.int .i64 n) ∧ w'.cell? ⟨w.heap.size, 1, none⟩ = some ((Value.slice Aa0_0 (cs).length na0_0)) ∧ w'.cell? ⟨w.heap.size, 2, none⟩ = some ((Value.slice Aa0_1 (pl).length na0_1)) ∧ w'.cell? ⟨w.heap.size, 3, none⟩ = some ((Value.slice Aa0_2 (ds).length na0_2)) ∧ w'.cell? ⟨w.heap.size, 4, none⟩ = some (.int .i64 m)) (exact ⟨cx0_0, cx0_1, cx0_2, cx0_3, cx0_4, ca0_0, ca0_1, ca0_2, ca0_3, ca0_4⟩) (first | (go_at_call 12; refine (toTheatre_any n m (Value.slice Aa0_0 (cs).length na0_0) (Value.slice Aa0_1 (pl).length na0_1) (Value.slice Aa0_2 (ds).length na0_2) cs pl ds _ (h0.below (by first | exact hb | exact hb.drew | exact below_drewN hb _)) hlen0).mono ?_; rintro e w7 ⟨vy0_1, vy0_2, vy0_3, Sy0, rfl, oy0, fy0, q7⟩; obtain ⟨⟨Ay0_0, ny0_0, rfl⟩, ⟨Ay0_1, ny0_1, rfl⟩, ⟨Ay0_2, ny0_2, rfl⟩⟩ := oy0.rd.forms; have b7 : Below w6.heap.size w6 w7 := (by first | exact q7 | exact ((Below.refl _ _).drew).trans q7 | exact (below_drewN (Below.refl _ _) _).trans q7); have z7 := b7.size; replace ca0_0 := carry b7 ca0_0; replace ca0_1 := carry b7 ca0_1; replace ca0_2 := carry b7 ca0_2; replace ca0_3 := carry b7 ca0_3; replace ca0_4 := carry b7 ca0_4; replace ca1_0 := carry b7 ca1_0; replace ca1_1 := carry b7 ca1_1; replace ca1_2 := carry b7 ca1_2; replace cw0_0 := carry b7 cw0_0; replace cw0_1 := carry b7 cw0_1; replace cw0_2 := carry b7 cw0_2; replace cw0_3 := carry b7 cw0_3; replace cw0_4 := carry b7 cw0_4; replace cx0_0 := carry b7 cx0_0; replace cx0_1 := carry b7 cx0_1; replace cx0_2 := carry b7 cx0_2; replace cx0_3 := carry b7 cx0_3; replace cx0_4 := carry b7 cx0_4; replace cg0_0 := carry b7 cg0_0; replace cg0_1 := carry b7 cg0_1; replace cg0_2 := carry b7 cg0_2; replace cg0_3 := carry b7 cg0_3; replace cg0_4 := carry b7 cg0_4; replace ow0 := ow0.below b7; replace ox0 := ox0.below b7; replace og0 := og0.below b7; replace hb : Below w.heap.size w w7 := bl_trans hb b7) | (go_at_call 15; refine (eqTheatre_any n m (Value.slice Ax0_0 (cs).length nx0_0) (Value.slice Ax0_1 (pl).length nx0_1) (Value.slice Ax0_2 (ds).length nx0_2) (Value.slice Ay0_0 (cs).length ny0_0) (Value.slice Ay0_1 (pl).length ny0_1) (Value.slice Ay0_2 (ds).length ny0_2) cs pl ds _ ox0.rd oy0.rd).mono ?_; rintro e w8 ⟨rfl, q8⟩; have b8 : Below w7.heap.size w7 w8 := (by first | exact q8 | exact ((Below.refl _ _).drew).trans q8 | exact (below_drewN (Below.refl _ _) _).trans q8); have z8 := b8.size; replace ca0_0 := carry b8 ca0_0; replace ca0_1 := carry b8 ca0_1; replace ca0_2 := carry b8 ca0_2; replace ca0_3 := carry b8 ca0_3; replace ca0_4 := carry b8 ca0_4; replace ca1_0 := carry b8 ca1_0; replace ca1_1 := carry b8 ca1_1; replace ca1_2 := carry b8 ca1_2; replace cw0_0 := carry b8 cw0_0; replace cw0_1 := carry b8 cw0_1; replace cw0_2 := carry b8 cw0_2; replace cw0_3 := carry b8 cw0_3; replace cw0_4 := carry b8 cw0_4; replace cx0_0 := carry b8 cx0_0; replace cx0_1 := carry b8 cx0_1; replace cx0_2 := carry b8 cx0_2; replace cx0_3 := carry b8 cx0_3; replace cx0_4 := carry b8 cx0_4; replace cg0_0 := carry b8 cg0_0; replace cg0_1 := carry b8 cg0_1; replace cg0_2 := carry b8 cg0_2; replace cg0_3 := carry b8 cg0_3; replace cg0_4 := carry b8 cg0_4; replace ow0 := ow0.below b8; replace ox0 := ox0.below b8; replace og0 := og0.below b8; replace oy0 := oy0.below b8; replace hb : Below w.heap.size w w8 := bl_trans hb b8))
 go_wp2_with fail
 refine (markTheatre_any n m (Value.slice Ax0_0 (cs).length nx0_0) (Value.slice Ax0_1 (pl).length nx0_1) (Value.slice Ax0_2 (ds).length nx0_2) cs pl ds 1 _ _ _ ox0 (fresh_mono fx0 (Nat.le_refl _) (by omega)) (by omega) (by omega)).mono ?_
 rintro e w9 ⟨rfl, mx0, q9⟩
 have z9 := q9.size
 replace ca0_0 := carryChg q9 ca0_0 (fresh_not fx0 (by omega))
 replace ca0_1 := carryChg q9 ca0_1 (fresh_not fx0 (by omega))
 replace ca0_2 := carryChg q9 ca0_2 (fresh_not fx0 (by omega))
 replace ca0_3 := carryChg q9 ca0_3 (fresh_not fx0 (by omega))
 replace ca0_4 := carryChg q9 ca0_4 (fresh_not fx0 (by omega))
 replace ca1_0 := carryChg q9 ca1_0 (fresh_not fx0 (by omega))
 replace ca1_1 := carryChg q9 ca1_1 (fresh_not fx0 (by omega))
 replace ca1_2 := carryChg q9 ca1_2 (fresh_not fx0 (by omega))
 replace cw0_0 := carryChg q9 cw0_0 (fresh_not fx0 (by omega))
 replace cw0_1 := carryChg q9 cw0_1 (fresh_not fx0 (by omega))
 replace cw0_2 := carryChg q9 cw0_2 (fresh_not fx0 (by omega))
 replace cw0_3 := carryChg q9 cw0_3 (fresh_not fx0 (by omega))
 replace cw0_4 := carryChg q9 cw0_4 (fresh_not fx0 (by omega))
 replace cx0_0 := carryChg q9 cx0_0 (fresh_not fx0 (by omega))
 replace cx0_1 := carryChg q9 cx0_1 (fresh_not fx0 (by omega))
 replace cx0_2 := carryChg q9 cx0_2 (fresh_not fx0 (by omega))
 replace cx0_3 := carryChg q9 cx0_3 (fresh_not fx0 (by omega))
 replace cx0_4 := carryChg q9 cx0_4 (fresh_not fx0 (by omega))
 replace cg0_0 := carryChg q9 cg0_0 (fresh_not fx0 (by omega))
 replace cg0_1 := carryChg q9 cg0_1 (fresh_not fx0 (by omega))
 replace cg0_2 := carryChg q9 cg0_2 (fresh_not fx0 (by omega))
 replace cg0_3 := carryChg q9 cg0_3 (fresh_not fx0 (by omega))
 replace cg0_4 := carryChg q9 cg0_4 (fresh_not fx0 (by omega))
 replace ow0 := ow0.chg q9 (fresh_disj fw0 fx0 (by omega))
 replace og0 := og0.chg q9 (fresh_disj fg0 fx0 (by omega))
 replace hb : Below w.heap.size w w9 := Below.chg hb q9 (by omega) (fun b hb => by have := fx0.2 b hb; omega)
 go_wp2_with fail
 refine (eqTheatre_any n' m' (Value.slice Ag0_0 (cs').length ng0_0) (Value.slice Ag0_1 (pl').length ng0_1) (Value.slice Ag0_2 (ds').length ng0_2) (Value.slice Aw0_0 (cs').length nw0_0) (Value.slice Aw0_1 (pl').length nw0_1) (Value.slice Aw0_2 (ds').length nw0_2) cs' pl' ds' _ (og0.rd.below (by (repeat' (first | exact Below.refl _ _ | (refine Below.setCell ?_ (by first | omega | (simp <;> omega)) _) | (refine Below.alloc ?_ (by first | omega | (simp <;> omega)) _) | (refine Below.drew ?_) | (refine below_drewN ?_ _) | (refine Below.trans ?_ (Below.mono (by assumption) (by first | omega | (simp <;> omega)))))))) (ow0.rd.below (by (repeat' (first | exact Below.refl _ _ | (refine Below.setCell ?_ (by first | omega | (simp <;> omega)) _) | (refine Below.alloc ?_ (by first | omega | (simp <;> omega)) _) | (refine Below.drew ?_) | (refine below_drewN ?_ _) | (refine Below.trans ?_ (Below.mono (by assumption) (by first | omega | (simp <;> omega))))))))).mono ?_
 rintro e w10 ⟨rfl, q10⟩
 have b10 : Below w9.heap.size w9 w10 := q10
 have z10 : w9.heap.size + 0 ≤ w10.heap.size := by have := q10.size; (try simp at this); omega
 replace ca0_0 := carry b10 ca0_0
 replace ca0_1 := carry b10 ca0_1
 replace ca0_2 := carry b10 ca0_2
 replace ca0_3 := carry b10 ca0_3
 replace ca0_4 := carry b10 ca0_4
 replace ca1_0 := carry b10 ca1_0
 replace ca1_1 := carry b10 ca1_1
 replace ca1_2 := carry b10 ca1_2
 replace cw0_0 := carry b10 cw0_0
 replace cw0_1 := carry b10 cw0_1
 replace cw0_2 := carry b10 cw0_2
 replace cw0_3 := carry b10 cw0_3
 replace cw0_4 := carry b10 cw0_4
 replace cx0_0 := carry b10 cx0_0
 replace cx0_1 := carry b10 cx0_1
 replace cx0_2 := carry b10 cx0_2
 replace cx0_3 := carry b10 cx0_3
 replace cx0_4 := carry b10 cx0_4
 replace cg0_0 := carry b10 cg0_0
 replace cg0_1 := carry b10 cg0_1
 replace cg0_2 := carry b10 cg0_2
 replace cg0_3 := carry b10 cg0_3
 replace cg0_4 := carry b10 cg0_4
 replace ow0 := ow0.below b10
 replace og0 := og0.below b10
 replace hb : Below w.heap.size w w10 := bl_trans hb b10
 go_wp2_with fail
 refine (markTheatre_any n' m' (Value.slice Ag0_0 (cs').length ng0_0) (Value.slice Ag0_1 (pl').length ng0_1) (Value.slice Ag0_2 (ds').length ng0_2) cs' pl' ds' 1 _ _ _ og0 (fresh_mono fg0 (Nat.le_refl _) (by omega)) (by omega) (by omega)).mono ?_
 rintro e w11 ⟨rfl, mg0, q11⟩
 have z11 := q11.size
 replace ca0_0 := carryChg q11 ca0_0 (fresh_not fg0 (by omega))
 replace ca0_1 := carryChg q11 ca0_1 (fresh_not fg0 (by omega))
 replace ca0_2 := carryChg q11 ca0_2 (fresh_not fg0 (by omega))
 replace ca0_3 := carryChg q11 ca0_3 (fresh_not fg0 (by omega))
 replace ca0_4 := carryChg q11 ca0_4 (fresh_not fg0 (by omega))
 replace ca1_0 := carryChg q11 ca1_0 (fresh_not fg0 (by omega))
 replace ca1_1 := carryChg q11 ca1_1 (fresh_not fg0 (by omega))
 replace ca1_2 := carryChg q11 ca1_2 (fresh_not fg0 (by omega))
 replace cw0_0 := carryChg q11 cw0_0 (fresh_not fg0 (by omega))
 replace cw0_1 := carryChg q11 cw0_1 (fresh_not fg0 (by omega))
 replace cw0_2 := carryChg q11 cw0_2 (fresh_not fg0 (by omega))
 replace cw0_3 := carryChg q11 cw0_3 (fresh_not fg0 (by omega))
 replace cw0_4 := carryChg q11 cw0_4 (fresh_not fg0 (by omega))
 replace cx0_0 := carryChg q11 cx0_0 (fresh_not fg0 (by omega))
 replace cx0_1 := carryChg q11 cx0_1 (fresh_not fg0 (by omega))
 replace cx0_2 := carryChg q11 cx0_2 (fresh_not fg0 (by omega))
 replace cx0_3 := carryChg q11 cx0_3 (fresh_not fg0 (by omega))
 replace cx0_4 := carryChg q11 cx0_4 (fresh_not fg0 (by omega))
 replace cg0_0 := carryChg q11 cg0_0 (fun hm => Hpg.out _ hm (by simp))
 replace cg0_1 := carryChg q11 cg0_1 (fun hm => Hpg.out _ hm (by simp))
 replace cg0_2 := carryChg q11 cg0_2 (fun hm => Hpg.out _ hm (by simp))
 replace cg0_3 := carryChg q11 cg0_3 (fun hm => Hpg.out _ hm (by simp))
 replace cg0_4 := carryChg q11 cg0_4 (fun hm => Hpg.out _ hm (by simp))
 replace ow0 := ow0.chg q11 (fresh_disj fw0 fg0 (by omega))
 replace hb : Below w.heap.size w w11 := Below.chg hb q11 (by omega) (fun b hb => by have := fg0.2 b hb; omega)
 go_wp2_with fail
 refine (heldTheatre_any n' m' (Value.slice Ag0_0 (cs').length ng0_0) (Value.slice Ag0_1 (pl').length ng0_1) (Value.slice Ag0_2 (ds').length ng0_2) cs' pl' ds' 1 _ _ (mg0.below (by (repeat' (first | exact Below.refl _ _ | (refine Below.setCell ?_ (by first | omega | (simp <;> omega)) _) | (refine Below.alloc ?_ (by first | omega | (simp <;> omega)) _) | (refine Below.drew ?_) | (refine below_drewN ?_ _) | (refine Below.trans ?_ (Below.mono (by assumption) (by first | omega | (simp <;> omega)))))))) (by omega) (by omega)).mono ?_
 rintro e w12 ⟨rfl, q12⟩
 have b12 : Below w11.heap.size w11 w12 := q12
 have z12 : w11.heap.size + 0 ≤ w12.heap.size := by have := q12.size; (try simp at this); omega
 replace ca0_0 := carry b12 ca0_0
 replace ca0_1 := carry b12 ca0_1
 replace ca0_2 := carry b12 ca0_2
 replace ca0_3 := carry b12 ca0_3
 replace ca0_4 := carry b12 ca0_4
 replace ca1_0 := carry b12 ca1_0
 replace ca1_1 := carry b12 ca1_1
 replace ca1_2 := carry b12 ca1_2
 replace cw0_0 := carry b12 cw0_0
 replace cw0_1 := carry b12 cw0_1
 replace cw0_2 := carry b12 cw0_2
 replace cw0_3 := carry b12 cw0_3
 replace cw0_4 := carry b12 cw0_4
 replace cx0_0 := carry b12 cx0_0
 replace cx0_1 := carry b12 cx0_1
 replace cx0_2 := carry b12 cx0_2
 replace cx0_3 := carry b12 cx0_3
 replace cx0_4 := carry b12 cx0_4
 replace cg0_0 := carry b12 cg0_0
 replace cg0_1 := carry b12 cg0_1
 replace cg0_2 := carry b12 cg0_2
 replace cg0_3 := carry b12 cg0_3
 replace cg0_4 := carry b12 cg0_4
 replace ow0 := ow0.below b12
 replace mg0 := mg0.below b12
 replace hb : Below w.heap.size w w12 := bl_trans hb b12
 go_upto_region 24 with (fail)
 go_cut [14, 15] (fun s6 s7 wx => ∃ (xb : Nat) (Y0 Y1 Y2 : Option Addr) (y0 y1 y2 : Nat) (S : List Nat), s6 = .pointer (some ⟨xb, 0, none⟩) ∧ s7 = .int .i64 k' ∧ Loc wx xb [.int .i64 n', (Value.slice Y0 (cs').length y0), (Value.slice Y1 (pl').length y1), (Value.slice Y2 (ds').length y2), .int .i64 m'] ∧ (OwTheatre wx S (Value.slice Y0 (cs').length y0) (Value.slice Y1 (pl').length y1) (Value.slice Y2 (ds').length y2) cs' pl' ds') ∧ Fresh w12.heap.size wx S ∧ ((w12.heap.size ≤ xb ∧ xb < wx.heap.size) ∧ ∀ b ∈ S, b ∉ [xb]) ∧ Below w12.heap.size w12 wx)
 case first =>
  refine region_pendL (n := 104) 9 7 (by kernel_rfl) rfl (by kernel_rfl) [] (by kernel_rfl) (fun _ => false) (fun w' => Below w12.heap.size w12 w') (fun i => if i = 8 then 2 else 1) (pxh w12.heap.size n' m' k' n m ka aa ba Aa0_0 Aa0_1 Aa0_2 na0_0 na0_1 na0_2 cs' pl' ds' cs pl ds) trivial (Below.refl _ _).drew ?_ ?_ ?_ ?_
  ·intro i v gh gh' w1 w2 hp hJ hb' hg
   match i, hp with
   | 0, hp => exact hp
   | 1, hp => exact (by obtain ⟨T00, T01, T02, t00, t01, t02, h1, h2⟩ := hp; exact ⟨T00, T01, T02, t00, t01, t02, h1, h2.below hb'⟩)
   | 2, hp => exact hp
   | 3, hp => exact hp
   | 4, hp => exact (by obtain ⟨Y0, Y1, Y2, y0, y1, y2, h1, h2⟩ := hp; exact ⟨Y0, Y1, Y2, y0, y1, y2, h1, h2.keep (fun S h => h.below hb') hb' hg⟩)
   | 5, hp => exact (by obtain ⟨Y0, Y1, Y2, y0, y1, y2, h1, h2⟩ := hp; exact ⟨Y0, Y1, Y2, y0, y1, y2, h1, h2.keep (fun S h => h.below hb') hb' hg⟩)
   | 6, hp => exact (by obtain ⟨Y0, Y1, Y2, y0, y1, y2, h1, h2⟩ := hp; exact ⟨Y0, Y1, Y2, y0, y1, y2, h1, h2.keep (fun S h => h.below hb') hb' hg⟩)
   | 7, hp => exact hp
   | 8, hp => exact (by obtain ⟨xb, h1, h2, h3, h4, h5⟩ := hp; exact ⟨xb, h1, h2, h3.below hb', (hg _ h5).trans h4, Nat.lt_of_lt_of_le h5 hb'.size⟩)
   | _ + 9, _ => trivial
  ·refine ⟨?_, ?_, ?_, ?_, ?_, ?_, ?_, ?_, ?_, trivial⟩
   ·intro a gh w5 hag hJ hd
    dsimp only [bareO]
    have ag2 : a.tmps.getD 2 undef = .pointer (some ⟨w.heap.size, 0, none⟩) := hag.kept 2 (by kernel_rfl)
    clear hag
    have ka0_0 := carry hJ ca0_0
    have ka0_1 := carry hJ ca0_1
    have ka0_2 := carry hJ ca0_2
    have ka0_3 := carry hJ ca0_3
    have ka0_4 := carry hJ ca0_4
    go_wp2_with fail
    exact ⟨rfl, _, rfl, rfl, hJ, Below.refl _ _⟩
   ·intro a gh w5 hag hJ hd
    dsimp only [bareO]
    clear hag
    have e0 : a.tmps.getD 80 undef = .agg #[.int .i64 n, (Value.slice Aa0_0 (cs).length na0_0), (Value.slice Aa0_1 (pl).length na0_1), (Value.slice Aa0_2 (ds).length na0_2), .int .i64 m] := hd 0 (by kernel_rfl) _ rfl
    go_wp2_with fail
    refine (toTheatre_any n m (Value.slice Aa0_0 (cs).length na0_0) (Value.slice Aa0_1 (pl).length na0_1) (Value.slice Aa0_2 (ds).length na0_2) cs pl ds w5 (h0.below (hb.trans (hJ.mono hb.size))) hlen0).mono ?_
    rintro e w6 ⟨v60, v61, v62, S6, rfl, o6, f6, hb6⟩
    obtain ⟨⟨G0, g0, rfl⟩, ⟨G1, g1, rfl⟩, ⟨G2, g2, rfl⟩⟩ := o6.rd.forms
    go_wp2_with fail
    exact ⟨rfl, _, rfl, ⟨_, _, _, _, _, _, rfl, o6.rd⟩, bl_trans hJ hb6, hb6⟩
   ·intro a gh w5 hag hJ hd
    dsimp only [bareO]
    have ag3 : a.tmps.getD 3 undef = .pointer (some ⟨w.heap.size + 1, 0, none⟩) := hag.kept 3 (by kernel_rfl)
    clear hag
    have ka1_0 := carry hJ ca1_0
    have ka1_1 := carry hJ ca1_1
    have ka1_2 := carry hJ ca1_2
    go_wp2_with fail
    exact ⟨rfl, _, rfl, rfl, hJ, Below.refl _ _⟩
   ·intro a gh w5 hag hJ hd
    dsimp only [bareO]
    clear hag
    have e0 : a.tmps.getD 82 undef = .agg #[.int .i64 ka, .int .i64 aa, .int .i64 ba] := hd 2 (by kernel_rfl) _ rfl
    go_wp2_with fail
    refine (toAct_any ka aa ba w5).mono ?_
    rintro e w6 ⟨rfl, hb6⟩
    go_wp2_with fail
    exact ⟨rfl, _, rfl, rfl, bl_trans hJ hb6, hb6⟩
   ·intro a gh w5 hag hJ hd
    dsimp only [bareO]
    clear hag
    have e0 : a.tmps.getD 83 undef = .agg #[.int .i64 ka, .int .i64 aa, .int .i64 ba] := hd 3 (by kernel_rfl) _ rfl
    obtain ⟨T00, T01, T02, t00, t01, t02, e10, h10⟩ : ∃ (T00 T01 T02 : Option Addr) (t00 t01 t02 : Nat), a.tmps.getD 81 undef = .agg #[.int .i64 n, (Value.slice T00 (cs).length t00), (Value.slice T01 (pl).length t01), (Value.slice T02 (ds).length t02), .int .i64 m] ∧ RdTheatre w5 (Value.slice T00 (cs).length t00) (Value.slice T01 (pl).length t01) (Value.slice T02 (ds).length t02) cs pl ds := hd 1 (by kernel_rfl) _ rfl
    go_wp2_with fail
    refine (C2.out _ _ _ _ h10 hlen0).mono ?_
    rintro e w6 ⟨v61, v62, v63, S6, rfl, o6, f6, hb6⟩
    obtain ⟨⟨G0, g0, rfl⟩, ⟨G1, g1, rfl⟩, ⟨G2, g2, rfl⟩⟩ := o6.rd.forms
    go_wp2_with fail
    exact ⟨rfl, _, rfl, ⟨_, _, _, _, _, _, rfl, OwG.of_fresh o6 f6 hJ.size⟩, bl_trans hJ hb6, hb6⟩
   ·intro a gh w5 hag hJ hd
    dsimp only [bareO]
    clear hag
    obtain ⟨Y0, Y1, Y2, y0, y1, y2, e0, h2⟩ : ∃ (Y0 Y1 Y2 : Option Addr) (y0 y1 y2 : Nat), a.tmps.getD 84 undef = .tuple #[.agg #[.int .i64 n', (Value.slice Y0 (cs').length y0), (Value.slice Y1 (pl').length y1), (Value.slice Y2 (ds').length y2), .int .i64 m'], .int .i64 k'] ∧ OwG w12.heap.size (fun w S => OwTheatre w S (Value.slice Y0 (cs').length y0) (Value.slice Y1 (pl').length y1) (Value.slice Y2 (ds').length y2) cs' pl' ds') 1 gh w5 := hd 4 (by kernel_rfl) _ rfl
    go_wp2_with fail
    exact ⟨rfl, _, rfl, ⟨Y0, Y1, Y2, y0, y1, y2, rfl, h2.same _⟩, hJ, Below.refl _ _⟩
   ·intro a gh w5 hag hJ hd
    dsimp only [bareO]
    clear hag
    obtain ⟨Y0, Y1, Y2, y0, y1, y2, e0, h2⟩ : ∃ (Y0 Y1 Y2 : Option Addr) (y0 y1 y2 : Nat), a.tmps.getD 79 undef = .tuple #[.agg #[.int .i64 n', (Value.slice Y0 (cs').length y0), (Value.slice Y1 (pl').length y1), (Value.slice Y2 (ds').length y2), .int .i64 m'], .int .i64 k'] ∧ OwG w12.heap.size (fun w S => OwTheatre w S (Value.slice Y0 (cs').length y0) (Value.slice Y1 (pl').length y1) (Value.slice Y2 (ds').length y2) cs' pl' ds') 1 gh w5 := hd 5 (by kernel_rfl) _ rfl
    go_wp2_with fail
    exact ⟨rfl, _, rfl, ⟨Y0, Y1, Y2, y0, y1, y2, rfl, h2.same _⟩, hJ, Below.refl _ _⟩
   ·intro a gh w5 hag hJ hd
    dsimp only [bareO]
    clear hag
    obtain ⟨Y0, Y1, Y2, y0, y1, y2, e0, h2⟩ : ∃ (Y0 Y1 Y2 : Option Addr) (y0 y1 y2 : Nat), a.tmps.getD 79 undef = .tuple #[.agg #[.int .i64 n', (Value.slice Y0 (cs').length y0), (Value.slice Y1 (pl').length y1), (Value.slice Y2 (ds').length y2), .int .i64 m'], .int .i64 k'] ∧ OwG w12.heap.size (fun w S => OwTheatre w S (Value.slice Y0 (cs').length y0) (Value.slice Y1 (pl').length y1) (Value.slice Y2 (ds').length y2) cs' pl' ds') 1 gh w5 := hd 5 (by kernel_rfl) _ rfl
    go_wp2_with fail
    exact ⟨rfl, _, rfl, rfl, hJ, Below.refl _ _⟩
   ·intro a gh w5 hag hJ hd
    dsimp only [bareO]
    clear hag
    go_wp2_with fail
    exact ⟨rfl, _, rfl, ⟨w5.heap.size, rfl, hJ.size, Loc.new w5 #[.int .i64 0, .slice none 0 0, .slice none 0 0, .slice none 0 0, .int .i64 0] 37, if_neg (Nat.lt_irrefl _), by simp⟩, hJ.alloc hJ.size _, (Below.refl _ _).alloc (Nat.le_refl _) _⟩
  ·intro a gh w5 hag hJ hd
   have ag0 := hag.kept 0 (by kernel_rfl)
   have ag1 := hag.kept 1 (by kernel_rfl)
   have ag2 : a.tmps.getD 2 undef = .pointer (some ⟨w.heap.size, 0, none⟩) := hag.kept 2 (by kernel_rfl)
   have ag3 : a.tmps.getD 3 undef = .pointer (some ⟨w.heap.size + 1, 0, none⟩) := hag.kept 3 (by kernel_rfl)
   have ag4 := hag.kept 4 (by kernel_rfl)
   have ag5 := hag.kept 5 (by kernel_rfl)
   have ag6 := hag.kept 6 (by kernel_rfl)
   have ag7 := hag.kept 7 (by kernel_rfl)
   have ag8 := hag.kept 8 (by kernel_rfl)
   have ag9 := hag.kept 9 (by kernel_rfl)
   have ag10 := hag.kept 10 (by kernel_rfl)
   have ag11 := hag.kept 11 (by kernel_rfl)
   have ag12 := hag.kept 12 (by kernel_rfl)
   have ag13 := hag.kept 13 (by kernel_rfl)
   rw [act104xh hag.size hag.defers]
   clear hag
   obtain ⟨Y0, Y1, Y2, y0, y1, y2, e0, h2⟩ : ∃ (Y0 Y1 Y2 : Option Addr) (y0 y1 y2 : Nat), a.tmps.getD 85 undef = .agg #[.int .i64 n', (Value.slice Y0 (cs').length y0), (Value.slice Y1 (pl').length y1), (Value.slice Y2 (ds').length y2), .int .i64 m'] ∧ OwG w12.heap.size (fun w S => OwTheatre w S (Value.slice Y0 (cs').length y0) (Value.slice Y1 (pl').length y1) (Value.slice Y2 (ds').length y2) cs' pl' ds') 1 gh w5 := hd 6 (by kernel_rfl) _ rfl
   obtain ⟨xb, e8, hxb, Lx, hgx, hxlt⟩ : ∃ xb, a.tmps.getD 14 undef = .pointer (some ⟨xb, 0, none⟩) ∧ w12.heap.size ≤ xb ∧ Loc w5 xb [.int .i64 0, .slice none 0 0, .slice none 0 0, .slice none 0 0, .int .i64 0] ∧ gh xb = 2 ∧ xb < w5.heap.size := hd 8 (by kernel_rfl) _ rfl
   have e9 : a.tmps.getD 86 undef = .int .i64 k' := hd 7 (by kernel_rfl) _ rfl
   rw [ag0, ag1, ag2, ag3, ag4, ag5, ag6, ag7, ag8, ag9, ag10, ag11, ag12, ag13, e0, e8, e9]
   change wpList _ _ _ [_, _] _ _
   obtain ⟨S9, ow9, hnd9, hcl9⟩ := h2
   have HX : Hid (∀ b ∈ S9, b ∉ [xb]) := fun b hb hb' => by have h1 := (hcl9 b hb).2; simp at hb'; subst hb'; omega
   have HFR : Hid (Fresh w12.heap.size w5 S9) := ⟨hnd9, fun b hb => (hcl9 b hb).1⟩
   have HOW := Lib.hid ow9
   have f0 := (Lx 0 _ rfl).2
   have f1 := (Lx 1 _ rfl).2
   have f2 := (Lx 2 _ rfl).2
   have f3 := (Lx 3 _ rfl).2
   have f4 := (Lx 4 _ rfl).2
   have x0 := (Lx 0 _ rfl).1
   have x1 := (Lx 1 _ rfl).1
   have x2 := (Lx 2 _ rfl).1
   have x3 := (Lx 3 _ rfl).1
   have x4 := (Lx 4 _ rfl).1
   clear hd hcl9 ow9 hgx hnd9
   go_wp2_with fail
   go_meet
   case rel =>
    have hch : Chg [xb] w5 (((((w5.setCell ⟨xb, 0, none⟩ (.int .i64 n')).setCell ⟨xb, 1, none⟩ ((Value.slice Y0 (cs').length y0))).setCell ⟨xb, 2, none⟩ ((Value.slice Y1 (pl').length y1))).setCell ⟨xb, 3, none⟩ ((Value.slice Y2 (ds').length y2))).setCell ⟨xb, 4, none⟩ (.int .i64 m')) := by repeat' (first | (with_reducible exact Chg.refl _ _) | (with_reducible refine chg_set ?_ (by simp)))
    exact ⟨xb, Y0, Y1, Y2, y0, y1, y2, S9, rfl, rfl, (((((Lx.set (i := 0) (u := .int .i64 n') (v := .int .i64 0) rfl).set (i := 1) (u := (Value.slice Y0 (cs').length y0)) (v := .slice none 0 0) rfl).set (i := 2) (u := (Value.slice Y1 (pl').length y1)) (v := .slice none 0 0) rfl).set (i := 3) (u := (Value.slice Y2 (ds').length y2)) (v := .slice none 0 0) rfl).set (i := 4) (u := .int .i64 m') (v := .int .i64 0) rfl), HOW.out.chg hch HX.out, fresh_mono HFR.out (Nat.le_refl _) hch.size, ⟨⟨hxb, Nat.lt_of_lt_of_le hxlt hch.size⟩, HX.out⟩, Below.chg hJ hch hJ.size (by simp; omega)⟩
  ·intro a gh w5 hag hJ hd
   have ag0 := hag.kept 0 (by kernel_rfl)
   have ag1 := hag.kept 1 (by kernel_rfl)
   have ag2 : a.tmps.getD 2 undef = .pointer (some ⟨w.heap.size, 0, none⟩) := hag.kept 2 (by kernel_rfl)
   have ag3 : a.tmps.getD 3 undef = .pointer (some ⟨w.heap.size + 1, 0, none⟩) := hag.kept 3 (by kernel_rfl)
   have ag4 := hag.kept 4 (by kernel_rfl)
   have ag5 := hag.kept 5 (by kernel_rfl)
   have ag6 := hag.kept 6 (by kernel_rfl)
   have ag7 := hag.kept 7 (by kernel_rfl)
   have ag8 := hag.kept 8 (by kernel_rfl)
   have ag9 := hag.kept 9 (by kernel_rfl)
   have ag10 := hag.kept 10 (by kernel_rfl)
   have ag11 := hag.kept 11 (by kernel_rfl)
   have ag12 := hag.kept 12 (by kernel_rfl)
   have ag13 := hag.kept 13 (by kernel_rfl)
   rw [act104xh hag.size hag.defers]
   clear hag
   obtain ⟨Y0, Y1, Y2, y0, y1, y2, e0, h2⟩ : ∃ (Y0 Y1 Y2 : Option Addr) (y0 y1 y2 : Nat), a.tmps.getD 85 undef = .agg #[.int .i64 n', (Value.slice Y0 (cs').length y0), (Value.slice Y1 (pl').length y1), (Value.slice Y2 (ds').length y2), .int .i64 m'] ∧ OwG w12.heap.size (fun w S => OwTheatre w S (Value.slice Y0 (cs').length y0) (Value.slice Y1 (pl').length y1) (Value.slice Y2 (ds').length y2) cs' pl' ds') 1 gh w5 := hd 6 (by kernel_rfl) (by decide) _ rfl
   obtain ⟨xb, e8, hxb, Lx, hgx, hxlt⟩ : ∃ xb, a.tmps.getD 14 undef = .pointer (some ⟨xb, 0, none⟩) ∧ w12.heap.size ≤ xb ∧ Loc w5 xb [.int .i64 0, .slice none 0 0, .slice none 0 0, .slice none 0 0, .int .i64 0] ∧ gh xb = 2 ∧ xb < w5.heap.size := hd 8 (by kernel_rfl) (by decide) _ rfl
   obtain ⟨Y0', Y1', Y2', y0', y1', y2', e9, _⟩ : ∃ (Y0' Y1' Y2' : Option Addr) (y0' y1' y2' : Nat), a.tmps.getD 79 undef = .tuple #[.agg #[.int .i64 n', (Value.slice Y0' (cs').length y0'), (Value.slice Y1' (pl').length y1'), (Value.slice Y2' (ds').length y2'), .int .i64 m'], .int .i64 k'] ∧ OwG w12.heap.size (fun w S => OwTheatre w S (Value.slice Y0' (cs').length y0') (Value.slice Y1' (pl').length y1') (Value.slice Y2' (ds').length y2') cs' pl' ds') 1 gh w5 := hd 5 (by kernel_rfl) (by decide) _ rfl
   rw [ag0, ag1, ag2, ag3, ag4, ag5, ag6, ag7, ag8, ag9, ag10, ag11, ag12, ag13, e0, e8, e9]
   change wpList _ _ _ [_, _, _] _ _
   obtain ⟨S9, ow9, hnd9, hcl9⟩ := h2
   have HX : Hid (∀ b ∈ S9, b ∉ [xb]) := fun b hb hb' => by have h1 := (hcl9 b hb).2; simp at hb'; subst hb'; omega
   have HFR : Hid (Fresh w12.heap.size w5 S9) := ⟨hnd9, fun b hb => (hcl9 b hb).1⟩
   have HOW := Lib.hid ow9
   have f0 := (Lx 0 _ rfl).2
   have f1 := (Lx 1 _ rfl).2
   have f2 := (Lx 2 _ rfl).2
   have f3 := (Lx 3 _ rfl).2
   have f4 := (Lx 4 _ rfl).2
   have x0 := (Lx 0 _ rfl).1
   have x1 := (Lx 1 _ rfl).1
   have x2 := (Lx 2 _ rfl).1
   have x3 := (Lx 3 _ rfl).1
   have x4 := (Lx 4 _ rfl).1
   clear hd hcl9 ow9 hgx hnd9
   go_wp2_with fail
   go_meet
   case rel =>
    have hch : Chg [xb] w5 (((((w5.setCell ⟨xb, 0, none⟩ (.int .i64 n')).setCell ⟨xb, 1, none⟩ ((Value.slice Y0 (cs').length y0))).setCell ⟨xb, 2, none⟩ ((Value.slice Y1 (pl').length y1))).setCell ⟨xb, 3, none⟩ ((Value.slice Y2 (ds').length y2))).setCell ⟨xb, 4, none⟩ (.int .i64 m')) := by repeat' (first | (with_reducible exact Chg.refl _ _) | (with_reducible refine chg_set ?_ (by simp)))
    exact ⟨xb, Y0, Y1, Y2, y0, y1, y2, S9, rfl, rfl, (((((Lx.set (i := 0) (u := .int .i64 n') (v := .int .i64 0) rfl).set (i := 1) (u := (Value.slice Y0 (cs').length y0)) (v := .slice none 0 0) rfl).set (i := 2) (u := (Value.slice Y1 (pl').length y1)) (v := .slice none 0 0) rfl).set (i := 3) (u := (Value.slice Y2 (ds').length y2)) (v := .slice none 0 0) rfl).set (i := 4) (u := .int .i64 m') (v := .int .i64 0) rfl), HOW.out.chg hch HX.out, fresh_mono HFR.out (Nat.le_refl _) hch.size, ⟨⟨hxb, Nat.lt_of_lt_of_le hxlt hch.size⟩, HX.out⟩, Below.chg hJ hch hJ.size (by simp; omega)⟩
 obtain ⟨xbh, Ah0_0, Ah0_1, Ah0_2, nh0_0, nh0_1, nh0_2, Sh0, rfl, rfl, Lx, oh0, fh0, ⟨hxh, hph⟩, q13⟩ := hcut
 obtain ⟨w13, rfl⟩ : ∃ W : World, W = wc := ⟨_, rfl⟩
 have b13 : Below w12.heap.size w12 w13 := q13
 have z13 : w12.heap.size ≤ w13.heap.size := q13.size
 have Hph := Lib.hid hph
 clear hph
 have ch0_0 : w13.cell? ⟨xbh, 0, none⟩ = some (.int .i64 n') := (Lx 0 _ rfl).1
 have ch0_1 : w13.cell? ⟨xbh, 1, none⟩ = some ((Value.slice Ah0_0 (cs').length nh0_0)) := (Lx 1 _ rfl).1
 have ch0_2 : w13.cell? ⟨xbh, 2, none⟩ = some ((Value.slice Ah0_1 (pl').length nh0_1)) := (Lx 2 _ rfl).1
 have ch0_3 : w13.cell? ⟨xbh, 3, none⟩ = some ((Value.slice Ah0_2 (ds').length nh0_2)) := (Lx 3 _ rfl).1
 have ch0_4 : w13.cell? ⟨xbh, 4, none⟩ = some (.int .i64 m') := (Lx 4 _ rfl).1
 clear Lx
 replace ca0_0 := carry b13 ca0_0
 replace ca0_1 := carry b13 ca0_1
 replace ca0_2 := carry b13 ca0_2
 replace ca0_3 := carry b13 ca0_3
 replace ca0_4 := carry b13 ca0_4
 replace ca1_0 := carry b13 ca1_0
 replace ca1_1 := carry b13 ca1_1
 replace ca1_2 := carry b13 ca1_2
 replace cw0_0 := carry b13 cw0_0
 replace cw0_1 := carry b13 cw0_1
 replace cw0_2 := carry b13 cw0_2
 replace cw0_3 := carry b13 cw0_3
 replace cw0_4 := carry b13 cw0_4
 replace cx0_0 := carry b13 cx0_0
 replace cx0_1 := carry b13 cx0_1
 replace cx0_2 := carry b13 cx0_2
 replace cx0_3 := carry b13 cx0_3
 replace cx0_4 := carry b13 cx0_4
 replace cg0_0 := carry b13 cg0_0
 replace cg0_1 := carry b13 cg0_1
 replace cg0_2 := carry b13 cg0_2
 replace cg0_3 := carry b13 cg0_3
 replace cg0_4 := carry b13 cg0_4
 replace ow0 := ow0.below b13
 replace mg0 := mg0.below b13
 replace hb : Below w.heap.size w w13 := bl_trans hb b13
 go_wp2_with fail
 refine (eqTheatre_any n' m' (Value.slice Ah0_0 (cs').length nh0_0) (Value.slice Ah0_1 (pl').length nh0_1) (Value.slice Ah0_2 (ds').length nh0_2) (Value.slice Aw0_0 (cs').length nw0_0) (Value.slice Aw0_1 (pl').length nw0_1) (Value.slice Aw0_2 (ds').length nw0_2) cs' pl' ds' _ (oh0.rd.below (by (repeat' (first | exact Below.refl _ _ | (refine Below.setCell ?_ (by first | omega | (simp <;> omega)) _) | (refine Below.alloc ?_ (by first | omega | (simp <;> omega)) _) | (refine Below.drew ?_) | (refine below_drewN ?_ _) | (refine Below.trans ?_ (Below.mono (by assumption) (by first | omega | (simp <;> omega)))))))) (ow0.rd.below (by (repeat' (first | exact Below.refl _ _ | (refine Below.setCell ?_ (by first | omega | (simp <;> omega)) _) | (refine Below.alloc ?_ (by first | omega | (simp <;> omega)) _) | (refine Below.drew ?_) | (refine below_drewN ?_ _) | (refine Below.trans ?_ (Below.mono (by assumption) (by first | omega | (simp <;> omega))))))))).mono ?_
 rintro e w14 ⟨rfl, q14⟩
 have b14 : Below w13.heap.size w13 w14 := q14
 have z14 : w13.heap.size + 0 ≤ w14.heap.size := by have := q14.size; (try simp at this); omega
 replace ca0_0 := carry b14 ca0_0
 replace ca0_1 := carry b14 ca0_1
 replace ca0_2 := carry b14 ca0_2
 replace ca0_3 := carry b14 ca0_3
 replace ca0_4 := carry b14 ca0_4
 replace ca1_0 := carry b14 ca1_0
 replace ca1_1 := carry b14 ca1_1
 replace ca1_2 := carry b14 ca1_2
 replace cw0_0 := carry b14 cw0_0
 replace cw0_1 := carry b14 cw0_1
 replace cw0_2 := carry b14 cw0_2
 replace cw0_3 := carry b14 cw0_3
 replace cw0_4 := carry b14 cw0_4
 replace cx0_0 := carry b14 cx0_0
 replace cx0_1 := carry b14 cx0_1
 replace cx0_2 := carry b14 cx0_2
 replace cx0_3 := carry b14 cx0_3
 replace cx0_4 := carry b14 cx0_4
 replace cg0_0 := carry b14 cg0_0
 replace cg0_1 := carry b14 cg0_1
 replace cg0_2 := carry b14 cg0_2
 replace cg0_3 := carry b14 cg0_3
 replace cg0_4 := carry b14 cg0_4
 replace ch0_0 := carry b14 ch0_0
 replace ch0_1 := carry b14 ch0_1
 replace ch0_2 := carry b14 ch0_2
 replace ch0_3 := carry b14 ch0_3
 replace ch0_4 := carry b14 ch0_4
 replace ow0 := ow0.below b14
 replace mg0 := mg0.below b14
 replace oh0 := oh0.below b14
 replace hb : Below w.heap.size w w14 := bl_trans hb b14
 go_wp2_with fail
 refine (heldTheatre_any n' m' (Value.slice Ag0_0 (cs').length ng0_0) (Value.slice Ag0_1 (pl').length ng0_1) (Value.slice Ag0_2 (ds').length ng0_2) cs' pl' ds' 1 _ _ (mg0.below (by (repeat' (first | exact Below.refl _ _ | (refine Below.setCell ?_ (by first | omega | (simp <;> omega)) _) | (refine Below.alloc ?_ (by first | omega | (simp <;> omega)) _) | (refine Below.drew ?_) | (refine below_drewN ?_ _) | (refine Below.trans ?_ (Below.mono (by assumption) (by first | omega | (simp <;> omega)))))))) (by omega) (by omega)).mono ?_
 rintro e w15 ⟨rfl, q15⟩
 have b15 : Below w14.heap.size w14 w15 := q15
 have z15 : w14.heap.size + 0 ≤ w15.heap.size := by have := q15.size; (try simp at this); omega
 replace ca0_0 := carry b15 ca0_0
 replace ca0_1 := carry b15 ca0_1
 replace ca0_2 := carry b15 ca0_2
 replace ca0_3 := carry b15 ca0_3
 replace ca0_4 := carry b15 ca0_4
 replace ca1_0 := carry b15 ca1_0
 replace ca1_1 := carry b15 ca1_1
 replace ca1_2 := carry b15 ca1_2
 replace cw0_0 := carry b15 cw0_0
 replace cw0_1 := carry b15 cw0_1
 replace cw0_2 := carry b15 cw0_2
 replace cw0_3 := carry b15 cw0_3
 replace cw0_4 := carry b15 cw0_4
 replace cx0_0 := carry b15 cx0_0
 replace cx0_1 := carry b15 cx0_1
 replace cx0_2 := carry b15 cx0_2
 replace cx0_3 := carry b15 cx0_3
 replace cx0_4 := carry b15 cx0_4
 replace cg0_0 := carry b15 cg0_0
 replace cg0_1 := carry b15 cg0_1
 replace cg0_2 := carry b15 cg0_2
 replace cg0_3 := carry b15 cg0_3
 replace cg0_4 := carry b15 cg0_4
 replace ch0_0 := carry b15 ch0_0
 replace ch0_1 := carry b15 ch0_1
 replace ch0_2 := carry b15 ch0_2
 replace ch0_3 := carry b15 ch0_3
 replace ch0_4 := carry b15 ch0_4
 replace ow0 := ow0.below b15
 replace mg0 := mg0.below b15
 replace oh0 := oh0.below b15
 replace hb : Below w.heap.size w w15 := bl_trans hb b15
 go_wp2_with fail
 go_ret
 exact ⟨rfl, hb⟩
set_option maxRecDepth 100000 in
set_option maxHeartbeats 1000000 in
theorem fnExactDoAct_lifted (os : Os) (started : os.Started) (H : Type) (enc : TypeId × Value → H) :
  ReturnsInHanded {} Tryz.checked os 3 .any (Rows.fnExactDoActSpec.pre6 enc Tryz.prog Tryz.f3 Rows.fnExactDoActRow.domain false) (Rows.fnExactDoActSpec.post enc Tryz.prog Tryz.f3 false true false false) := by
 refine returnsInHanded_of_change (C := Tryz.checked) tryOwn started (by kernel_rfl) Tryz.func3
  (ChangeSpec.witness6 (enc := enc) (C := Tryz.checked) false ⟨#[], #[.agg #[.int .i64 0, .slice none 0 0, .slice none 0 0, .slice none 0 0, .int .i64 0], .agg #[.int .i64 0, .int .i64 0, .int .i64 0]], []⟩ 12 (by kernel_rfl) (by kernel_rfl) (by kernel_rfl) (by kernel_rfl)) ?_
 intro W base args ds gs before hval0 hW hcnd _
 have hval : ∀ (j : Nat) t v, Tryz.f3.params[j]? = some t → args[j]? = some v → Value.okWide Tryz.prog W .any base t v := hval0
 have hW' := hW
 obtain ⟨p, q, hA0, hV, rfl, hfz, hnd⟩ := hW
 have hA : DataW.TrodAll enc Tryz.prog W 0 (fun _ => true) true Tryz.f3.params.toList args.toList ds p := hA0
 rw [Tryz.params3] at hA hval
 obtain ⟨v0, vs0, d0, ds0, p0, q0, hargs, rfl, rfl, h0, r0⟩ := trodAll_cons hA
 obtain ⟨v1, vs1, d1, ds1, p1, q1, rfl, rfl, rfl, h1, r1⟩ := trodAll_cons r0
 obtain ⟨rfl, rfl, rfl⟩ := trodAll_nil r1
 obtain rfl : args = #[v0, v1] := by cases args; simp_all
 obtain ⟨rfl, rfl⟩ := trodVars_none hV
 have e0 := h0
 have lt0 : ∀ x ∈ p0, x.block < W.heap.size := by obtain ⟨m, hm⟩ := e0; exact DataW.trod_lt m _ _ _ hm
 have ok0 := hval 0 28 v0 rfl rfl
 have e1 := h1
 have lt1 : ∀ x ∈ p1, x.block < W.heap.size := by obtain ⟨m, hm⟩ := e1; exact DataW.trod_lt m _ _ _ hm
 have ok1 := hval 1 30 v1 rfl rfl
 clear hA0 hval0 hval
 obtain ⟨⟨⟨p0, q0, s0⟩, t0, m0⟩, rfl, hq0⟩ := arg_struct Tryz.underlying28 ok0 h0 opens_lawsTheatre
 obtain ⟨⟨_, ⟨d0, hd0, _⟩, hpp0⟩, ⟨y0, hy0, _⟩, wm0⟩ := hq0
 obtain ⟨k0, hk0, _⟩ := pls_of hpp0
 have h0' : RdTheatre W q0 s0 t0 d0 k0 y0 := ⟨⟨hd0, hk0⟩, hy0⟩
 obtain ⟨⟨ka1, aa1, ba1⟩, rfl, _⟩ := arg_struct Tryz.underlying30 ok1 h1 opens_lawsAct
 refine (lawDoAct_any p0 m0 q0 s0 t0 d0 k0 y0 ka1 aa1 ba1 W h0').mono fun e W' ⟨he, bel⟩ => ?_
 subst he
 exact ⟨_, rfl, _, _, _, [], _, [], hW', trodAll_mk1 (shut_bool Tryz.underlying4 _), (trodAll_cons_mk (Below.trod tryLaid (by kernel_rfl) (of_decide_eq_true (by kernel_rfl)) e0 bel lt0) (trodAll_cons_mk (Below.trod tryLaid (by kernel_rfl) (of_decide_eq_true (by kernel_rfl)) e1 bel lt1) trodAll_mk0)), rfl, bel.frame _, fun h => by cases h⟩
theorem fnExactDoAct_holds : Rows.FnExactDoActSaid :=
 OpenClaim.holds_of_wide 3 Tryz.f3 rfl rfl rfl rfl rfl rfl rfl ⟨rfl, rfl, rfl, rfl, rfl⟩ rfl rfl rfl rfl rfl (by kernel_rfl) Tryz.func3 (by kernel_rfl)
  (of_decide_eq_true (by kernel_rfl)) (by unfold Func.isWrapper; first | (rw [if_pos (by decide +kernel)]; kernel_rfl) | (rw [if_neg (by decide +kernel)]; exact ⟨rfl, rfl⟩))
  (fun os started H enc _ => fnExactDoAct_lifted os started H enc)
#print axioms fnExactDoAct_holds
end Go.Proofs.YtlhdeojkpmpecaaGreat
