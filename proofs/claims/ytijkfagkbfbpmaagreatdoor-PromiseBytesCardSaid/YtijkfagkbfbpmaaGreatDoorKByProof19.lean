import Derived.Test.YtijkfagkbfbpmaaGreatDoorKByProof18
import Derived.Lib.LaidTab
import Derived.BigQuiet
import Derived.Deep.QuietTactic
import Derived.Test.YtijkfagkbfbpmaaGreatDoorKByProof12
import Derived.Test.YtijkfagkbfbpmaaGreatDoorKByProof16
import Derived.Test.YtijkfagkbfbpmaaGreatDoorKByProof17
import Derived.Test.YtijkfagkbfbpmaaGreatDoorS0
set_option linter.unusedVariables false
set_option linter.unusedSimpArgs false
namespace Go.Proofs.YtijkfagkbfbpmaaGreatDoor
open Go Go.RowKit
/-- a word as a number -/
def wv (x : BitVec 32) : Int := (x.toNat : Int)
theorem wv_ge (x : BitVec 32) : 0 ≤ wv x := Int.natCast_nonneg _
theorem wv_lt (x : BitVec 32) : wv x < 4294967296 := by have := x.isLt; unfold wv; omega
theorem wv_of (x : BitVec 32) : BitVec.ofInt 32 (wv x) = x := by unfold wv; rw [BitVec.ofInt_natCast, BitVec.ofNat_toNat, BitVec.setWidth_eq]
theorem wv_wrap (x : BitVec 32) : IntKind.u32.wrap (wv x) = wv x := IntWalk.u32_in _ ⟨wv_ge x, by have := wv_lt x; omega⟩
theorem wv_xor (a b : BitVec 32) : bits .xor .u32 (wv a) (wv b) = wv (a ^^^ b) := by
 show IntKind.u32.wrap (((BitVec.ofInt 32 (wv a) ^^^ BitVec.ofInt 32 (wv b)).toNat : Nat) : Int) = _
 rw [wv_of, wv_of]; exact wv_wrap _
theorem wv_and (a b : BitVec 32) : bits .and .u32 (wv a) (wv b) = wv (a &&& b) := by
 show IntKind.u32.wrap (((BitVec.ofInt 32 (wv a) &&& BitVec.ofInt 32 (wv b)).toNat : Nat) : Int) = _
 rw [wv_of, wv_of]; exact wv_wrap _
theorem wv_or (a b : BitVec 32) : bits .or .u32 (wv a) (wv b) = wv (a ||| b) := by
 show IntKind.u32.wrap (((BitVec.ofInt 32 (wv a) ||| BitVec.ofInt 32 (wv b)).toNat : Nat) : Int) = _
 rw [wv_of, wv_of]; exact wv_wrap _
theorem wv_max : wv (BitVec.allOnes 32) = 4294967295 := by decide
theorem wv_not (a : BitVec 32) : bits .xor .u32 4294967295 (wv a) = wv (~~~a) := by
 rw [← wv_max, wv_xor, BitVec.allOnes_xor]
theorem wv_not' (a : BitVec 32) : bits .xor .u32 (wv a) 4294967295 = wv (~~~a) := by
 rw [← wv_max, wv_xor, BitVec.xor_allOnes]
theorem wv_add (a b : BitVec 32) : (wv a + wv b) % (4294967296 : Int) = wv (a + b) := by
 unfold wv; rw [BitVec.toNat_add]; omega
theorem wv_shl (a : BitVec 32) (k : Nat) : wv a * (2 ^ k : Nat) % 4294967296 = wv (a <<< k) := by
 unfold wv; rw [BitVec.toNat_shiftLeft, Nat.shiftLeft_eq]; have e : ((2 : Int) ^ 32) = 4294967296 := by decide
 rw [Int.natCast_emod, Int.natCast_mul]; rfl
theorem wv_shr (a : BitVec 32) (k : Nat) : wv a / (2 ^ k : Nat) = wv (a >>> k) := by
 unfold wv; rw [BitVec.toNat_ushiftRight, Nat.shiftRight_eq_div_pow]; exact (Int.natCast_ediv _ _).symm
theorem wv_shl7 (a : BitVec 32) : wv a * (128 : Int) % (4294967296 : Int) = wv (a <<< 7) := wv_shl a 7
theorem wv_shl8 (a : BitVec 32) : wv a * (256 : Int) % (4294967296 : Int) = wv (a <<< 8) := wv_shl a 8
theorem wv_shl10 (a : BitVec 32) : wv a * (1024 : Int) % (4294967296 : Int) = wv (a <<< 10) := wv_shl a 10
theorem wv_shl13 (a : BitVec 32) : wv a * (8192 : Int) % (4294967296 : Int) = wv (a <<< 13) := wv_shl a 13
theorem wv_shl14 (a : BitVec 32) : wv a * (16384 : Int) % (4294967296 : Int) = wv (a <<< 14) := wv_shl a 14
theorem wv_shl15 (a : BitVec 32) : wv a * (32768 : Int) % (4294967296 : Int) = wv (a <<< 15) := wv_shl a 15
theorem wv_shl16 (a : BitVec 32) : wv a * (65536 : Int) % (4294967296 : Int) = wv (a <<< 16) := wv_shl a 16
theorem wv_shl19 (a : BitVec 32) : wv a * (524288 : Int) % (4294967296 : Int) = wv (a <<< 19) := wv_shl a 19
theorem wv_shl21 (a : BitVec 32) : wv a * (2097152 : Int) % (4294967296 : Int) = wv (a <<< 21) := wv_shl a 21
theorem wv_shl24 (a : BitVec 32) : wv a * (16777216 : Int) % (4294967296 : Int) = wv (a <<< 24) := wv_shl a 24
theorem wv_shl25 (a : BitVec 32) : wv a * (33554432 : Int) % (4294967296 : Int) = wv (a <<< 25) := wv_shl a 25
theorem wv_shl26 (a : BitVec 32) : wv a * (67108864 : Int) % (4294967296 : Int) = wv (a <<< 26) := wv_shl a 26
theorem wv_shl30 (a : BitVec 32) : wv a * (1073741824 : Int) % (4294967296 : Int) = wv (a <<< 30) := wv_shl a 30
theorem wv_shr2 (a : BitVec 32) : wv a / (4 : Int) = wv (a >>> 2) := wv_shr a 2
theorem wv_shr3 (a : BitVec 32) : wv a / (8 : Int) = wv (a >>> 3) := wv_shr a 3
theorem wv_shr6 (a : BitVec 32) : wv a / (64 : Int) = wv (a >>> 6) := wv_shr a 6
theorem wv_shr7 (a : BitVec 32) : wv a / (128 : Int) = wv (a >>> 7) := wv_shr a 7
theorem wv_shr10 (a : BitVec 32) : wv a / (1024 : Int) = wv (a >>> 10) := wv_shr a 10
theorem wv_shr11 (a : BitVec 32) : wv a / (2048 : Int) = wv (a >>> 11) := wv_shr a 11
theorem wv_shr13 (a : BitVec 32) : wv a / (8192 : Int) = wv (a >>> 13) := wv_shr a 13
theorem wv_shr17 (a : BitVec 32) : wv a / (131072 : Int) = wv (a >>> 17) := wv_shr a 17
theorem wv_shr18 (a : BitVec 32) : wv a / (262144 : Int) = wv (a >>> 18) := wv_shr a 18
theorem wv_shr19 (a : BitVec 32) : wv a / (524288 : Int) = wv (a >>> 19) := wv_shr a 19
theorem wv_shr22 (a : BitVec 32) : wv a / (4194304 : Int) = wv (a >>> 22) := wv_shr a 22
theorem wv_shr25 (a : BitVec 32) : wv a / (33554432 : Int) = wv (a >>> 25) := wv_shr a 25
/-- rotated right -/
def rr (n : Nat) (x : BitVec 32) : BitVec 32 := x >>> n ||| x <<< (32 - n)
def sg0 (x : BitVec 32) : BitVec 32 := rr 7 x ^^^ rr 18 x ^^^ x >>> 3
def sg1 (x : BitVec 32) : BitVec 32 := rr 17 x ^^^ rr 19 x ^^^ x >>> 10
def bs1 (x : BitVec 32) : BitVec 32 := rr 6 x ^^^ rr 11 x ^^^ rr 25 x
def bs0 (x : BitVec 32) : BitVec 32 := rr 2 x ^^^ rr 13 x ^^^ rr 22 x
def chW (e f g : BitVec 32) : BitVec 32 := (e &&& f) ^^^ (~~~e &&& g)
def majW (a b c : BitVec 32) : BitVec 32 := (a &&& b) ^^^ (a &&& c) ^^^ (b &&& c)
/-- the word of four bytes -/
def wrd (a b c d : Nat) : BitVec 32 := BitVec.ofNat 32 a <<< 24 ||| BitVec.ofNat 32 b <<< 16 ||| BitVec.ofNat 32 c <<< 8 ||| BitVec.ofNat 32 d
theorem wrd_step (a b c d : BitVec 32) : (((((0 : BitVec 32) <<< 8 ||| a) <<< 8 ||| b) <<< 8 ||| c) <<< 8 ||| d) = a <<< 24 ||| b <<< 16 ||| c <<< 8 ||| d := by
 simp only [BitVec.shiftLeft_or_distrib, ← BitVec.shiftLeft_add]; simp
def wordAt (l : List Nat) (t : Nat) : BitVec 32 := wrd (l.getD (4 * t) 0) (l.getD (4 * t + 1) 0) (l.getD (4 * t + 2) 0) (l.getD (4 * t + 3) 0)
/-- the word t while its first q bytes are taken in -/
def wordTo (l : List Nat) (t : Nat) : Nat → BitVec 32
 | 0 => 0
 | q + 1 => wordTo l t q <<< 8 ||| BitVec.ofNat 32 (l.getD (4 * t + q) 0)
theorem wordTo_four (l : List Nat) (t : Nat) : wordTo l t 4 = wordAt l t := wrd_step _ _ _ _
/-- the schedule of a block -/
def swW (l : List Nat) (t : Nat) : BitVec 32 :=
 if h : t < 16 then wordAt l t else swW l (t - 16) + sg0 (swW l (t - 15)) + swW l (t - 7) + sg1 (swW l (t - 2))
termination_by t
theorem swW_lo {l : List Nat} {t : Nat} (h : t < 16) : swW l t = wordAt l t := by rw [swW, dif_pos h]
theorem swW_hi {l : List Nat} {t : Nat} (h : ¬ t < 16) : swW l t = swW l (t - 16) + sg0 (swW l (t - 15)) + swW l (t - 7) + sg1 (swW l (t - 2)) := by rw [swW, dif_neg h]
def kcL : List Nat := [1116352408, 1899447441, 3049323471, 3921009573, 961987163, 1508970993, 2453635748, 2870763221, 3624381080, 310598401, 607225278, 1426881987, 1925078388, 2162078206, 2614888103, 3248222580, 3835390401, 4022224774, 264347078, 604807628, 770255983, 1249150122, 1555081692, 1996064986, 2554220882, 2821834349, 2952996808, 3210313671, 3336571891, 3584528711, 113926993, 338241895, 666307205, 773529912, 1294757372, 1396182291, 1695183700, 1986661051, 2177026350, 2456956037, 2730485921, 2820302411, 3259730800, 3345764771, 3516065817, 3600352804, 4094571909, 275423344, 430227734, 506948616, 659060556, 883997877, 958139571, 1322822218, 1537002063, 1747873779, 1955562222, 2024104815, 2227730452, 2361852424, 2428436474, 2756734187, 3204031479, 3329325298]
def kcW (t : Nat) : BitVec 32 := BitVec.ofNat 32 (kcL.getD t 0)
/-- the eight words of a state -/
structure R8 where
 a : BitVec 32
 b : BitVec 32
 c : BitVec 32
 d : BitVec 32
 e : BitVec 32
 f : BitVec 32
 g : BitVec 32
 h : BitVec 32
def R8.x (r : R8) (k m : BitVec 32) : BitVec 32 := r.h + bs1 r.e + chW r.e r.f r.g + k + m
def R8.y (r : R8) : BitVec 32 := bs0 r.a + majW r.a r.b r.c
def R8.step (r : R8) (k m : BitVec 32) : R8 := ⟨r.x k m + r.y, r.a, r.b, r.c, r.d + r.x k m, r.e, r.f, r.g⟩
def rnds (l : List Nat) (s : R8) : Nat → R8
 | 0 => s
 | t + 1 => (rnds l s t).step (kcW t) (swW l t)
def R8.add (s r : R8) : R8 := ⟨s.a + r.a, s.b + r.b, s.c + r.c, s.d + r.d, s.e + r.e, s.f + r.f, s.g + r.g, s.h + r.h⟩
/-- a block more -/
def cmpW (s : R8) (l : List Nat) : R8 := s.add (rnds l s 64)
def iniW : R8 := ⟨1779033703, 3144134277, 1013904242, 2773480762, 1359893119, 2600822924, 528734635, 1541459225⟩
/-- the state behind k blocks -/
def hkW (l : List Nat) : Nat → R8
 | 0 => iniW
 | k + 1 => cmpW (hkW l k) ((l.drop (64 * k)).take 64)
def cells8 (r : R8) : List Value := [.int .u32 (wv r.a), .int .u32 (wv r.b), .int .u32 (wv r.c), .int .u32 (wv r.d), .int .u32 (wv r.e), .int .u32 (wv r.f), .int .u32 (wv r.g), .int .u32 (wv r.h)]
/-- cells of words -/
def arL (n : Nat) (f : Nat → BitVec 32) : List Value := (List.range n).map fun j => Value.int .u32 (wv (f j))
def arW (n : Nat) (f : Nat → BitVec 32) : Array Value := (arL n f).toArray
theorem arW_size (n : Nat) (f : Nat → BitVec 32) : (arW n f).size = n := by simp [arW, arL]
theorem arW_get {n : Nat} {f : Nat → BitVec 32} {j : Nat} (h : j < n) : (arW n f)[j]? = some (.int .u32 (wv (f j))) := by
 simp [arW, arL, h]
theorem arW_congr {n : Nat} {f g : Nat → BitVec 32} (h : ∀ j, j < n → f j = g j) : arW n f = arW n g := by
 unfold arW arL
 congr 1
 refine List.map_congr_left fun j hj => ?_
 rw [h j (by simpa using hj)]
theorem arW_set {n : Nat} {f : Nat → BitVec 32} (t : Nat) (x : BitVec 32) : (arW n f).setIfInBounds t (.int .u32 (wv x)) = arW n (fun j => if j = t then x else f j) := by
 apply Array.ext
 ·simp [arW, arL]
 ·intro i h1 h2; have hi : i < n := by simpa [arW, arL] using h2
  rw [Array.getElem_setIfInBounds (by simpa [arW, arL] using h1)]; by_cases e : t = i
  ·subst e; simp [arW, arL]
  ·have e2 : ¬ i = t := fun h => e h.symm
   simp [arW, arL, e, e2]
/-- byte i of a hash -/
def shaB (r : R8) (i : Nat) : Nat := ((([r.a, r.b, r.c, r.d, r.e, r.f, r.g, r.h].getD (i / 4) 0).toNat) / 2 ^ (24 - 8 * (i % 4))) % 256
end Go.Proofs.YtijkfagkbfbpmaaGreatDoor
namespace Go.Proofs.YtijkfagkbfbpmaaGreatDoor
open Go Go.RowKit
theorem rotl7_n (x : BitVec 32) (w : World) : Calls Tryz.prog 182 #[.int .u32 (wv x), .int .i64 (-7)] w fun e w' => e = .returned (.int .u32 (wv (rr 7 x))) ∧ w' = w := by
 have h1 : bits BinOp.and IntKind.u64 (IntKind.u64.wrap (-7)) 31 = 25 := by decide
 go_enter Tryz.func182, Tryz.ntmps182
 go_wp2_with fail; go_ret; refine ⟨?_, rfl⟩
 show Ending.returned (Value.int .u32 _) = _
 rw [wv_shl25, wv_shr7, wv_or, BitVec.or_comm]; rfl
theorem rotr7_n (x : BitVec 32) (w : World) : Calls Tryz.prog 181 #[.int .u32 (wv x), .int .i64 7] w fun e w' => e = .returned (.int .u32 (wv (rr 7 x))) ∧ ∃ m, w' = w.drewN m := by
 go_enter Tryz.func181, Tryz.ntmps181
 go_wp2_with fail
 go_quiet (fail)
 go_wp2_with fail; go_ret; refine ⟨?_, _, rfl⟩
 show Ending.returned (Value.int .u32 _) = _
 rw [wv_shl25, wv_shr7, wv_or]; rfl
theorem rotl18_n (x : BitVec 32) (w : World) : Calls Tryz.prog 182 #[.int .u32 (wv x), .int .i64 (-18)] w fun e w' => e = .returned (.int .u32 (wv (rr 18 x))) ∧ w' = w := by
 have h1 : bits BinOp.and IntKind.u64 (IntKind.u64.wrap (-18)) 31 = 14 := by decide
 go_enter Tryz.func182, Tryz.ntmps182
 go_wp2_with fail; go_ret; refine ⟨?_, rfl⟩
 show Ending.returned (Value.int .u32 _) = _
 rw [wv_shl14, wv_shr18, wv_or, BitVec.or_comm]; rfl
theorem rotr18_n (x : BitVec 32) (w : World) : Calls Tryz.prog 181 #[.int .u32 (wv x), .int .i64 18] w fun e w' => e = .returned (.int .u32 (wv (rr 18 x))) ∧ ∃ m, w' = w.drewN m := by
 go_enter Tryz.func181, Tryz.ntmps181
 go_wp2_with fail
 go_quiet (fail)
 go_wp2_with fail; go_ret; refine ⟨?_, _, rfl⟩
 show Ending.returned (Value.int .u32 _) = _
 rw [wv_shl14, wv_shr18, wv_or]; rfl
theorem rotl17_n (x : BitVec 32) (w : World) : Calls Tryz.prog 182 #[.int .u32 (wv x), .int .i64 (-17)] w fun e w' => e = .returned (.int .u32 (wv (rr 17 x))) ∧ w' = w := by
 have h1 : bits BinOp.and IntKind.u64 (IntKind.u64.wrap (-17)) 31 = 15 := by decide
 go_enter Tryz.func182, Tryz.ntmps182
 go_wp2_with fail; go_ret; refine ⟨?_, rfl⟩
 show Ending.returned (Value.int .u32 _) = _
 rw [wv_shl15, wv_shr17, wv_or, BitVec.or_comm]; rfl
theorem rotr17_n (x : BitVec 32) (w : World) : Calls Tryz.prog 181 #[.int .u32 (wv x), .int .i64 17] w fun e w' => e = .returned (.int .u32 (wv (rr 17 x))) ∧ ∃ m, w' = w.drewN m := by
 go_enter Tryz.func181, Tryz.ntmps181
 go_wp2_with fail
 go_quiet (fail)
 go_wp2_with fail; go_ret; refine ⟨?_, _, rfl⟩
 show Ending.returned (Value.int .u32 _) = _
 rw [wv_shl15, wv_shr17, wv_or]; rfl
theorem rotl19_n (x : BitVec 32) (w : World) : Calls Tryz.prog 182 #[.int .u32 (wv x), .int .i64 (-19)] w fun e w' => e = .returned (.int .u32 (wv (rr 19 x))) ∧ w' = w := by
 have h1 : bits BinOp.and IntKind.u64 (IntKind.u64.wrap (-19)) 31 = 13 := by decide
 go_enter Tryz.func182, Tryz.ntmps182
 go_wp2_with fail; go_ret; refine ⟨?_, rfl⟩
 show Ending.returned (Value.int .u32 _) = _
 rw [wv_shl13, wv_shr19, wv_or, BitVec.or_comm]; rfl
theorem rotr19_n (x : BitVec 32) (w : World) : Calls Tryz.prog 181 #[.int .u32 (wv x), .int .i64 19] w fun e w' => e = .returned (.int .u32 (wv (rr 19 x))) ∧ ∃ m, w' = w.drewN m := by
 go_enter Tryz.func181, Tryz.ntmps181
 go_wp2_with fail
 go_quiet (fail)
 go_wp2_with fail; go_ret; refine ⟨?_, _, rfl⟩
 show Ending.returned (Value.int .u32 _) = _
 rw [wv_shl13, wv_shr19, wv_or]; rfl
theorem rotl6_n (x : BitVec 32) (w : World) : Calls Tryz.prog 182 #[.int .u32 (wv x), .int .i64 (-6)] w fun e w' => e = .returned (.int .u32 (wv (rr 6 x))) ∧ w' = w := by
 have h1 : bits BinOp.and IntKind.u64 (IntKind.u64.wrap (-6)) 31 = 26 := by decide
 go_enter Tryz.func182, Tryz.ntmps182
 go_wp2_with fail; go_ret; refine ⟨?_, rfl⟩
 show Ending.returned (Value.int .u32 _) = _
 rw [wv_shl26, wv_shr6, wv_or, BitVec.or_comm]; rfl
theorem rotr6_n (x : BitVec 32) (w : World) : Calls Tryz.prog 181 #[.int .u32 (wv x), .int .i64 6] w fun e w' => e = .returned (.int .u32 (wv (rr 6 x))) ∧ ∃ m, w' = w.drewN m := by
 go_enter Tryz.func181, Tryz.ntmps181
 go_wp2_with fail
 go_quiet (fail)
 go_wp2_with fail; go_ret; refine ⟨?_, _, rfl⟩
 show Ending.returned (Value.int .u32 _) = _
 rw [wv_shl26, wv_shr6, wv_or]; rfl
theorem rotl11_n (x : BitVec 32) (w : World) : Calls Tryz.prog 182 #[.int .u32 (wv x), .int .i64 (-11)] w fun e w' => e = .returned (.int .u32 (wv (rr 11 x))) ∧ w' = w := by
 have h1 : bits BinOp.and IntKind.u64 (IntKind.u64.wrap (-11)) 31 = 21 := by decide
 go_enter Tryz.func182, Tryz.ntmps182
 go_wp2_with fail; go_ret; refine ⟨?_, rfl⟩
 show Ending.returned (Value.int .u32 _) = _
 rw [wv_shl21, wv_shr11, wv_or, BitVec.or_comm]; rfl
theorem rotr11_n (x : BitVec 32) (w : World) : Calls Tryz.prog 181 #[.int .u32 (wv x), .int .i64 11] w fun e w' => e = .returned (.int .u32 (wv (rr 11 x))) ∧ ∃ m, w' = w.drewN m := by
 go_enter Tryz.func181, Tryz.ntmps181
 go_wp2_with fail
 go_quiet (fail)
 go_wp2_with fail; go_ret; refine ⟨?_, _, rfl⟩
 show Ending.returned (Value.int .u32 _) = _
 rw [wv_shl21, wv_shr11, wv_or]; rfl
theorem rotl25_n (x : BitVec 32) (w : World) : Calls Tryz.prog 182 #[.int .u32 (wv x), .int .i64 (-25)] w fun e w' => e = .returned (.int .u32 (wv (rr 25 x))) ∧ w' = w := by
 have h1 : bits BinOp.and IntKind.u64 (IntKind.u64.wrap (-25)) 31 = 7 := by decide
 go_enter Tryz.func182, Tryz.ntmps182
 go_wp2_with fail; go_ret; refine ⟨?_, rfl⟩
 show Ending.returned (Value.int .u32 _) = _
 rw [wv_shl7, wv_shr25, wv_or, BitVec.or_comm]; rfl
theorem rotr25_n (x : BitVec 32) (w : World) : Calls Tryz.prog 181 #[.int .u32 (wv x), .int .i64 25] w fun e w' => e = .returned (.int .u32 (wv (rr 25 x))) ∧ ∃ m, w' = w.drewN m := by
 go_enter Tryz.func181, Tryz.ntmps181
 go_wp2_with fail
 go_quiet (fail)
 go_wp2_with fail; go_ret; refine ⟨?_, _, rfl⟩
 show Ending.returned (Value.int .u32 _) = _
 rw [wv_shl7, wv_shr25, wv_or]; rfl
theorem rotl2_n (x : BitVec 32) (w : World) : Calls Tryz.prog 182 #[.int .u32 (wv x), .int .i64 (-2)] w fun e w' => e = .returned (.int .u32 (wv (rr 2 x))) ∧ w' = w := by
 have h1 : bits BinOp.and IntKind.u64 (IntKind.u64.wrap (-2)) 31 = 30 := by decide
 go_enter Tryz.func182, Tryz.ntmps182
 go_wp2_with fail; go_ret; refine ⟨?_, rfl⟩
 show Ending.returned (Value.int .u32 _) = _
 rw [wv_shl30, wv_shr2, wv_or, BitVec.or_comm]; rfl
theorem rotr2_n (x : BitVec 32) (w : World) : Calls Tryz.prog 181 #[.int .u32 (wv x), .int .i64 2] w fun e w' => e = .returned (.int .u32 (wv (rr 2 x))) ∧ ∃ m, w' = w.drewN m := by
 go_enter Tryz.func181, Tryz.ntmps181
 go_wp2_with fail
 go_quiet (fail)
 go_wp2_with fail; go_ret; refine ⟨?_, _, rfl⟩
 show Ending.returned (Value.int .u32 _) = _
 rw [wv_shl30, wv_shr2, wv_or]; rfl
theorem rotl13_n (x : BitVec 32) (w : World) : Calls Tryz.prog 182 #[.int .u32 (wv x), .int .i64 (-13)] w fun e w' => e = .returned (.int .u32 (wv (rr 13 x))) ∧ w' = w := by
 have h1 : bits BinOp.and IntKind.u64 (IntKind.u64.wrap (-13)) 31 = 19 := by decide
 go_enter Tryz.func182, Tryz.ntmps182
 go_wp2_with fail; go_ret; refine ⟨?_, rfl⟩
 show Ending.returned (Value.int .u32 _) = _
 rw [wv_shl19, wv_shr13, wv_or, BitVec.or_comm]; rfl
theorem rotr13_n (x : BitVec 32) (w : World) : Calls Tryz.prog 181 #[.int .u32 (wv x), .int .i64 13] w fun e w' => e = .returned (.int .u32 (wv (rr 13 x))) ∧ ∃ m, w' = w.drewN m := by
 go_enter Tryz.func181, Tryz.ntmps181
 go_wp2_with fail
 go_quiet (fail)
 go_wp2_with fail; go_ret; refine ⟨?_, _, rfl⟩
 show Ending.returned (Value.int .u32 _) = _
 rw [wv_shl19, wv_shr13, wv_or]; rfl
theorem rotl22_n (x : BitVec 32) (w : World) : Calls Tryz.prog 182 #[.int .u32 (wv x), .int .i64 (-22)] w fun e w' => e = .returned (.int .u32 (wv (rr 22 x))) ∧ w' = w := by
 have h1 : bits BinOp.and IntKind.u64 (IntKind.u64.wrap (-22)) 31 = 10 := by decide
 go_enter Tryz.func182, Tryz.ntmps182
 go_wp2_with fail; go_ret; refine ⟨?_, rfl⟩
 show Ending.returned (Value.int .u32 _) = _
 rw [wv_shl10, wv_shr22, wv_or, BitVec.or_comm]; rfl
theorem rotr22_n (x : BitVec 32) (w : World) : Calls Tryz.prog 181 #[.int .u32 (wv x), .int .i64 22] w fun e w' => e = .returned (.int .u32 (wv (rr 22 x))) ∧ ∃ m, w' = w.drewN m := by
 go_enter Tryz.func181, Tryz.ntmps181
 go_wp2_with fail
 go_quiet (fail)
 go_wp2_with fail; go_ret; refine ⟨?_, _, rfl⟩
 show Ending.returned (Value.int .u32 _) = _
 rw [wv_shl10, wv_shr22, wv_or]; rfl
theorem mixbs1_n (x : BitVec 32) (w : World) : Calls Tryz.prog 157 #[.int .u32 (wv x), .int .i64 6, .int .i64 11, .int .i64 25] w fun e w' => e = .returned (.int .u32 (wv (bs1 x))) ∧ w' = w := by
 go_enter Tryz.func157, Tryz.ntmps157
 go_wp2_with fail; refine (rotl6_n x _).mono ?_; rintro e w' ⟨rfl, rfl⟩; go_wp2_with fail; refine (rotl11_n x _).mono ?_; rintro e w' ⟨rfl, rfl⟩; go_wp2_with fail; refine (rotl25_n x _).mono ?_; rintro e w' ⟨rfl, rfl⟩; go_wp2_with fail; go_ret; refine ⟨?_, rfl⟩
 show Ending.returned (Value.int .u32 _) = _
 rw [wv_xor, wv_xor]; rfl
theorem mixbs0_n (x : BitVec 32) (w : World) : Calls Tryz.prog 157 #[.int .u32 (wv x), .int .i64 2, .int .i64 13, .int .i64 22] w fun e w' => e = .returned (.int .u32 (wv (bs0 x))) ∧ w' = w := by
 go_enter Tryz.func157, Tryz.ntmps157
 go_wp2_with fail; refine (rotl2_n x _).mono ?_; rintro e w' ⟨rfl, rfl⟩; go_wp2_with fail; refine (rotl13_n x _).mono ?_; rintro e w' ⟨rfl, rfl⟩; go_wp2_with fail; refine (rotl22_n x _).mono ?_; rintro e w' ⟨rfl, rfl⟩; go_wp2_with fail; go_ret; refine ⟨?_, rfl⟩
 show Ending.returned (Value.int .u32 _) = _
 rw [wv_xor, wv_xor]; rfl
end Go.Proofs.YtijkfagkbfbpmaaGreatDoor
namespace Go.Proofs.YtijkfagkbfbpmaaGreatDoor
open Go Go.RowKit
theorem By.get2 {w : World} {A : Option Addr} {k c : Nat} {l : List Nat} (h : By w A k c l) {i : Nat} (hi : i < k) : ∃ b off, ∃ n : Nat, A = some ⟨b, off, none⟩ ∧ w.cell? ⟨b, off + i, none⟩ = some (.int .u8 (n : Int)) ∧ n < 256 ∧ Hid (n = l.getD i 0) := by
 obtain ⟨b, off, n, e, hc, hn, hl⟩ := h.get hi; exact ⟨b, off, n, e, hc, hn, by show n = _; rw [List.getD_eq_getElem?_getD, hl.out]; rfl⟩
def lit8 (m k : Nat) : List Nat := (List.range k).map fun t => m / 256 ^ t % 256
theorem lit8_succ (m k : Nat) : lit8 m (k + 1) = lit8 m k ++ [m / 256 ^ k % 256] := by unfold lit8; rw [List.range_succ, List.map_append]; rfl
theorem lit8_len (m k : Nat) : (lit8 m k).length = k := by unfold lit8; rw [List.length_map, List.length_range]
theorem lit8_get {m k j : Nat} (h : j < k) : (lit8 m k)[j]? = some (m / 256 ^ j % 256) := by unfold lit8; rw [List.getElem?_map, List.getElem?_range h]; rfl
theorem OwnB.kept {w w' : World} {base : Nat} {u v : Value} {l : List Nat} (h : OwnB w base u l) (k : w.grownBy w' v.ownBlock) (ha : Apt v u) : OwnB w' base u l := ⟨own_other h.1 k ha, h.2⟩
theorem Apt.grow {w : World} {base : Nat} {v v' u : Value} {l : List Nat} (hu : OwnB w base u l) (ha : Apt v u) (k : v'.ownBlock = v.ownBlock ∨ v'.ownBlock = some w.heap.size) : Apt v' u := Apt.step hu.1 ha k
theorem Apt.nil {u : Value} {k c : Nat} : Apt (.slice none k c) u := fun g h => by cases h
set_option maxRecDepth 100000 in
set_option maxHeartbeats 4000000 in
theorem rint_n (n : Int) (w : World) (h1 : -9223372036854775808 ≤ n) (h2 : n ≤ 9223372036854775807) :
  Calls Tryz.prog 118 #[.int .i64 n] w fun e w' => ∃ v, e = .returned v ∧ OwnB w' w.heap.size v (Wi.encI n) ∧ Below w.heap.size w w' := by
 obtain ⟨M, HM⟩ : ∃ M, Hid (M = Wi.mag n) := ⟨_, rfl⟩; obtain ⟨k, HK⟩ : ∃ k, Hid (k = Wi.nb M) := ⟨_, rfl⟩; have hM : M < 9223372036854775808 := by rw [HM.out]; exact Wi.mag_lt h1 h2
 have hk8 : k ≤ 8 := by rw [HK.out, HM.out]; exact Wi.nb_mag h1 h2
 have HE : Hid (Wi.encI n = Wi.headB (decide (n < 0)) k :: (Wi.be k M).map (Wi.fl (decide (n < 0)))) := by show _ = _; rw [HK.out, HM.out]; rfl
 obtain ⟨Y, HY⟩ : ∃ Y, Hid (Y = Wi.encI n) := ⟨_, rfl⟩; rw [← HY.out]; obtain ⟨H0, HH0⟩ : ∃ h, Hid (h = Wi.headB (decide (n < 0)) k) := ⟨_, rfl⟩; have hhd : H0 < 256 := by rw [HH0.out]; unfold Wi.headB; split <;> omega
 go_enter Tryz.func118, Tryz.ntmps118
 go_upto_if 11 with fail
 go_cut [3] from 11 to 58 (fun t3 wz => t3 = .int .i64 M ∧ wz = w)
 case first => as_aux_lemma =>
  have hMv := HM.out; unfold Wi.mag at hMv; by_cases hn : n < 0
  ·have t1 : decide (n < 0) = true := decide_eq_true hn; rw [if_pos hn] at hMv; have t2 : IntKind.i64.wrap (-1 - n) = (M : Int) := by rw [IntWalk.i64_in _ (by omega)]; omega
   simp only [t1]; clear hMv hn; go_wp2_with fail
   go_meet
   case rel => exact ⟨rfl, rfl⟩
  ·have t1 : decide (n < 0) = false := decide_eq_false hn; rw [if_neg hn] at hMv; have t2 : n = (M : Int) := by omega
   simp only [t1]; clear hMv hn; go_wp2_with fail
   go_meet
   case rel => exact ⟨by rw [t2], rfl⟩
 obtain ⟨rfl, hx⟩ := hcut; obtain rfl := hx.symm; clear hx
 go_upto_block 0 with fail
 go_cut [3, 4] from 14 to 58 (fun t3 t4 wz => ∃ W, W = wz ∧ (∃ x : Int, t3 = .int .i64 x) ∧ OwnB wz w.heap.size t4 (lit8 M k) ∧ Below w.heap.size w wz)
 case first => as_aux_lemma =>
  go_wp2_with fail
  go_loopg [3, 4] k (fun j x v wr => ∃ i D : Nat, x = .int .i64 (D : Nat) ∧ i + j = k ∧ Hid (D = M / 256 ^ i) ∧ OwnB wr w.heap.size v (lit8 M i) ∧ Below w.heap.size w wr)
  case atStart => exact ⟨0, M, rfl, by omega, by show _ = _; simp, OwnB.nil _ _, Below.refl _ _⟩
  case round =>
   obtain ⟨i, D, rfl, hij, HD, hown, hbe⟩ := hrel; by_cases hi : i < k
   ·have hD0 : 0 < D := by
     rw [HD.out]; refine Nat.div_pos ?_ (Nat.pow_pos (by omega)); have : ¬ k ≤ i := by omega
     rw [HK.out, Wi.nb_le] at this; omega
    have hDM : D ≤ M := by rw [HD.out]; exact Nat.div_le_self _ _
    have t1 : decide ((0 : Int) < (D : Int)) = true := by simp; omega
    have t1n : decide (0 < D) = true := decide_eq_true hD0; obtain ⟨d, Hd⟩ : ∃ d, Hid (d = D % 256) := ⟨_, rfl⟩; have hd : d < 256 := by rw [Hd.out]; exact Nat.mod_lt _ (by omega)
    have tmd : (D : Int).tmod 256 = (d : Int) := by rw [Hd.out]; rfl
    have tmd2 : (D : Int) % 256 = (d : Int) := by rw [Hd.out]; omega
    have tmd3 : (d : Int) % 256 = (d : Int) := by omega
    obtain ⟨E, HEE⟩ : ∃ e, Hid (e = D / 256) := ⟨_, rfl⟩; have tdv : (D : Int).tdiv 256 = (E : Int) := by rw [HEE.out]; rfl
    have tdv2 : (D : Int) / 256 = (E : Int) := by rw [HEE.out]; omega
    have hE : E ≤ M := by rw [HEE.out]; omega
    have HE2 : Hid (E = M / 256 ^ (i + 1)) := by show _ = _; rw [HEE.out, HD.out, Nat.div_div_eq_div_mul, Nat.pow_succ]
    have hbA := bA wr (.cells #[.int .u8 (d : Int)] 5); have hown2 := hown.below hbA; have hby := By.new wr d hd; have hlen : (lit8 M i).length + [d].length ≤ 1073741824 := by rw [lit8_len]; simp; omega
    have hbx := Below.tr hbe hbA; have hsz := hbx.size; clear hown hbA hbe
    go_wp2_with (at_builtin; go_loud (refine wpList_appB rfl (.tmp 16) (.tmp 20) rfl w.heap.size _ _ rfl hown2 (some ⟨wr.heap.size, 0, none⟩) 1 1 [d] rfl hby hlen hsz ?_); intro v7 w7 hown7 hg7 _)
    have hbz := hbx.grown hg7 hsz (fun q hq => hown2.ge q hq); have hfin : OwnB w7 w.heap.size v7 (lit8 M (i + 1)) := by rw [lit8_succ, ← HD.out, ← Hd.out]; exact hown7
    clear hown7 hg7 hbx hown2 hby; go_wp2_with fail
    go_roundg (gk - 1)
    case measure => omega
    case rel => exact ⟨i + 1, E, rfl, by omega, HE2, hfin, hbz⟩
   ·obtain rfl : i = k := by omega
    have hD0 : D = 0 := by
     rw [HD.out]; refine Nat.div_eq_of_lt ?_; have h := (Wi.nb_le i M).1 (by rw [← HK.out]; exact Nat.le_refl _); exact h
    subst hD0; go_wp2_with fail
    go_meet
    case rel => exact ⟨_, rfl, ⟨_, rfl⟩, hown, hbe⟩
 obtain ⟨w1, rfl, ⟨x3, rfl⟩, hL, hbe⟩ := hcut; obtain ⟨A4, c4, rfl⟩ := hL.shp; rw [lit8_len] at *; obtain ⟨neg, HNG⟩ : ∃ b, Hid (b = decide (n < 0)) := ⟨_, rfl⟩; rw [← HNG.out] at HE HH0
 go_upto_if 27 with fail
 go_cut [6] from 26 to 58 (fun t6 wz => OwnB wz w.heap.size t6 [H0] ∧ OwnB wz w.heap.size (.slice A4 k c4) (lit8 M k) ∧ Apt t6 (.slice A4 k c4) ∧ Below w.heap.size w wz)
 case first => as_aux_lemma =>
  have hHv := HH0.out; have hNv := HNG.out; unfold Wi.headB at hHv; have hbA := bA w1 (.cells #[.int .u8 (H0 : Int)] 5); have hL2 := hL.below hbA; have hby := By.new w1 H0 hhd; have hbx := Below.tr hbe hbA; have hsz := hbx.size; have hnil : OwnB (w1.alloc (.cells #[.int .u8 (H0 : Int)] 5)) w.heap.size (.slice none 0 0) [] := OwnB.nil _ _; have hlen : ([] : List Nat).length + [H0].length ≤ 1073741824 := by simp
  by_cases hn : n < 0
  ·have t1 : decide (0 ≤ n) = false := decide_eq_false (by omega); rw [decide_eq_true hn] at hNv; subst hNv; rw [if_pos rfl] at hHv; have t2 : (127 : Int) - (k : Int) = (H0 : Int) := by omega
   simp only [t1]; clear hHv hn HNG HE hL hbA hbe HH0
   go_wp2_with (at_builtin; go_loud (refine wpList_appB rfl (.tmp 34) (.tmp 38) rfl w.heap.size _ _ rfl hnil (some ⟨w1.heap.size, 0, none⟩) 1 1 [H0] rfl hby hlen hsz ?_); intro v7 w7 hown7 hg7 ha7)
   have hbz := hbx.grown hg7 hsz (fun q hq => hnil.ge q hq); have hL3 := hL2.kept hg7 Apt.nil; have hap := Apt.grow hL2 Apt.nil ha7; go_wp2_with fail
   go_meet
   case rel => exact ⟨hown7, hL3, hap, hbz⟩
  ·have t1 : decide (0 ≤ n) = true := decide_eq_true (by omega); rw [decide_eq_false hn] at hNv; subst hNv; rw [if_neg (by simp)] at hHv; have t2 : (128 : Int) + (k : Int) = (H0 : Int) := by omega
   simp only [t1]; clear hHv hn HNG HE hL hbA hbe HH0
   go_wp2_with (at_builtin; go_loud (refine wpList_appB rfl (.tmp 28) (.tmp 32) rfl w.heap.size _ _ rfl hnil (some ⟨w1.heap.size, 0, none⟩) 1 1 [H0] rfl hby hlen hsz ?_); intro v7 w7 hown7 hg7 ha7)
   have hbz := hbx.grown hg7 hsz (fun q hq => hnil.ge q hq); have hL3 := hL2.kept hg7 Apt.nil; have hap := Apt.grow hL2 Apt.nil ha7; go_wp2_with fail
   go_meet
   case rel => exact ⟨hown7, hL3, hap, hbz⟩
 clear hL hbe; obtain ⟨ho6, hL, hap, hbe⟩ := hcut; go_wp2_with fail
 go_loopg [6, 7] k (fun j v x wr => ∃ i : Nat, x = .int .i64 ((i : Int) - 1) ∧ i = j ∧ i ≤ k ∧ OwnB wr w.heap.size v (H0 :: ((Wi.be k M).take (k - i)).map (Wi.fl neg)) ∧ OwnB wr w.heap.size (.slice A4 k c4) (lit8 M k) ∧ Apt v (.slice A4 k c4) ∧ Below w.heap.size w wr)
 case atStart => exact ⟨k, by go_num, rfl, Nat.le_refl _, by rw [Nat.sub_self]; exact ho6, hL, hap, hbe⟩
 case round =>
  clear ho6 hL hap hbe; obtain ⟨i, rfl, hij, hik, hown, hL, hap, hbe⟩ := hrel; by_cases hi0 : 0 < i
  ·obtain ⟨j, rfl⟩ : ∃ j, i = j + 1 := ⟨i - 1, by omega⟩; have e1 : (((j + 1 : Nat) : Int) - 1) = (j : Int) := by omega
   rw [e1]; have hj0 : ¬ (j : Int) < 0 := by omega
   have hjk : (j : Int) < (k : Int) := by omega
   obtain ⟨b4, o4, d, rfl, hcd, hd, HD⟩ := (hL.by_ (by rw [lit8_len]; omega)).get (i := j) (by omega)
   have Hd : Hid (d = M / 256 ^ j % 256) := by
    have h := HD.out; rw [lit8_get (by omega)] at h; injection h with h; exact h.symm
   obtain ⟨f, Hf⟩ : ∃ f, Hid (f = Wi.fl neg d) := ⟨_, rfl⟩; have hf : f < 256 := by rw [Hf.out]; exact Wi.fl_lt hd
   have hbA := bA wr (.cells #[.int .u8 (f : Int)] 5); have hown2 := hown.below hbA; have hL2 := hL.below hbA; have hby := By.new wr f hf
   have hlen : (H0 :: ((Wi.be k M).take (k - (j + 1))).map (Wi.fl neg)).length + [f].length ≤ 1073741824 := by
    simp only [List.length_cons, List.length_map, List.length_take, List.length_nil]; omega
   have hbx := Below.tr hbe hbA; have hsz := hbx.size
   have hfinE : ∀ l : List Nat, l = (H0 :: ((Wi.be k M).take (k - (j + 1))).map (Wi.fl neg)) ++ [f] → l = H0 :: ((Wi.be k M).take (k - j)).map (Wi.fl neg) := by
    intro l hl; have e : k - j = k - (j + 1) + 1 := by omega
    rw [hl, e, be_snoc (by omega), List.map_append, ← List.cons_append]; simp only [List.map_cons, List.map_nil]; rw [← Hd.out, ← Hf.out]
   have HFE := Lib.hid (hfinE _ rfl); clear hfinE; by_cases hn : n < 0
   ·have t2 : decide (n < 0) = true := decide_eq_true hn
    have t3 : (255 : Int) - (d : Int) = (f : Int) := by
     have := Hf.out; rw [HNG.out, t2] at this; unfold Wi.fl at this; simp only [if_true] at this; omega
    clear hn
    go_wp2_with (at_builtin; go_loud (refine wpList_appB rfl (.tmp 54) (.tmp 56) rfl w.heap.size _ _ rfl hown2 (some ⟨wr.heap.size, 0, none⟩) 1 1 [f] rfl hby hlen hsz ?_); intro v7 w7 hown7 hg7 ha7)
    have hbz := hbx.grown hg7 hsz (fun q hq => hown2.ge q hq); have hL3 := hL2.kept hg7 hap; have hap3 := Apt.grow hL2 hap ha7; rw [HFE.out] at hown7; clear hg7 hbx hown2 hby hL2 hL hap hown; go_wp2_with fail
    go_roundg (gk - 1)
    case measure => omega
    case rel => exact ⟨j, by go_num, by omega, by omega, hown7, hL3, hap3, hbz⟩
   ·have t2 : decide (n < 0) = false := decide_eq_false hn
    have t3 : d = f := by
     have := Hf.out; rw [HNG.out, t2] at this; unfold Wi.fl at this
     simpa using this.symm
    subst t3; clear hn
    go_wp2_with (at_builtin; go_loud (refine wpList_appB rfl (.tmp 54) (.tmp 56) rfl w.heap.size _ _ rfl hown2 (some ⟨wr.heap.size, 0, none⟩) 1 1 [d] rfl hby hlen hsz ?_); intro v7 w7 hown7 hg7 ha7)
    have hbz := hbx.grown hg7 hsz (fun q hq => hown2.ge q hq); have hL3 := hL2.kept hg7 hap; have hap3 := Apt.grow hL2 hap ha7; rw [HFE.out] at hown7; clear hg7 hbx hown2 hby hL2 hL hap hown; go_wp2_with fail
    go_roundg (gk - 1)
    case measure => omega
    case rel => exact ⟨j, by go_num, by omega, by omega, hown7, hL3, hap3, hbz⟩
  ·obtain rfl : i = 0 := by omega
   rw [Nat.sub_zero] at hown; have e2 : (Wi.be k M).take k = Wi.be k M := List.take_of_length_le (by rw [Wi.be_len]; omega); rw [e2] at hown; have HYE : H0 :: (Wi.be k M).map (Wi.fl neg) = Y := by rw [HY.out, HE.out, ← HH0.out]
   rw [HYE] at hown; obtain ⟨A7, c7, rfl⟩ := hown.shp; have hfin := Lib.hid hown; clear hown HYE; go_wp2_with fail; go_ret; exact ⟨_, rfl, hfin.out, hbe⟩
set_option maxRecDepth 10000 in
set_option maxHeartbeats 400000 in
theorem bsame_n (A1 A2 : Option Addr) (k1 c1 k2 c2 : Nat) (l1 l2 : List Nat) (w : World) (h1 : By w A1 k1 c1 l1) (h2 : By w A2 k2 c2 l2) :
  Calls Tryz.prog 40 #[.slice A1 k1 c1, .slice A2 k2 c2] w fun e w' => ∃ b, e = .returned (.bool b) ∧ Hid (b = sameB l1 l2) ∧ Below w.heap.size w w' := by
 have hkb1 : k1 ≤ 9223372036854775807 := h1.1.2.2; have e1 := h1.len; have e2 := h2.len; have E1 := Lib.hid e1; have E2 := Lib.hid e2; by_cases hk : k1 = k2
 ·subst hk; clear e1 e2
  go_enter Tryz.func40, Tryz.ntmps40
  go_wp2
  go_loopg [5] k1 (fun j x wr => ∃ i : Nat, x = .int .i64 i ∧ i + j = k1 ∧ Hid (l1.take i = l2.take i) ∧ ∃ nq, wr = w.drewN nq)
  case atStart => exact ⟨0, rfl, by omega, by show _ = _; simp, 0, rfl⟩
  case round =>
   obtain ⟨i, rfl, hij, HT, nq, rfl⟩ := hrel; by_cases hi : i < k1
   ·obtain ⟨b1, o1, a, rfl, hca, ha, HA⟩ := h1.get2 (i := i) hi; obtain ⟨b2, o2, b, rfl, hcb, hb, HB⟩ := h2.get2 (i := i) hi; by_cases hab : a = b
    ·have HT2 : Hid (l1.take (i + 1) = l2.take (i + 1)) := take_same (by have := E1.out; omega) (by rw [← E1.out, ← E2.out]) HT.out HA.out HB.out hab; have hd : ((a : Int) != (b : Int)) = false := by rw [hab]; simp
     clear hab; go_wp2_with fail
     go_quiet (fail)
     go_wp2_with fail
     go_roundg (gk - 1)
     case measure => omega
     case rel => exact ⟨i + 1, by go_num, by omega, HT2, _, rfl⟩
    ·have hd : ((a : Int) != (b : Int)) = true := by simp; omega
     have HF : Hid (false = sameB l1 l2) := by
      show _ = _; unfold sameB; symm; rw [decide_eq_false_iff_not]
      rintro rfl; exact hab (HA.out.trans HB.out.symm)
     clear hab; go_wp2_with fail
     go_quiet (fail)
     go_wp2_with fail; go_ret; exact ⟨_, rfl, HF, Below.tr (below_drewN _ _) (below_drewN _ _)⟩
   ·obtain rfl : k1 = i := by omega
    have HF : Hid (true = sameB l1 l2) := by
     show _ = _; unfold sameB; symm; rw [decide_eq_true_iff]
     have := HT.out
     rwa [List.take_of_length_le (by rw [← E1.out]; omega), List.take_of_length_le (by rw [← E2.out]; omega)] at this
    go_wp2_with fail; go_ret; exact ⟨_, rfl, HF, below_drewN _ _⟩
 ·have HF : Hid (false = sameB l1 l2) := by
   show _ = _; unfold sameB; symm; rw [decide_eq_false_iff_not]
   rintro rfl; exact hk (e1.trans e2.symm)
  have hd : ((k1 : Int) != (k2 : Int)) = true := by simp; omega
  clear e1 e2 hk
  go_enter Tryz.func40, Tryz.ntmps40
  go_wp2
  go_ret; exact ⟨_, rfl, HF, Below.refl _ _⟩
end Go.Proofs.YtijkfagkbfbpmaaGreatDoor
namespace Go.Proofs.YtijkfagkbfbpmaaGreatDoor
open Go Go.RowKit
theorem alloc_sz (w : World) (o : Obj) : w.heap.size + 1 = (w.alloc o).heap.size := by show _ = (w.heap.push o).size; rw [Array.size_push]
theorem wv_nat {n : Nat} (h : n < 4294967296) : (n : Int) = wv (BitVec.ofNat 32 n) := by unfold wv; rw [BitVec.toNat_ofNat, Nat.mod_eq_of_lt h]
theorem heap_alloc_new' {g : Nat} (w : World) (T : TypeId) (arr : Array Value) (h : g = w.heap.size) : Blk (w.alloc (.cells arr T)) g T arr := h ▸ Blk.new w T arr
/-- behind a region that stores a value into one cell -/
def SStore (w1 : World) (g i : Nat) (V : Value) : List Value → (Nat → Value) → World → Prop
 | [], _, W => Below w1.heap.size w1 W
 | [_], _, W => ∃ W0, Below w1.heap.size w1 W0 ∧ W = W0.setCell ⟨g, i, none⟩ V
 | _, _, _ => True
theorem arW_one {n : Nat} {f : Nat → BitVec 32} : ∀ v ∈ (arL n f), v.oneCell' = true := by
 intro v hv; obtain ⟨j, _, rfl⟩ := List.mem_map.1 hv; rfl
theorem arL_len (n : Nat) (f : Nat → BitVec 32) : (arL n f).length = n := by simp [arL]
theorem infoW64 {f : Nat → BitVec 32} : (Tryz.prog.info? 180).map (·.size) = some (arL 64 f).length := by rw [arL_len]; kernel_rfl
theorem infoW64s {f : Nat → BitVec 32} : (Tryz.prog.info? 180).map (·.size) = some (arW 64 f).size := by rw [arW_size]; kernel_rfl
theorem arW_zero : arW 64 (fun _ => 0) = #[.int .u32 0, .int .u32 0, .int .u32 0, .int .u32 0, .int .u32 0, .int .u32 0, .int .u32 0, .int .u32 0, .int .u32 0, .int .u32 0, .int .u32 0, .int .u32 0, .int .u32 0, .int .u32 0, .int .u32 0, .int .u32 0, .int .u32 0, .int .u32 0, .int .u32 0, .int .u32 0, .int .u32 0, .int .u32 0, .int .u32 0, .int .u32 0, .int .u32 0, .int .u32 0, .int .u32 0, .int .u32 0, .int .u32 0, .int .u32 0, .int .u32 0, .int .u32 0, .int .u32 0, .int .u32 0, .int .u32 0, .int .u32 0, .int .u32 0, .int .u32 0, .int .u32 0, .int .u32 0, .int .u32 0, .int .u32 0, .int .u32 0, .int .u32 0, .int .u32 0, .int .u32 0, .int .u32 0, .int .u32 0, .int .u32 0, .int .u32 0, .int .u32 0, .int .u32 0, .int .u32 0, .int .u32 0, .int .u32 0, .int .u32 0, .int .u32 0, .int .u32 0, .int .u32 0, .int .u32 0, .int .u32 0, .int .u32 0, .int .u32 0, .int .u32 0] := by rfl
def PhiSc14 (g t a b : Nat) (x0 x1 x2 x3 : BitVec 32) (vs : Nat → Value) (j : Nat) (w : World) (x : Value) : Prop :=
 match j with
 | 0 => x = .int .i64 (t : Nat)
 | 1 => x = .int .i64 (t : Nat)
 | 2 => x = .int .i64 (a : Nat)
 | 3 => x = .pointer (some ⟨g, a, none⟩)
 | 4 => x = .int .u32 (wv x0)
 | 5 => x = .int .u32 (wv x1)
 | 6 => x = .int .u32 (wv (x0 + x1))
 | 7 => x = .int .i64 (t : Nat)
 | 8 => x = .int .i64 (b : Nat)
 | 9 => x = .pointer (some ⟨g, b, none⟩)
 | 10 => x = .int .u32 (wv x2)
 | 11 => x = .int .u32 (wv (x0 + x1 + x2))
 | 12 => x = .int .u32 (wv x3)
 | 13 => x = .int .u32 (wv (x0 + x1 + x2 + x3))
 | 14 => x = .pointer (some ⟨g, t, none⟩)
 | _ => True
theorem PhiSc14.keepR {g t a b : Nat} {x0 x1 x2 x3 : BitVec 32} : ∀ vs (w w' : World), Below w.heap.size w w' → ∀ j x, PhiSc14 g t a b x0 x1 x2 x3 vs j w x → PhiSc14 g t a b x0 x1 x2 x3 vs j w' x := fun _ _ _ _ _ _ h => h
theorem PhiSc14.keepF {g t a b : Nat} {x0 x1 x2 x3 : BitVec 32} : ∀ vs (w w' : World) j x, ([] : List Nat).contains j = true → PhiSc14 g t a b x0 x1 x2 x3 vs j w x → PhiSc14 g t a b x0 x1 x2 x3 vs j w' x := fun _ _ _ _ _ _ h => h

set_option maxRecDepth 100000 in
set_option maxHeartbeats 4000000 in
theorem sched_n (A : Option Addr) (c : Nat) (l : List Nat) (w : World) (h : By w A 64 c l) : Calls Tryz.prog 156 #[.slice A 64 c] w fun e w' => e = .returned (.agg (arW 64 (swW l))) ∧ Below w.heap.size w w' := by
 obtain ⟨b, off, _, rfl, _⟩ := h.get (i := 0) (by omega); have hcap : 64 ≤ c := h.2.1; have hcap2 := h.2.2.1
 go_enter Tryz.func156, Tryz.ntmps156
 go_wp2_with fail; refine wp_name ?_; intro w2 HW; rw [← arW_zero] at HW; have hb2 : Below w.heap.size w w2 := by rw [HW.out]; exact Below.tr (bA _ _) (bA _ _)
 have HR : Hid (Blk w2 w.heap.size 180 (arW 64 fun _ => 0)) := by rw [HW.out]; exact (Blk.new _ _ _).alloc _
 have HB : Hid (Blk w2 (w.heap.size + 1) 180 (arW 64 fun j => if j < 0 then swW l j else 0)) := by rw [HW.out]; exact heap_alloc_new' _ _ _ (alloc_sz _ _)
 clear HW
 go_loopg [11] 64 (fun mm x wr => ∃ t : Nat, x = .int .i64 t ∧ t + mm = 64 ∧ Hid (Blk wr w.heap.size 180 (arW 64 fun _ => 0)) ∧ Hid (Blk wr (w.heap.size + 1) 180 (arW 64 fun j => if j < t then swW l j else 0)) ∧ Below w.heap.size w wr)
 case atStart => exact ⟨0, rfl, rfl, HR, HB, hb2⟩
 case round =>
  clear HR HB hb2; obtain ⟨G, hG⟩ : ∃ G, G = gk := ⟨gk, rfl⟩; subst hG; obtain ⟨t, rfl, htm, HR, HB, hbe⟩ := hrel; have hby := h.below hbe; by_cases ht : t < 64
  rotate_left
  ·have t1 : decide ((t : Int) < 64) = false := by simp; omega
   obtain rfl : t = 64 := by omega
   have BF : Blk wr (w.heap.size + 1) 180 (arL 64 (swW l)).toArray := by
    have e : arW 64 (fun j => if j < 64 then swW l j else 0) = arW 64 (swW l) := arW_congr fun j hj => if_pos hj
    have h2 := HB.out; rw [e] at h2; exact h2
   go_wp2_with (first | (refine wpList_load_mid rfl 180 (.tmp 3) rfl (w.heap.size + 1) 0 rfl (arL 64 (swW l)) _ (Blk.range BF) Tryz.underlying180 rfl infoW64 ?_; simp only [Act.put, sA, sB, sC]) | (refine wpList_store_mid rfl 180 (.tmp 2) (.tmp 78) rfl w.heap.size 0 (arW 64 (swW l)) rfl rfl (Blk.there HR.out (by rw [arW_size, arW_size])) infoW64s (all_oneCell_toArray arW_one) ?_))
   (try simp only [Exit.inBlock, Exit.then])
   exact bodyPost_ret (results_cell_row rfl _ _ w.heap.size 180 _ (0, 0) _ rfl (Blk.setAll HR.out (by rw [arW_size, arW_size])) Tryz.underlying180 rfl infoW64s) rfl ⟨rfl, below_setAll (g := w.heap.size) (Nat.le_refl _) _ 0 hbe⟩
  have t1 : decide ((t : Int) < 64) = true := by simp; omega
  have lt : (t : Int) < 64 := by omega
  have BW := HB.out; by_cases h16 : t < 16
  ·have t2 : decide ((t : Int) < 16) = true := by simp; omega
   obtain ⟨q4, HQ4⟩ : ∃ q4 : Nat, Hid (q4 = 4 * t) := ⟨_, rfl⟩; have hm4 : IntKind.i64.wrap (4 * (t : Int)) = (q4 : Int) := by rw [IntWalk.i64_in _ (by omega), HQ4.out]; omega
   have hm5 : IntKind.i64.wrap ((q4 : Int) + 4) = ((q4 + 4 : Nat) : Int) := by rw [IntWalk.i64_in _ (by have := HQ4.out; omega)]; omega
   have f1 : 0 ≤ (q4 : Int) + 4 := by omega
   have f2 : (q4 : Int) + 4 ≤ (c : Int) := by have := HQ4.out; omega
   have f3 : ¬ c = q4 := by have := HQ4.out; omega
   have f4 : ((q4 : Int) + 4).toNat = q4 + 4 := by omega
   have f5 : q4 ≤ q4 + 4 := by omega
   go_wp2_with fail
   go_loopg [24] 4 (fun mm x wr => ∃ q : Nat, x = .int .i64 q ∧ q + mm = 4 ∧ Hid (Blk wr w.heap.size 180 (arW 64 fun _ => 0)) ∧ Hid (Blk wr (w.heap.size + 1) 180 (arW 64 fun j => if j < t then swW l j else if j = t then wordTo l t q else 0)) ∧ Below w.heap.size w wr)
   case atStart =>
    refine ⟨0, rfl, rfl, HR, ?_, hbe⟩; have e : arW 64 (fun j => if j < t then swW l j else if j = t then wordTo l t 0 else 0) = arW 64 (fun j => if j < t then swW l j else 0) := arW_congr fun j hj => by simp [wordTo]
    show Blk _ _ _ _
    rw [e]; exact HB.out
   case round =>
    clear HR HB hbe BW hby; obtain ⟨G2, hG2⟩ : ∃ G, G = gk := ⟨gk, rfl⟩; subst hG2; obtain ⟨q, rfl, hqm, HR, HB, hbe⟩ := hrel; have hby := h.below hbe; by_cases hq : q < 4
    rotate_left
    ·have t3 : decide ((q : Int) < 4) = false := by simp; omega
     obtain rfl : q = 4 := by omega
     go_wp2_with fail
     go_roundg (G - 1)
     case measure => omega
     case rel =>
      refine ⟨t + 1, by go_num, by omega, HR, ?_, hbe⟩
      have e : arW 64 (fun j => if j < t + 1 then swW l j else 0) = arW 64 (fun j => if j < t then swW l j else if j = t then wordTo l t 4 else 0) := arW_congr fun j hj => by
       by_cases h1 : j < t
       ·rw [if_pos h1, if_pos (by omega)]
       ·by_cases h2 : j = t
        ·subst h2; rw [if_pos (by omega), if_neg h1, if_pos rfl, wordTo_four, swW_lo h16]
        ·rw [if_neg (by omega), if_neg h1, if_neg h2]
      show Blk _ _ _ _
      rw [e]; exact HB.out
    have t3 : decide ((q : Int) < 4) = true := by simp; omega
    have lq : (q : Int) < 4 := by omega
    have BW := HB.out; obtain ⟨b', off', n, hA, hc, hn, hln⟩ := hby.get (i := 4 * t + q) (by omega); injection hA with hA; injection hA with hA1 hA2; subst hA1 hA2; rw [show off + (4 * t + q) = off + q4 + q by have := HQ4.out; omega] at hc; have hw1 : wr.cell? ⟨w.heap.size + 1, t, none⟩ = some (.int .u32 (wv (wordTo l t q))) := by rw [BW.cell, arW_get ht, if_neg (by omega), if_pos rfl]
    have hw2 := BW.frozen t; have hnw : (n : Int) % 4294967296 = n := by omega
    have hv : bits .or .u32 (wv (wordTo l t q) * 256 % 4294967296) (n : Int) = wv (wordTo l t (q + 1)) := by
     rw [wv_shl8, wv_nat (by omega), wv_or]; have e : l.getD (4 * t + q) 0 = n := by rw [List.getD_eq_getElem?_getD, hln]; rfl
     rw [wordTo, e]
    have HBN : Hid (Blk (wr.setCell ⟨w.heap.size + 1, t, none⟩ (.int .u32 (wv (wordTo l t (q + 1))))) (w.heap.size + 1) 180 (arW 64 fun j => if j < t then swW l j else if j = t then wordTo l t (q + 1) else 0)) := by
     have h2 := BW.set_ t (.int .u32 (wv (wordTo l t (q + 1)))); rw [arW_set] at h2; rw [arW_congr (g := fun j => if j = t then wordTo l t (q + 1) else if j < t then swW l j else if j = t then wordTo l t q else 0)]
     ·exact h2
     ·intro j hj; by_cases h1 : j = t
      ·subst h1; rw [if_neg (by omega), if_pos rfl, if_pos rfl]
      ·simp only [h1, if_false]
    have HRN : Hid (Blk (wr.setCell ⟨w.heap.size + 1, t, none⟩ (.int .u32 (wv (wordTo l t (q + 1))))) w.heap.size 180 (arW 64 fun _ => 0)) := HR.out.far (by simp) _; have hbeN : Below w.heap.size w (wr.setCell ⟨w.heap.size + 1, t, none⟩ (.int .u32 (wv (wordTo l t (q + 1))))) := hbe.setCell (by simp) _; clear HB HR BW hby hbe; go_wp2_with fail
    go_roundg (G2 - 1)
    case measure => omega
    case rel => exact ⟨q + 1, by go_num, by omega, HRN, HBN, hbeN⟩
  ·have t2 : decide ((t : Int) < 16) = false := by simp; omega
   obtain ⟨a, HA⟩ : ∃ a : Nat, Hid (t = a + 16) := ⟨t - 16, (by show _ = _; omega)⟩; obtain ⟨a15, HA15⟩ : ∃ a : Nat, Hid (a + 15 = t) := ⟨t - 15, (by show _ = _; omega)⟩; obtain ⟨a2, HA2⟩ : ∃ a : Nat, Hid (a + 2 = t) := ⟨t - 2, (by show _ = _; omega)⟩; obtain ⟨a7, HA7⟩ : ∃ a : Nat, Hid (a + 7 = t) := ⟨t - 7, (by show _ = _; omega)⟩; have w15 : IntKind.i64.wrap ((t : Int) - 15) = (a15 : Int) := by rw [IntWalk.i64_in _ (by omega)]; have := HA15.out; omega
   have w2' : IntKind.i64.wrap ((t : Int) - 2) = (a2 : Int) := by rw [IntWalk.i64_in _ (by omega)]; have := HA2.out; omega
   have w7 : IntKind.i64.wrap ((t : Int) - 7) = (a7 : Int) := by rw [IntWalk.i64_in _ (by omega)]; have := HA7.out; omega
   have w16 : IntKind.i64.wrap ((t : Int) - 16) = (a : Int) := by rw [IntWalk.i64_in _ (by omega)]; have := HA.out; omega
   have l15 : (a15 : Int) < 64 := by have := HA15.out; omega
   have l2 : (a2 : Int) < 64 := by have := HA2.out; omega
   have l7 : (a7 : Int) < 64 := by have := HA7.out; omega
   have l16 : (a : Int) < 64 := by have := HA.out; omega
   have cell : ∀ m, m < t → wr.cell? ⟨w.heap.size + 1, m, none⟩ = some (.int .u32 (wv (swW l m))) := fun m hm => by rw [BW.cell, arW_get (by omega), if_pos hm]
   have c15 := cell a15 (by have := HA15.out; omega); have c2 := cell a2 (by have := HA2.out; omega); have c7 := cell a7 (by have := HA7.out; omega); have c16 := cell a (by have := HA.out; omega); have ct : wr.cell? ⟨w.heap.size + 1, t, none⟩ = some (.int .u32 (wv 0)) := by rw [BW.cell, arW_get ht, if_neg (by omega)]
   have e0 : bits .xor .u32 (bits .xor .u32 (wv (rr 7 (swW l a15))) (wv (rr 18 (swW l a15)))) (wv (swW l a15) / 8) = wv (sg0 (swW l a15)) := by rw [wv_shr3, wv_xor, wv_xor]; rfl
   have e1 : bits .xor .u32 (bits .xor .u32 (wv (rr 17 (swW l a2))) (wv (rr 19 (swW l a2)))) (wv (swW l a2) / 1024) = wv (sg1 (swW l a2)) := by rw [wv_shr10, wv_xor, wv_xor]; rfl
   have HV : Hid (swW l t = swW l a + sg0 (swW l a15) + swW l a7 + sg1 (swW l a2)) := by
    show _ = _
    rw [swW_hi h16]; rw [show t - 16 = a by have := HA.out; omega, show t - 15 = a15 by have := HA15.out; omega, show t - 7 = a7 by have := HA7.out; omega, show t - 2 = a2 by have := HA2.out; omega]
   clear cell; go_wp2_with fail
   go_quiet (fail)
   go_wp2_with fail; refine (rotl7_n _ _).mono ?_; rintro e w3 ⟨rfl, rfl⟩; go_wp2_with fail; refine (rotl18_n _ _).mono ?_; rintro e w3 ⟨rfl, rfl⟩; go_wp2_with fail; refine (rotl17_n _ _).mono ?_; rintro e w3 ⟨rfl, rfl⟩; go_wp2_with fail; refine (rotl19_n _ _).mono ?_; rintro e w3 ⟨rfl, rfl⟩; obtain ⟨wx, HWX⟩ : ∃ x, Hid (x = wr.drewN nq) := ⟨_, rfl⟩; have hbx : Below wr.heap.size wr wx := by rw [HWX.out]; exact below_drewN _ _
   rw [← HWX.out]; have hbe := Below.tr hbe hbx; have HR : Hid (Blk wx w.heap.size 180 (arW 64 fun _ => 0)) := Blk.below HR.out hbx HR.out.lt; have BW := Blk.below BW hbx BW.lt; have c7 := cell_keep hbx c7; have c16 := cell_keep hbx c16; have ct := cell_keep hbx ct; clear HWX hbx HB hby c15 c2 w15 w2' l15 l2; go_upto_region 14 with fail; refine region_chain [15] [.early, .early, .early, .early, .early, .early, .early, .early, .early, .early, .early, .early, .early, .early, .early, .chain 0] [] [] (PhiSc14 (w.heap.size + 1) t a a7 (swW l a) (sg0 (swW l a15)) (swW l a7) (sg1 (swW l a2))) (fun w w' => Below w.heap.size w w') (SStore wx (w.heap.size + 1) t (.int .u32 (wv (swW l a + sg0 (swW l a15) + swW l a7 + sg1 (swW l a2))))) (by kernel_rfl) (by kernel_rfl) (by kernel_rfl) (by kernel_rfl) (sK (fun _ _ _ _ _ h => h) (sK (fun _ _ _ _ _ h => h) (sK (fun _ _ _ _ _ h => h) (sK (fun _ _ _ _ _ h => h) (sK (fun _ _ _ _ _ h => h) (sK (fun _ _ _ _ _ h => h) (sK (fun _ _ _ _ _ h => h) (sK (fun _ _ _ _ _ h => h) (sK (fun _ _ _ _ _ h => h) (sK (fun _ _ _ _ _ h => h) (sK (fun _ _ _ _ _ h => h) (sK (fun _ _ _ _ _ h => h) (sK (fun _ _ _ _ _ h => h) (sK (fun _ _ _ _ _ h => h) (sK (fun _ _ _ _ _ h => h) (sK (fun _ _ _ _ _ h => h) (sZ))))))))))))))))) PhiSc14.keepR PhiSc14.keepF (fun _ _ _ _ hR hS => Below.tr hS hR) (by rintro (_ | ⟨_, _ | _⟩) vs vs' w _ h <;> exact h) (fun _ => bD _) (fun vs => by simp only [fillR, Act.put, sA, sB, sC, Nat.zero_add, Nat.reduceAdd]; rfl) ?_ ?_
   ·refine sK ?_ (sK ?_ (sK ?_ (sK ?_ (sK ?_ (sK ?_ (sK ?_ (sK ?_ (sK ?_ (sK ?_ (sK ?_ (sK ?_ (sK ?_ (sK ?_ (sK ?_ (sK ?_ (sZ))))))))))))))))
    ·as_aux_lemma =>
     intro vs W hS hu hdep K hK; have HU := Lib.hid hu; clear hu; refine ⟨?_⟩; simp only [Act.put, sA, sB, sC, Nat.zero_add, Nat.reduceAdd] at hK ⊢; go_simp; with_reducible refine hK _ _ (Below.refl _ _) ?_
     exact rfl
    ·as_aux_lemma =>
     intro vs W hS hu hdep K hK; have HU := Lib.hid hu; clear hu; refine ⟨?_⟩; simp only [Act.put, sA, sB, sC, Nat.zero_add, Nat.reduceAdd] at hK ⊢; go_simp; with_reducible refine hK _ _ (Below.refl _ _) ?_
     exact rfl
    ·as_aux_lemma =>
     intro vs W hS hu hdep K hK; have HU := Lib.hid hu; clear hu; have d0 := hdep ⟨1, .data⟩ (by simp) rfl; simp only [PhiSc14] at d0; have g1 := w16; refine ⟨?_⟩; simp only [Act.put, sA, sB, sC, Nat.zero_add, Nat.reduceAdd, d0] at hK ⊢; go_simp; with_reducible refine hK _ _ (Below.refl _ _) ?_
     exact rfl
    ·as_aux_lemma =>
     intro vs W hS hu hdep K hK; have HU := Lib.hid hu; clear hu; have d0 := hdep ⟨2, .data⟩ (by simp) rfl; simp only [PhiSc14] at d0; refine ⟨?_⟩; simp only [Act.put, sA, sB, sC, Nat.zero_add, Nat.reduceAdd, d0] at hK ⊢; go_simp; with_reducible refine hK _ _ (Below.refl _ _) ?_
     exact rfl
    ·as_aux_lemma =>
     intro vs W hS hu hdep K hK; have HU := Lib.hid hu; clear hu; have d0 := hdep ⟨3, .data⟩ (by simp) rfl; simp only [PhiSc14] at d0; have g1 := cell_keep hS c16; refine ⟨?_⟩; simp only [Act.put, sA, sB, sC, Nat.zero_add, Nat.reduceAdd, d0] at hK ⊢; go_simp; with_reducible refine hK _ _ (Below.refl _ _) ?_
     exact rfl
    ·as_aux_lemma =>
     intro vs W hS hu hdep K hK; have HU := Lib.hid hu; clear hu; refine ⟨?_⟩; simp only [Act.put, sA, sB, sC, Nat.zero_add, Nat.reduceAdd] at hK ⊢; go_simp; with_reducible refine hK _ _ (Below.refl _ _) ?_
     exact rfl
    ·as_aux_lemma =>
     intro vs W hS hu hdep K hK; have HU := Lib.hid hu; clear hu; have d0 := hdep ⟨4, .data⟩ (by simp) rfl; simp only [PhiSc14] at d0; have d1 := hdep ⟨5, .data⟩ (by simp) rfl; simp only [PhiSc14] at d1; refine ⟨?_⟩; simp only [Act.put, sA, sB, sC, Nat.zero_add, Nat.reduceAdd, d0, d1] at hK ⊢; go_simp; with_reducible refine hK _ _ (Below.refl _ _) ?_
     exact (congrArg (Value.int .u32) (wv_add _ _))
    ·as_aux_lemma =>
     intro vs W hS hu hdep K hK; have HU := Lib.hid hu; clear hu; refine ⟨?_⟩; simp only [Act.put, sA, sB, sC, Nat.zero_add, Nat.reduceAdd] at hK ⊢; go_simp; with_reducible refine hK _ _ (Below.refl _ _) ?_
     exact rfl
    ·as_aux_lemma =>
     intro vs W hS hu hdep K hK; have HU := Lib.hid hu; clear hu; have d0 := hdep ⟨7, .data⟩ (by simp) rfl; simp only [PhiSc14] at d0; have g1 := w7; refine ⟨?_⟩; simp only [Act.put, sA, sB, sC, Nat.zero_add, Nat.reduceAdd, d0] at hK ⊢; go_simp; with_reducible refine hK _ _ (Below.refl _ _) ?_
     exact rfl
    ·as_aux_lemma =>
     intro vs W hS hu hdep K hK; have HU := Lib.hid hu; clear hu; have d0 := hdep ⟨8, .data⟩ (by simp) rfl; simp only [PhiSc14] at d0; refine ⟨?_⟩; simp only [Act.put, sA, sB, sC, Nat.zero_add, Nat.reduceAdd, d0] at hK ⊢; go_simp; with_reducible refine hK _ _ (Below.refl _ _) ?_
     exact rfl
    ·as_aux_lemma =>
     intro vs W hS hu hdep K hK; have HU := Lib.hid hu; clear hu; have d0 := hdep ⟨9, .data⟩ (by simp) rfl; simp only [PhiSc14] at d0; have g1 := cell_keep hS c7; refine ⟨?_⟩; simp only [Act.put, sA, sB, sC, Nat.zero_add, Nat.reduceAdd, d0] at hK ⊢; go_simp; with_reducible refine hK _ _ (Below.refl _ _) ?_
     exact rfl
    ·as_aux_lemma =>
     intro vs W hS hu hdep K hK; have HU := Lib.hid hu; clear hu; have d0 := hdep ⟨6, .data⟩ (by simp) rfl; simp only [PhiSc14] at d0; have d1 := hdep ⟨10, .data⟩ (by simp) rfl; simp only [PhiSc14] at d1; refine ⟨?_⟩; simp only [Act.put, sA, sB, sC, Nat.zero_add, Nat.reduceAdd, d0, d1] at hK ⊢; go_simp; with_reducible refine hK _ _ (Below.refl _ _) ?_
     exact (congrArg (Value.int .u32) (wv_add _ _))
    ·as_aux_lemma =>
     intro vs W hS hu hdep K hK; have HU := Lib.hid hu; clear hu; refine ⟨?_⟩; simp only [Act.put, sA, sB, sC, Nat.zero_add, Nat.reduceAdd] at hK ⊢; go_simp; with_reducible refine hK _ _ (Below.refl _ _) ?_
     exact rfl
    ·as_aux_lemma =>
     intro vs W hS hu hdep K hK; have HU := Lib.hid hu; clear hu; have d0 := hdep ⟨11, .data⟩ (by simp) rfl; simp only [PhiSc14] at d0; have d1 := hdep ⟨12, .data⟩ (by simp) rfl; simp only [PhiSc14] at d1; refine ⟨?_⟩; simp only [Act.put, sA, sB, sC, Nat.zero_add, Nat.reduceAdd, d0, d1] at hK ⊢; go_simp; with_reducible refine hK _ _ (Below.refl _ _) ?_
     exact (congrArg (Value.int .u32) (wv_add _ _))
    ·as_aux_lemma =>
     intro vs W hS hu hdep K hK; have HU := Lib.hid hu; clear hu; have d0 := hdep ⟨0, .data⟩ (by simp) rfl; simp only [PhiSc14] at d0; refine ⟨?_⟩; simp only [Act.put, sA, sB, sC, Nat.zero_add, Nat.reduceAdd, d0] at hK ⊢; go_simp; with_reducible refine hK _ _ (Below.refl _ _) ?_
     exact rfl
    ·as_aux_lemma =>
     intro vs W hS hdep K hK; have d0 := hdep ⟨14, .data⟩ (by simp) rfl (by rfl); simp only [PhiSc14] at d0; have d1 := hdep ⟨13, .data⟩ (by simp) rfl (by rfl); simp only [PhiSc14] at d1; have hS : Below wx.heap.size wx W := hS; have f1 := cell_keep hS ct; have f2 := (Blk.below BW hS BW.lt).frozen t; refine ⟨?_⟩; simp only [Act.put, sA, sB, sC, Nat.zero_add, Nat.reduceAdd, d0, d1] at hK ⊢; go_simp; with_reducible refine hK undef _ ?_
     exact ⟨_, hS, rfl⟩
   ·intro vs W hS _; have hS2 : SStore wx (w.heap.size + 1) t (.int .u32 (wv (swW l a + sg0 (swW l a15) + swW l a7 + sg1 (swW l a2)))) [vs 15] vs W := hS; obtain ⟨W0, hb0, rfl⟩ := hS2
    have HBN : Hid (Blk (W0.setCell ⟨w.heap.size + 1, t, none⟩ (.int .u32 (wv (swW l a + sg0 (swW l a15) + swW l a7 + sg1 (swW l a2))))) (w.heap.size + 1) 180 (arW 64 fun j => if j < t + 1 then swW l j else 0)) := by
     have h2 := (Blk.below BW hb0 BW.lt).set_ t (.int .u32 (wv (swW l a + sg0 (swW l a15) + swW l a7 + sg1 (swW l a2)))); rw [← HV.out, arW_set] at h2
     show Blk _ _ _ _
     rw [← HV.out]; rw [arW_congr (g := fun j => if j = t then swW l t else if j < t then swW l j else 0)]
     ·exact h2
     ·intro j hj; by_cases h1 : j = t
      ·subst h1; rw [if_pos (by omega), if_pos rfl]
      ·by_cases h2 : j < t
       ·rw [if_pos (by omega), if_neg h1, if_pos h2]
       ·rw [if_neg (by omega), if_neg h1, if_neg h2]
    have HRN : Hid (Blk (W0.setCell ⟨w.heap.size + 1, t, none⟩ (.int .u32 (wv (swW l a + sg0 (swW l a15) + swW l a7 + sg1 (swW l a2))))) w.heap.size 180 (arW 64 fun _ => 0)) := (Blk.below HR.out hb0 HR.out.lt).far (by simp) _; have hbeN : Below w.heap.size w (W0.setCell ⟨w.heap.size + 1, t, none⟩ (.int .u32 (wv (swW l a + sg0 (swW l a15) + swW l a7 + sg1 (swW l a2))))) := (Below.tr hbe hb0).setCell (by simp) _; clear hS hb0 BW HR hbe; go_wp2_with fail
    go_roundg (G - 1)
    case measure => omega
    case rel => exact ⟨t + 1, by go_num, by omega, HRN, HBN, hbeN⟩
end Go.Proofs.YtijkfagkbfbpmaaGreatDoor
