import Derived.Test.YtijkfagkbfbpmaaGreatDoorKByProof23
import Derived.Maps.OwnSet
import Derived.Deep.DeepMust
import Derived.Test.YtijkfagkbfbpmaaGreatDoorS0
set_option linter.unusedVariables false
set_option linter.unusedSimpArgs false
namespace Go.Proofs.YtijkfagkbfbpmaaGreatDoor
open Go Go.RowKit Go.Maps Go.WideMaps
/-- a digest -/
structure DG where
 r0 : Value
 r1 : Value
 r2 : Value
 r3 : Value
 r4 : Value
 r5 : Value
 r6 : Value
 r7 : Value
 r8 : Value
 r9 : Value
 r10 : Value
 r11 : Value
 r12 : Value
 r13 : Value
 r14 : Value
 r15 : Value
def cellsDG (d : DG) : List Value := [d.r0, d.r1, d.r2, d.r3, d.r4, d.r5, d.r6, d.r7, d.r8, d.r9, d.r10, d.r11, d.r12, d.r13, d.r14, d.r15]
theorem cellsDG_len (d : DG) : (cellsDG d).length = 16 := rfl
def zeroDG : DG := ⟨.int .u8 0, .int .u8 0, .int .u8 0, .int .u8 0, .int .u8 0, .int .u8 0, .int .u8 0, .int .u8 0, .int .u8 0, .int .u8 0, .int .u8 0, .int .u8 0, .int .u8 0, .int .u8 0, .int .u8 0, .int .u8 0⟩
def mmOf (tick : Int) (d : DG) (A : Option Addr) (k c : Nat) : MM := ⟨tick, d.r0, d.r1, d.r2, d.r3, d.r4, d.r5, d.r6, d.r7, d.r8, d.r9, d.r10, d.r11, d.r12, d.r13, d.r14, d.r15, A, k, c⟩
theorem infoDG {d : DG} : (Tryz.prog.info? 31).map (·.size) = some (cellsDG d).length := by kernel_rfl
theorem infoDGs {d : DG} : (Tryz.prog.info? 31).map (·.size) = some (cellsDG d).toArray.size := by kernel_rfl
def kl (s : ByteArray) : Lit := .string s.data.toList
end Go.Proofs.YtijkfagkbfbpmaaGreatDoor
