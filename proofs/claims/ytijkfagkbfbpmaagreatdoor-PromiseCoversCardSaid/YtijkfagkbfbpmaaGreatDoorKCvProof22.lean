import Derived.Test.YtijkfagkbfbpmaaGreatDoorKCvProof19
import Derived.Maps.OwnSet
import Derived.Deep.DeepMust
import Derived.Test.YtijkfagkbfbpmaaGreatDoorKCvProof21
import Derived.Test.YtijkfagkbfbpmaaGreatDoorKCvProof16
import Derived.Laws.ResultCell
import Derived.Test.YtijkfagkbfbpmaaGreatDoorKCvProof12
import Derived.Test.YtijkfagkbfbpmaaGreatDoorKCvProof18
import Derived.Test.YtijkfagkbfbpmaaGreatDoorKCvProof14
import Derived.Test.YtijkfagkbfbpmaaGreatDoorKCvProof04
import Derived.Test.YtijkfagkbfbpmaaGreatDoorKCvProof11
import Derived.Test.YtijkfagkbfbpmaaGreatDoorS0
set_option linter.unusedVariables false
set_option linter.unusedSimpArgs false
namespace Go.Proofs.YtijkfagkbfbpmaaGreatDoor
open Go Go.RowKit Go.Maps Go.WideMaps
/-- a digest -/
structure DG where
 r0 : Value
 r1 : Value
 r2 : Value
 r3 : Value
 r4 : Value
 r5 : Value
 r6 : Value
 r7 : Value
 r8 : Value
 r9 : Value
 r10 : Value
 r11 : Value
 r12 : Value
 r13 : Value
 r14 : Value
 r15 : Value
def cellsDG (d : DG) : List Value := [d.r0, d.r1, d.r2, d.r3, d.r4, d.r5, d.r6, d.r7, d.r8, d.r9, d.r10, d.r11, d.r12, d.r13, d.r14, d.r15]
def zeroDG : DG := ⟨.int .u8 0, .int .u8 0, .int .u8 0, .int .u8 0, .int .u8 0, .int .u8 0, .int .u8 0, .int .u8 0, .int .u8 0, .int .u8 0, .int .u8 0, .int .u8 0, .int .u8 0, .int .u8 0, .int .u8 0, .int .u8 0⟩
def mmOf (tick : Int) (d : DG) (A : Option Addr) (k c : Nat) : MM := ⟨tick, d.r0, d.r1, d.r2, d.r3, d.r4, d.r5, d.r6, d.r7, d.r8, d.r9, d.r10, d.r11, d.r12, d.r13, d.r14, d.r15, A, k, c⟩
def kl (s : ByteArray) : Lit := .string s.data.toList
end Go.Proofs.YtijkfagkbfbpmaaGreatDoor
namespace Go.Proofs.YtijkfagkbfbpmaaGreatDoor
open Go Go.RowKit
end Go.Proofs.YtijkfagkbfbpmaaGreatDoor
namespace Go.Proofs.YtijkfagkbfbpmaaGreatDoor
open Go.RowKit
/-- two rows of limbs are those of a valid ratio -/
def GoodL (l1 l2 : List Nat) (p q : Nat) : Prop := l1 = Nm.lb p ∧ l2 = Nm.lb (Nm.dn q) ∧ Nm.Good p q
theorem RtL.good {w : World} {v : Value} {l1 l2 : List Nat} (h : RtL w v l1 l2) (hv : Nm.validE l1 l2 = 0) : ∃ p q, GoodL l1 l2 p q ∧ Rat w v p q := by
 obtain ⟨A1, k1, c1, A2, k2, c2, rfl, h1, h2, h3, h4⟩ := h; obtain ⟨p, q, e1, e2, hg⟩ := Nm.validE_spec h1.2.2.2.1 h2.2.2.2.1 hv; subst e1 e2; exact ⟨p, q, ⟨rfl, rfl, hg⟩, _, _, _, _, _, _, rfl, ⟨h3, h1⟩, ⟨h4, h2⟩⟩
end Go.Proofs.YtijkfagkbfbpmaaGreatDoor
namespace Go.Proofs.YtijkfagkbfbpmaaGreatDoor
open Go.RowKit
theorem Sl.facts {w : World} {g : Nat} (h : Sl w g) : (∃ a, w.cell? ⟨g, 0, none⟩ = some a) ∧ (∃ a, w.cell? ⟨g, 1, none⟩ = some a) ∧ w.frozen? ⟨g, 0, none⟩ = false ∧ w.frozen? ⟨g, 1, none⟩ = false := by
 obtain ⟨r1, r2, r3, r4, r5, r6, hb⟩ := h; exact ⟨⟨_, hb.cell 0⟩, ⟨_, hb.cell 1⟩, hb.frozen 0, hb.frozen 1⟩
end Go.Proofs.YtijkfagkbfbpmaaGreatDoor
namespace Go.Proofs.YtijkfagkbfbpmaaGreatDoor
open Go.RowKit
end Go.Proofs.YtijkfagkbfbpmaaGreatDoor
namespace Go.Proofs.YtijkfagkbfbpmaaGreatDoor
open Go Go.RowKit
end Go.Proofs.YtijkfagkbfbpmaaGreatDoor
namespace Go.Proofs.YtijkfagkbfbpmaaGreatDoor
open Go Go.RowKit
end Go.Proofs.YtijkfagkbfbpmaaGreatDoor
namespace Go.Proofs.YtijkfagkbfbpmaaGreatDoor
open Go Go.RowKit
/- the encoding of integers, in plain numbers -/
namespace Wi
/-- the number of bytes of a number -/
def nb (m : Nat) : Nat := if h : m = 0 then 0 else nb (m / 256) + 1
termination_by m
decreasing_by omega
/-- big-endian digits -/
def be : Nat → Nat → List Nat
 | 0, _ => []
 | k + 1, m => (m / 256 ^ k % 256) :: be k m
end Wi
end Go.Proofs.YtijkfagkbfbpmaaGreatDoor
namespace Go.Proofs.YtijkfagkbfbpmaaGreatDoor.Nm
end Go.Proofs.YtijkfagkbfbpmaaGreatDoor.Nm
namespace Go.Proofs.YtijkfagkbfbpmaaGreatDoor
open Go.RowKit
end Go.Proofs.YtijkfagkbfbpmaaGreatDoor
namespace Go.Proofs.YtijkfagkbfbpmaaGreatDoor
open Go.RowKit
end Go.Proofs.YtijkfagkbfbpmaaGreatDoor
namespace Go.Proofs.YtijkfagkbfbpmaaGreatDoor
open Go.RowKit
theorem good_lt {p q : Nat} (g : Nm.Good p q) : p < Nm.B ^ 64 ∧ q < Nm.B ^ 64 := by
 refine ⟨Nm.lb_length_lt.1 g.fits.1, ?_⟩; have h := g.fits.2; unfold Nm.dn at h; by_cases h1 : q = 1
 ·subst h1; exact Nat.one_lt_pow (by omega) (by unfold Nm.B; omega)
 ·rw [if_neg h1] at h; exact Nm.lb_length_lt.1 h
end Go.Proofs.YtijkfagkbfbpmaaGreatDoor
namespace Go.Proofs.YtijkfagkbfbpmaaGreatDoor
open Go Go.RowKit
end Go.Proofs.YtijkfagkbfbpmaaGreatDoor
namespace Go.Proofs.YtijkfagkbfbpmaaGreatDoor
open Go Go.RowKit
end Go.Proofs.YtijkfagkbfbpmaaGreatDoor
namespace Go.Proofs.YtijkfagkbfbpmaaGreatDoor
open Go Go.RowKit
/- A region of calls on ratios whose last value goes to the result's block g. -/
end Go.Proofs.YtijkfagkbfbpmaaGreatDoor
namespace Go.Proofs.YtijkfagkbfbpmaaGreatDoor
open Go Go.RowKit
end Go.Proofs.YtijkfagkbfbpmaaGreatDoor
namespace Go.Proofs.YtijkfagkbfbpmaaGreatDoor
open Go Go.RowKit
end Go.Proofs.YtijkfagkbfbpmaaGreatDoor
namespace Go.Proofs.YtijkfagkbfbpmaaGreatDoor
open Go Go.RowKit
end Go.Proofs.YtijkfagkbfbpmaaGreatDoor
namespace Go.Proofs.YtijkfagkbfbpmaaGreatDoor
open Go Go.RowKit
end Go.Proofs.YtijkfagkbfbpmaaGreatDoor
namespace Go.Proofs.YtijkfagkbfbpmaaGreatDoor
open Go Go.RowKit
theorem Rd.newC (w : World) (T : TypeId) (cs : List Value) : Rd (w.alloc (.cells cs.toArray T)) (some ⟨w.heap.size, 0, none⟩) cs := by
 intro _; refine ⟨_, _, rfl, fun i h => ?_⟩; rw [Nat.zero_add, (Blk.new w T cs.toArray).cell]; simp [h]
end Go.Proofs.YtijkfagkbfbpmaaGreatDoor
