import Derived.Test.YtijkfagkbfbpmaaGreatDoorKByProof25
import Derived.Test.YtijkfagkbfbpmaaGreatDoorKByProof18
import Derived.Test.YtijkfagkbfbpmaaGreatDoorKByProof27
import Derived.Test.YtijkfagkbfbpmaaGreatDoorKByProof28
import Derived.Test.YtijkfagkbfbpmaaGreatDoorKByProof16
import Derived.Test.YtijkfagkbfbpmaaGreatDoorS0
set_option linter.unusedVariables false
set_option linter.unusedSimpArgs false
namespace Go.Proofs.YtijkfagkbfbpmaaGreatDoor
open Go Go.RowKit
/-- a hexadecimal digit -/
def hxN (n : Nat) : Nat := if n < 10 then 48 + n else 87 + n
theorem hxN_lt {n : Nat} (h : n < 16) : hxN n < 256 := by unfold hxN; split <;> omega
/-- the hexadecimal digits of bytes -/
def hexL (d : List Int) : List Nat := d.flatMap fun x => [hxN (x.toNat / 16), hxN (x.toNat % 16)]
theorem hexL_len (d : List Int) : (hexL d).length = 2 * d.length := by
 unfold hexL
 induction d with
 | nil => rfl
 | cons x l ih => rw [List.flatMap_cons, List.length_append, ih, List.length_cons]; simp; omega
theorem hexL_succ {d : List Int} {i : Nat} {y : Nat} (h : d[i]? = some (y : Int)) : hexL (d.take (i + 1)) = hexL (d.take i) ++ [hxN (y / 16), hxN (y % 16)] := by
 obtain ⟨h1, h2⟩ := List.getElem?_eq_some_iff.1 h; unfold hexL; rw [List.take_succ_eq_append_getElem h1, List.flatMap_append, h2]; simp
theorem dig_ix (n : Nat) (h : n < 16) (w : World) : (Instr.index 9 (.string { data := #[48, 49, 50, 51, 52, 53, 54, 55, 56, 57, 97, 98, 99, 100, 101, 102] }) (.int .u8 (n : Nat))).run Tryz.prog w = .ok (.int .u8 (hxN n : Nat)) w := by
 rw [run_index_string w _ _ _ _ Tryz.underlying9]; have hc : n = 0 ∨ n = 1 ∨ n = 2 ∨ n = 3 ∨ n = 4 ∨ n = 5 ∨ n = 6 ∨ n = 7 ∨ n = 8 ∨ n = 9 ∨ n = 10 ∨ n = 11 ∨ n = 12 ∨ n = 13 ∨ n = 14 ∨ n = 15 := by omega
 rcases hc with rfl | rfl | rfl | rfl | rfl | rfl | rfl | rfl | rfl | rfl | rfl | rfl | rfl | rfl | rfl | rfl <;> rfl
theorem arr_ix (l : List Value) (v : Value) (i : Nat) (hl : l.length = 16) (hi : i < 16) (h : l[i]? = some v) (h1 : v.oneCell' = true) (w : World) : (Instr.index 31 (.agg l.toArray) (.int .i64 (i : Nat))).run Tryz.prog w = .ok v w := by
 have hn : (0 : Int) ≤ (i : Int) ∧ (i : Int) < 16 := by omega
 simp [Instr.index, run_underlying Tryz.underlying31, asIntOf, hn, go_sem]; rw [if_pos hi, h]; rfl
/-- what strconv.Itoa says of a number, from now on -/
def ItoaS (w : World) (n : Int) (s : ByteArray) : Prop := s.size ≤ 100 ∧ ∀ W, Below w.heap.size w W → Calls Tryz.prog 79 #[.int .i64 n] W fun e w' => e = .returned (.string s) ∧ Below W.heap.size W w'
theorem ItoaS.below {w w' : World} {n : Int} {s : ByteArray} (h : ItoaS w n s) (hb : Below w.heap.size w w') : ItoaS w' n s := ⟨h.1, fun W hW => h.2 W (Below.tr hb hW)⟩
/-- the text of bytes -/
def txB (l : List Nat) : ByteArray := ⟨(l.map UInt8.ofNat).toArray⟩
def slB : ByteArray := ⟨#[47]⟩
/-- the place, as it is printed -/
def placeS (h s2 : ByteArray) : ByteArray := if h = ⟨#[]⟩ then ⟨#[45, 47, 48]⟩ else h ++ slB ++ s2
/-- the words of a promise's text -/
def wordsP (p : PC) (bd s1 s2 s3 s4 : ByteArray) (d : List Int) : List ByteArray :=
 [⟨#[116, 101, 97, 109]⟩, s1, ⟨#[112, 114, 111, 109, 105, 115, 101, 115, 32, 116, 104, 97, 116]⟩, p.test, ⟨#[102, 97, 105, 108, 115, 32, 97, 116]⟩, placeS p.wh s2, ⟨#[119, 105, 116, 104, 32, 97, 116, 32, 109, 111, 115, 116]⟩, bd, ⟨#[102, 114, 111, 109]⟩, s3, ⟨#[117, 110, 116, 105, 108]⟩, s4, ⟨#[119, 104, 105, 108, 101]⟩, txB (hexL d)]
def joinP (l : List ByteArray) : ByteArray := ⟨(Lib.join (l.map (·.data.toList)) [32]).toArray⟩
theorem joinTail_len (l : List (List UInt8)) (m : Nat) (h : ∀ x ∈ l, x.length ≤ m) : (Lib.joinTail [32] l).length ≤ l.length * (m + 1) := by
 unfold Lib.joinTail
 induction l with
 | nil => simp
 | cons x l ih =>
  have h1 := h x (List.mem_cons_self ..); have h2 := ih fun z hz => h z (List.mem_cons_of_mem _ hz)
  simp only [List.map_cons, List.flatten_cons, List.length_append, List.length_cons, List.length_nil] at h2 ⊢; rw [Nat.succ_mul]; omega
theorem join_len (l : List (List UInt8)) (m : Nat) (h : ∀ x ∈ l, x.length ≤ m) : (Lib.join l [32]).length ≤ l.length * (m + 1) := by
 cases l with
 | nil => simp [Lib.join_nil]
 | cons x l =>
  have h1 := h x (List.mem_cons_self ..); have h2 := joinTail_len l m fun z hz => h z (List.mem_cons_of_mem _ hz)
  rw [Lib.join_cons, List.length_append, List.length_cons, Nat.succ_mul]; omega
end Go.Proofs.YtijkfagkbfbpmaaGreatDoor
