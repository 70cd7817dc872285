import Derived.Test.YticobffjnjbjiaaJ13
import Derived.Great.BuildSlice
import Derived.Test.YticobffjnjbjiaaS0
set_option linter.unusedVariables false
set_option linter.unusedSimpArgs false
namespace Go.Proofs.Yticobffjnjbjiaa
open Go Go.RowKit
section
variable {P : Program}
theorem wp_buildTo {o : Oper} {a : Act} {w : World} {K : Act → World → Prop} {Q : Exit → Act → World → Prop} (t : TypeId) (parts : Array (Nat × Operand)) (ho : o.op = .build t parts)
  (cells : Array Value) (hf : P.built t (parts.map fun (i, x) => (i, a.eval x)).toList = some cells) (h : K (a.put o.dst (.agg cells)) w) : o.wp P a w K Q := by
 refine wp_build t parts ho (by rw [hf]; rfl) ?_; rw [hf]; exact h
theorem wp_build3 {o : Oper} {a : Act} {w : World} {K : Act → World → Prop} {Q : Exit → Act → World → Prop} (t : TypeId) (x0 x1 x2 : Operand) (ho : o.op = .build t #[(0, x0), (1, x1), (2, x2)])
  (v0 v1 v2 : Value) (e0 : a.eval x0 = v0) (e1 : a.eval x1 = v1) (e2 : a.eval x2 = v2) (cells : Array Value) (hf : P.built t [(0, v0), (1, v1), (2, v2)] = some cells) (h : K (a.put o.dst (.agg cells)) w) : o.wp P a w K Q := by
 refine wp_buildTo t _ ho cells ?_ h
 simpa [e0, e1, e2] using hf
theorem wpList_slice1 {ops : Array Oper} {rest : List Oper} {o : Oper} {a : Act} {w : World} {Q : Exit → Act → World → Prop} (hg : o.guard = none) (t e : TypeId) (x : Operand) (ho : o.op = .buildSlice t 1 #[(0, x)])
  (cells : Array Value) (ie : TypeInfo) (z : Value) (n : Nat) (v : Value)
  (hu : P.underlying t = some (.slice e)) (hie : P.info? e = some ie) (hz : ie.zero = some z) (hn : ie.size = n) (hsmall : ¬ 1 * n > 2 ^ 24) (hpos : ¬ 1 * n = 0) (hv : a.eval x = v)
  (hf : Instr.fill (fun i => some (i * n, n)) ((Array.range (1 * n)).map (z.cells[· % z.cells.size]!)) [(0, v)] = some cells)
  (h : wpList P ops Q rest (a.put o.dst (.slice (some ⟨w.heap.size, 0, none⟩) 1 1)) (w.alloc (.cells cells e))) : wpList P ops Q (o :: rest) a w := by
 subst hn; refine wpList_buildSlice hg t e 1 _ ho cells ie z hu hie hz hsmall hpos ?_ h
 simpa [hv] using hf
end
theorem built_item {name : ByteArray} {r : RC0} {p : Int} : (Try.prog).built 66 [(0, .string name), (1, .agg (cellsR r).toArray), (2, .int .i64 p)] = some (cellsI ⟨name, r, p⟩).toArray := by kernel_rfl
def zeroI : Value := .agg #[.string ⟨#[]⟩, .int .i64 0, .string ⟨#[]⟩, .int .i64 0, .int .i64 0, .int .i64 0, .int .i64 0, .int .u8 0, .int .u8 0, .int .u8 0, .int .u8 0, .int .u8 0, .int .u8 0, .int .u8 0, .int .u8 0, .int .u8 0, .int .u8 0, .int .u8 0, .int .u8 0, .int .u8 0, .int .u8 0, .int .u8 0, .int .u8 0, .int .i64 0]
theorem info_item : (Try.prog.info? 66).map (fun i => (i.zero, i.size, i.bytes)) = some (some zeroI, 24, 96) := by kernel_rfl
theorem zeroI_size : zeroI.cells.size = 24 := by kernel_rfl
theorem fill_item (it : IT) : Instr.fill (fun i => some (i * 24, 24)) ((Array.range (1 * 24)).map (zeroI.cells[· % zeroI.cells.size]!)) [(0, .agg (cellsI it).toArray)] = some (cellsI it).toArray := by kernel_rfl
end Go.Proofs.Yticobffjnjbjiaa
