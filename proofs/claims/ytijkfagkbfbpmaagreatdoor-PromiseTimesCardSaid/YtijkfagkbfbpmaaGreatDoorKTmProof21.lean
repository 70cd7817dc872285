import Derived.Test.YtijkfagkbfbpmaaGreatDoorKTmProof20
import Derived.Test.YtijkfagkbfbpmaaGreatDoorKTmProof19
import Derived.Test.YtijkfagkbfbpmaaGreatDoorKTmProof14
import Derived.Deep.LoopGhost
import Derived.Test.YtijkfagkbfbpmaaGreatDoorKTmProof18
import Derived.Test.YtijkfagkbfbpmaaGreatDoorKTmProof17
import Derived.Test.YtijkfagkbfbpmaaGreatDoorS0
set_option linter.unusedVariables false
set_option linter.unusedSimpArgs false
namespace Go.Proofs.YtijkfagkbfbpmaaGreatDoor
open Go Go.RowKit
theorem RtL.setB {w : World} {v : Value} {l1 l2 : List Nat} {g i : Nat} {T : TypeId} {arr : Array Value} (h : RtL w v l1 l2) (hb : Blk w g T arr) (hn : NoU arr) (u : Value) : RtL (w.setCell ⟨g, i, none⟩ u) v l1 l2 := by
 obtain ⟨A1, k1, c1, A2, k2, c2, rfl, h1, h2, e1, e2⟩ := h; exact ⟨A1, k1, c1, A2, k2, c2, rfl, h1.setB hb hn u, h2.setB hb hn u, e1, e2⟩
theorem RtL.setsB {v : Value} {l1 l2 : List Nat} {g : Nat} {T : TypeId} : ∀ (us : List Value) (o : Nat) {w : World} {arr : Array Value}, RtL w v l1 l2 → Blk w g T arr → NoU arr → (∀ u ∈ us, ∀ n, u ≠ .int .u32 n) → RtL (w.setCells g o us) v l1 l2
 | [], _, _, _, h, _, _, _ => h
 | u :: us, o, _, _, h, hb, hn, hu => RtL.setsB us (o + 1) (h.setB hb hn u) (hb.set_ o u) (hn.set (hu u (List.mem_cons_self ..))) fun x hx => hu x (List.mem_cons_of_mem _ hx)
/-- a promise by its fields, the digest's bytes as bytes -/
def promD (team : Int) (t h : ByteArray) (site : Int) (b1 b2 : Value) (fr un : Int) (r0 r1 r2 r3 r4 r5 r6 r7 r8 r9 r10 r11 r12 r13 r14 r15 : Int) : PC := ⟨team, t, h, site, b1, b2, fr, un, .int .u8 r0, .int .u8 r1, .int .u8 r2, .int .u8 r3, .int .u8 r4, .int .u8 r5, .int .u8 r6, .int .u8 r7, .int .u8 r8, .int .u8 r9, .int .u8 r10, .int .u8 r11, .int .u8 r12, .int .u8 r13, .int .u8 r14, .int .u8 r15⟩
theorem promD_no {team site fr un r0 r1 r2 r3 r4 r5 r6 r7 r8 r9 r10 r11 r12 r13 r14 r15 : Int} {t h : ByteArray} {A1 A2 : Option Addr} {k1 c1 k2 c2 : Nat} : ∀ u ∈ cellsP (promD team t h site (.slice A1 k1 c1) (.slice A2 k2 c2) fr un r0 r1 r2 r3 r4 r5 r6 r7 r8 r9 r10 r11 r12 r13 r14 r15), ∀ n, u ≠ .int .u32 n := by
 intro u hu n e; subst e; simp [cellsP, promD] at hu
theorem promD_one {team site fr un r0 r1 r2 r3 r4 r5 r6 r7 r8 r9 r10 r11 r12 r13 r14 r15 : Int} {t h : ByteArray} {A1 A2 : Option Addr} {k1 c1 k2 c2 : Nat} : ∀ v ∈ cellsP (promD team t h site (.slice A1 k1 c1) (.slice A2 k2 c2) fr un r0 r1 r2 r3 r4 r5 r6 r7 r8 r9 r10 r11 r12 r13 r14 r15), v.oneCell' = true := by
 intro v hv; simp only [cellsP, promD, List.mem_cons, List.not_mem_nil, or_false] at hv
 rcases hv with rfl | rfl | rfl | rfl | rfl | rfl | rfl | rfl | rfl | rfl | rfl | rfl | rfl | rfl | rfl | rfl | rfl | rfl | rfl | rfl | rfl | rfl | rfl | rfl <;> rfl
end Go.Proofs.YtijkfagkbfbpmaaGreatDoor
namespace Go.Proofs.YtijkfagkbfbpmaaGreatDoor
open Go.RowKit
end Go.Proofs.YtijkfagkbfbpmaaGreatDoor
namespace Go.Proofs.YtijkfagkbfbpmaaGreatDoor
open Go Go.RowKit
def I64 (x : Int) : Prop := -9223372036854775808 ≤ x ∧ x ≤ 9223372036854775807
def BY (x : Int) : Prop := 0 ≤ x ∧ x ≤ 255
/-- a promise whose fields are such as Go's types allow, with a ratio of the given limbs -/
def PD (w : World) (p : PC) (L1 L2 : List Nat) : Prop := ∃ (team : Int) (t h : ByteArray) (site : Int) (A1 : Option Addr) (k1 c1 : Nat) (A2 : Option Addr) (k2 c2 : Nat) (fr un : Int) (r0 r1 r2 r3 r4 r5 r6 r7 r8 r9 r10 r11 r12 r13 r14 r15 : Int), p = promD team t h site (.slice A1 k1 c1) (.slice A2 k2 c2) fr un r0 r1 r2 r3 r4 r5 r6 r7 r8 r9 r10 r11 r12 r13 r14 r15 ∧ t.size ≤ 100 ∧ h.size ≤ 100 ∧ RtL w (.agg #[.slice A1 k1 c1, .slice A2 k2 c2]) L1 L2 ∧ (I64 team ∧ I64 site ∧ I64 fr ∧ I64 un) ∧ (BY r0 ∧ BY r1 ∧ BY r2 ∧ BY r3 ∧ BY r4 ∧ BY r5 ∧ BY r6 ∧ BY r7 ∧ BY r8 ∧ BY r9 ∧ BY r10 ∧ BY r11 ∧ BY r12 ∧ BY r13 ∧ BY r14 ∧ BY r15)
theorem PD.below {w w' : World} {p : PC} {L1 L2 : List Nat} (h : PD w p L1 L2) (hb : Below w.heap.size w w') : PD w' p L1 L2 := by
 obtain ⟨team, t, h, site, A1, k1, c1, A2, k2, c2, fr, un, r0, r1, r2, r3, r4, r5, r6, r7, r8, r9, r10, r11, r12, r13, r14, r15, e, h1, h2, h3, h4⟩ := h; exact ⟨team, t, h, site, A1, k1, c1, A2, k2, c2, fr, un, r0, r1, r2, r3, r4, r5, r6, r7, r8, r9, r10, r11, r12, r13, r14, r15, e, h1, h2, h3.below hb, h4⟩
def PDN (w : World) (p : PC) (N : Nat) : Prop := ∃ M1 M2, PD w p M1 M2 ∧ M1.length ≤ N ∧ M2.length ≤ N
theorem PDN.below {w w' : World} {p : PC} {N : Nat} (h : PDN w p N) (hb : Below w.heap.size w w') : PDN w' p N := by
 obtain ⟨M1, M2, h1, h2⟩ := h; exact ⟨M1, M2, h1.below hb, h2⟩
end Go.Proofs.YtijkfagkbfbpmaaGreatDoor
namespace Go.Proofs.YtijkfagkbfbpmaaGreatDoor
open Go Go.RowKit
section
variable {P : Program}
theorem run_append_fresh (w : World) (Pr : Value → Prop) (base : Nat) (t ty e : TypeId) (i : TypeInfo) (z : Value) (size bytes : Nat) (ht : P.underlying t = some (.slice e)) (hi : P.info? e = some i) (hz : i.zero = some z)
  (hsize : i.size = size) (hby : i.bytes = bytes) (hzs : z.cells.size = size) (hsz : 0 < size)
  (g0 : Nat) (hown : w.ownsRow base e size (.slice (some ⟨g0, 0, none⟩) 0 0) 0 [])
  (A : Option Addr) (m c : Nat) (news : List Value) (hm : news.length = m * size) (hr : Rd w A news) (h1 : ∀ u ∈ news, u.oneCell' = true)
  (h63 : m ≤ maxLen) (hbytes : m * bytes ≤ 140737488355328) (hbase : base ≤ w.heap.size)
  (hPz : ∀ x ∈ z.cells.toList, Pr x) (hPn : ∀ x ∈ news, Pr x) (hPo : OwnAll Pr w (.slice (some ⟨g0, 0, none⟩) 0 0)) :
  ∃ v' w', (Builtin.append_ #[t, t] ty #[.slice (some ⟨g0, 0, none⟩) 0 0, .slice A m c]).run P w = .ok v' w' ∧ w'.ownsRow base e size v' m news ∧ Below w.heap.size w w' ∧ OwnAll Pr w' v' := by
 obtain ⟨v', w', hrun, h2, _, _, h5⟩ := run_append_all (P := P) w Pr base t ty e i z size bytes ht hi hz hsize hby hzs hsz _ 0 [] hown A m c news hm hr h1 (by omega) (by rw [Nat.zero_add]; exact hbytes) hbase hPz hPn hPo; refine ⟨v', w', hrun, by simpa using h2, ?_, h5⟩; subst hsize; have hsmall : m ≤ 9223372036854775807 := by simp only [maxLen] at h63; omega
 by_cases h0 : news = []
 ·subst h0
  have hm0 : m = 0 := by
   rcases Nat.eq_zero_or_pos m with h0 | h0
   ·exact h0
   ·have := Nat.mul_pos h0 hsz; simp at hm; omega
  subst hm0
  have e : (Builtin.append_ #[t, t] ty #[.slice (some ⟨g0, 0, none⟩) 0 0, .slice A 0 c]).run P w = .ok (.slice (some ⟨g0, 0, none⟩) 0 0) w := by
   rcases A with _ | ad
   ·exact run_append_of_nil w base t ty e i i.size ht hi _ 0 [] hown c
   ·simp [Builtin.append_, run_underlying ht, sizeOf, typeInfo, hi, Builtin.lenOf, Builtin.firstCells, storeCells, loadCells, loadCellsFrom]
  rw [e] at hrun; injection hrun with e1 e2; subst e1 e2; exact Below.refl _ _
 ·obtain ⟨b, off, rfl, hc⟩ := hr h0
  have hmp : 0 < m := by
   rcases Nat.eq_zero_or_pos m with h | h
   ·subst h; exact absurd (List.eq_nil_of_length_eq_zero (by simpa using hm)) h0
   ·exact h
  have hcells : ∀ j u, news[j]? = some u → w.cell? ((⟨b, off, none⟩ : Addr).add j) = some u := by
   intro j u hu; have hj : j < news.length := (List.getElem?_eq_some_iff.1 hu).1; rw [List.getElem?_eq_getElem hj] at hu; have := hc j hj; have e : (⟨b, off, none⟩ : Addr).add j = ⟨b, off + j, none⟩ := by unfold Addr.add; split <;> simp_all
   rw [e, this]; exact hu
  have holds : ∀ j u, ([] : List Value)[j]? = some u → w.cell? ((⟨g0, 0, none⟩ : Addr).add j) = some u := fun j u h => by simp at h
  have hr := run_append_grow (P := P) w t ty e i z ht hi hz ⟨g0, 0, none⟩ 0 0 [] hown.1 holds ⟨b, off, none⟩ m c news hm hcells (by omega) (by omega) (growslice_fits (by omega) (by rw [hby, Nat.zero_add]; exact hbytes)); rw [hr] at hrun; injection hrun with e1 e2; subst e1 e2; exact Below.tr (bD _) (bA _ _)
theorem wp_append_fresh {o : Oper} {a : Act} {w : World} {K : Act → World → Prop} {Q : Exit → Act → World → Prop} (Pr : Value → Prop) (s x : Operand) (t : TypeId)
  (ho : o.op = .call { callee := .builtin .append, args := #[s, x], argTypes := #[t, t] })
  (base : Nat) (e : TypeId) (i : TypeInfo) (z : Value) (size bytes : Nat) (ht : P.underlying t = some (.slice e)) (hi : P.info? e = some i) (hz : i.zero = some z)
  (hsize : i.size = size) (hby : i.bytes = bytes) (hzs : z.cells.size = size) (hsz : 0 < size)
  (g0 : Nat) (hs : a.eval s = .slice (some ⟨g0, 0, none⟩) 0 0) (hown : w.ownsRow base e size (.slice (some ⟨g0, 0, none⟩) 0 0) 0 [])
  (A : Option Addr) (m c : Nat) (news : List Value) (hx : a.eval x = .slice A m c) (hm : news.length = m * size) (hr : Rd w A news) (h1 : ∀ u ∈ news, u.oneCell' = true)
  (h63 : m ≤ maxLen) (hbytes : m * bytes ≤ 140737488355328) (hbase : base ≤ w.heap.size)
  (hPz : ∀ x ∈ z.cells.toList, Pr x) (hPn : ∀ x ∈ news, Pr x) (hPo : OwnAll Pr w (.slice (some ⟨g0, 0, none⟩) 0 0))
  (h : ∀ v' w', w'.ownsRow base e size v' m news → Below w.heap.size w w' → OwnAll Pr w' v' → K (a.put o.dst v') w') : o.wp P a w K Q := by
 obtain ⟨v', w', hrun, h2, h3, h4⟩ := run_append_fresh (P := P) w Pr base t o.type e i z size bytes ht hi hz hsize hby hzs hsz g0 hown A m c news hm hr h1 h63 hbytes hbase hPz hPn hPo; unfold Oper.wp execOp; simp only [ho, resolve, invoke, builtin, Sem.run_bind, Sem.run_pure, Result.andThen_ok, List.map_toArray, List.map_cons, List.map_nil, hs, hx, hrun]; exact h v' w' h2 h3 h4
end
end Go.Proofs.YtijkfagkbfbpmaaGreatDoor
namespace Go.Proofs.YtijkfagkbfbpmaaGreatDoor
open Go Go.RowKit
theorem RtL.grownBy {w w' : World} {v a : Value} {L1 L2 : List Nat} (h : RtL w v L1 L2) (k : w.grownBy w' a.ownBlock) (hO : OwnAll NoL w a) : RtL w' v L1 L2 := by
 obtain ⟨A1, k1, c1, A2, k2, c2, rfl, h1, h2, e1, e2⟩ := h; exact ⟨A1, k1, c1, A2, k2, c2, rfl, h1.grownBy k hO, h2.grownBy k hO, e1, e2⟩
theorem PD.grownBy {w w' : World} {a : Value} {p : PC} {L1 L2 : List Nat} (h : PD w p L1 L2) (k : w.grownBy w' a.ownBlock) (hO : OwnAll NoL w a) : PD w' p L1 L2 := by
 obtain ⟨team, t, h, site, A1, k1, c1, A2, k2, c2, fr, un, r0, r1, r2, r3, r4, r5, r6, r7, r8, r9, r10, r11, r12, r13, r14, r15, e, h1, h2, h3, h4⟩ := h; exact ⟨team, t, h, site, A1, k1, c1, A2, k2, c2, fr, un, r0, r1, r2, r3, r4, r5, r6, r7, r8, r9, r10, r11, r12, r13, r14, r15, e, h1, h2, h3.grownBy k hO, h4⟩
theorem PDN.grownBy {w w' : World} {a : Value} {p : PC} {N : Nat} (h : PDN w p N) (k : w.grownBy w' a.ownBlock) (hO : OwnAll NoL w a) : PDN w' p N := by
 obtain ⟨M1, M2, h1, h2⟩ := h; exact ⟨M1, M2, h1.grownBy k hO, h2⟩
theorem PDN.one {w : World} {p : PC} {N : Nat} (h : PDN w p N) : ∀ v ∈ cellsP p, v.oneCell' = true := by
 obtain ⟨M1, M2, ⟨team, t, h, site, A1, k1, c1, A2, k2, c2, fr, un, r0, r1, r2, r3, r4, r5, r6, r7, r8, r9, r10, r11, r12, r13, r14, r15, rfl, _⟩, _⟩ := h; exact promD_one
theorem PDN.noL {w : World} {p : PC} {N : Nat} (h : PDN w p N) : ∀ v ∈ cellsP p, NoL v := by
 obtain ⟨M1, M2, ⟨team, t, h, site, A1, k1, c1, A2, k2, c2, fr, un, r0, r1, r2, r3, r4, r5, r6, r7, r8, r9, r10, r11, r12, r13, r14, r15, rfl, _⟩, _⟩ := h; exact promD_no
theorem PromOk.pd {w : World} {p : PC} {a b : Nat} (h : PromOk p) (hr : Rat w (.agg #[p.b1, p.b2]) a b) (g : Nm.Good a b) : PD w p (Nm.lb a) (Nm.lb (Nm.dn b)) := by
 obtain ⟨team, t, h, site, fr, un, d, A1, k1, c1, A2, k2, c2, rfl, h1, h2, h3, h4, h5, h6, h7, h8, h9⟩ := h; refine ⟨(team : Int), t, h, (site : Int), A1, k1, c1, A2, k2, c2, (fr : Int), (un : Int), (d : Int), 0, 0, 0, 0, 0, 0, 0, 0, 0, 0, 0, 0, 0, 0, 0, rfl, ?_, ?_, rtl_rat hr, ⟨⟨by omega, by omega⟩, ⟨by omega, by omega⟩, ⟨by omega, by omega⟩, ⟨by omega, by omega⟩⟩, ⟨by omega, by omega⟩, ?_⟩
 ·rcases h2 with rfl | rfl | rfl <;> decide
 ·rcases h3 with rfl | rfl | rfl <;> decide
 ·unfold BY; omega
theorem fill_prom2 (p q : PC) : Instr.fill (fun i => some (i * 24, 24)) ((Array.range (2 * 24)).map (zeroPV.cells[· % zeroPV.cells.size]!)) [(0, .agg (cellsP p).toArray), (1, .agg (cellsP q).toArray)] = some (cellsP p ++ cellsP q).toArray := by kernel_rfl
theorem rd_blk {w : World} {g : Nat} {T : TypeId} {l : List Value} (h : Blk w g T l.toArray) : Rd w (some ⟨g, 0, none⟩) l :=
 fun _ => ⟨g, 0, rfl, fun i hi => by rw [Nat.zero_add, h.cell]; simp [hi]⟩
theorem range_keep {w w' : World} {g : Nat} {l : List Value} (hb : Below w.heap.size w w') (h : ∀ j v, l[j]? = some v → w.cell? ⟨g, 0 + j, none⟩ = some v) : w'.rangeAt g 0 l := fun j v hj => cell_keep hb (h j v hj)
end Go.Proofs.YtijkfagkbfbpmaaGreatDoor
namespace Go.Proofs.YtijkfagkbfbpmaaGreatDoor
open Go Go.RowKit
theorem pval_ex (p : PC) {w : World} {v : Value} {L1 L2 : List Nat} (h : RtL w v L1 L2) : ∃ er, PVal p L1 L2 er := by
 obtain ⟨_, _, _, _, _, _, _, q1, q2, _, _⟩ := h; by_cases hv : Nm.validE L1 L2 = 0
 ·obtain ⟨a, b, h1, h2, hg⟩ := Nm.validE_spec q1.2.2.2.1 q2.2.2.2.1 hv; exact ⟨_, .inr ⟨a, b, h1, h2, hg, rfl⟩⟩
 ·exact ⟨_, .inl ⟨hv, rfl⟩⟩
theorem PDN.dig {w : World} {p : PC} {N : Nat} (h : PDN w p N) : ∃ d, DgOk (pdg p) d ∧ ∀ x ∈ d, BY x := by
 obtain ⟨M1, M2, ⟨team, t, h, site, A1, k1, c1, A2, k2, c2, fr, un, r0, r1, r2, r3, r4, r5, r6, r7, r8, r9, r10, r11, r12, r13, r14, r15, rfl, _, _, _, _, b0, b1, b2, b3, b4, b5, b6, b7, b8, b9, b10, b11, b12, b13, b14, b15⟩, _⟩ := h; refine ⟨[r0, r1, r2, r3, r4, r5, r6, r7, r8, r9, r10, r11, r12, r13, r14, r15], ⟨rfl, rfl⟩, fun x hx => ?_⟩; simp only [List.mem_cons, List.not_mem_nil, or_false] at hx
 rcases hx with rfl | rfl | rfl | rfl | rfl | rfl | rfl | rfl | rfl | rfl | rfl | rfl | rfl | rfl | rfl | rfl <;> assumption
/-- a list of promises, told: their limbs, what Valid says, their digests -/
structure PLs (w : World) (A : Option Addr) (k : Nat) (ps : List PC) (Lf : Nat → List Nat × List Nat) (Ev : Nat → Int) (dg : Nat → List Int) : Prop where
 row : RowS cellsP w A k ps
 esc : EscOk w ps Lf
 pv : ∀ (n : Nat) p, ps[n]? = some p → PVal p (Lf n).1 (Lf n).2 (Ev n)
 dk : ∀ (n : Nat) p, ps[n]? = some p → DgOk (pdg p) (dg n)
theorem PLs.below {w w' : World} {A : Option Addr} {k : Nat} {ps : List PC} {Lf : Nat → List Nat × List Nat} {Ev : Nat → Int} {dg : Nat → List Int} (h : PLs w A k ps Lf Ev dg) (hb : Below w.heap.size w w') : PLs w' A k ps Lf Ev dg :=
 ⟨h.row.below hb, fun n p hp => ⟨(h.esc n p hp).1.below hb, (h.esc n p hp).2⟩, h.pv, h.dk⟩
theorem PDN.esc {w : World} {p : PC} {N : Nat} (h : PDN w p N) : ∃ L : List Nat × List Nat, PD w p L.1 L.2 ∧ L.1.length ≤ N ∧ L.2.length ≤ N := by
 obtain ⟨M1, M2, h1, h2⟩ := h; exact ⟨(M1, M2), h1, h2⟩
theorem PD.rtl {w : World} {p : PC} {L1 L2 : List Nat} (h : PD w p L1 L2) : RtL w (.agg #[p.b1, p.b2]) L1 L2 ∧ p.test.size ≤ 100 ∧ p.wh.size ≤ 100 := by
 obtain ⟨team, t, h, site, A1, k1, c1, A2, k2, c2, fr, un, r0, r1, r2, r3, r4, r5, r6, r7, r8, r9, r10, r11, r12, r13, r14, r15, rfl, h1, h2, h3, h4⟩ := h; exact ⟨h3, h1, h2⟩
/-- what the list of a law is: the promises made, valid; then two that may be spoilt -/
def LsW (w : World) (ps : List PC) (Lf : Nat → List Nat × List Nat) : Prop := ∀ (n : Nat) p, ps[n]? = some p → PD w p (Lf n).1 (Lf n).2 ∧ (Lf n).1.length ≤ 69 ∧ (Lf n).2.length ≤ 69
theorem LsW.below {w w' : World} {ps : List PC} {Lf : Nat → List Nat × List Nat} (h : LsW w ps Lf) (hb : Below w.heap.size w w') : LsW w' ps Lf := fun n p hp => ⟨(h n p hp).1.below hb, (h n p hp).2⟩
theorem idx_choice {α β : Type} [Inhabited β] {l : List α} {R : Nat → α → β → Prop} (h : ∀ (n : Nat) p, l[n]? = some p → ∃ x, R n p x) : ∃ f : Nat → β, ∀ (n : Nat) p, l[n]? = some p → R n p (f n) := by
 have h2 : ∀ n, ∃ x, ∀ p, l[n]? = some p → R n p x := by
  intro n
  cases hn : l[n]? with
  | none => exact ⟨default, fun p hp => by cases hp⟩
  | some q =>
   obtain ⟨x, hx⟩ := h n q hn; exact ⟨x, fun p hp => by injection hp with hp; rw [← hp]; exact hx⟩
 exact ⟨fun n => (h2 n).choose, fun n p hp => (h2 n).choose_spec p hp⟩
theorem pls_ex {w : World} {A : Option Addr} {k : Nat} {ps : List PC} {Lf : Nat → List Nat × List Nat} (hr : RowS cellsP w A k ps) (h : LsW w ps Lf) : ∃ Ev dg, PLs w A k ps Lf Ev dg := by
 obtain ⟨Ev, hE⟩ := idx_choice (l := ps) (R := fun n p (e : Int) => PVal p (Lf n).1 (Lf n).2 e) fun n p hp => pval_ex p (h n p hp).1.rtl.1
 obtain ⟨dg, hD⟩ := idx_choice (l := ps) (R := fun n p (d : List Int) => DgOk (pdg p) d) fun n p hp => by
  obtain ⟨d, hd, _⟩ := PDN.dig ⟨_, _, h n p hp⟩; exact ⟨d, hd⟩
 refine ⟨Ev, dg, hr, fun n p hp => ?_, hE, hD⟩; have := (h n p hp).1.rtl; exact ⟨this.1, by omega, by omega⟩
end Go.Proofs.YtijkfagkbfbpmaaGreatDoor
namespace Go.Proofs.YtijkfagkbfbpmaaGreatDoor
open Go Go.RowKit
def pairC (x : Nat × Nat) : List Value := [.int .i64 (x.1 : Nat), .int .i64 (x.2 : Nat)]
theorem pairC_len (x : Nat × Nat) : (pairC x).length = 2 := rfl
/-- the pairs (i, k) of a row, k less than m -/
def clRow (C : Nat → Nat → Bool) (i m : Nat) : List (Nat × Nat) := ((List.range m).filter fun k => decide (i < k) && C i k).map fun k => (i, k)
/-- the pairs of the first m rows -/
def clList (C : Nat → Nat → Bool) (n m : Nat) : List (Nat × Nat) := (List.range m).flatMap fun i => clRow C i n
theorem clRow_start (C : Nat → Nat → Bool) (i : Nat) : clRow C i (i + 1) = [] := by
 unfold clRow; rw [List.map_eq_nil_iff, List.filter_eq_nil_iff]; intro k hk; have := List.mem_range.1 hk; simp; omega
theorem clRow_yes {C : Nat → Nat → Bool} {i m : Nat} (h : i < m) (hc : C i m = true) : clRow C i (m + 1) = clRow C i m ++ [(i, m)] := by
 unfold clRow; rw [List.range_succ, List.filter_append, List.map_append]
 congr 1
 simp [h, hc]
theorem clRow_no {C : Nat → Nat → Bool} {i m : Nat} (hc : C i m = false) : clRow C i (m + 1) = clRow C i m := by
 unfold clRow; rw [List.range_succ, List.filter_append, List.map_append]; simp [hc]
theorem clList_succ (C : Nat → Nat → Bool) (n m : Nat) : clList C n (m + 1) = clList C n m ++ clRow C m n := by
 unfold clList; rw [List.range_succ, List.flatMap_append]; simp
theorem clRow_len (C : Nat → Nat → Bool) (i m : Nat) : (clRow C i m).length ≤ m := by
 unfold clRow; rw [List.length_map]; exact Nat.le_trans (List.length_filter_le _ _) (by rw [List.length_range]; exact Nat.le_refl _)
theorem clList_len (C : Nat → Nat → Bool) (n m : Nat) : (clList C n m).length ≤ m * n := by
 induction m with
 | zero => simp [clList]
 | succ m ih =>
  rw [clList_succ, List.length_append, Nat.succ_mul]; have := clRow_len C m n; omega
theorem clList_mem {C : Nat → Nat → Bool} {n i k : Nat} : (i, k) ∈ clList C n n ↔ i < k ∧ k < n ∧ C i k = true := by
 unfold clList clRow; simp only [List.mem_flatMap, List.mem_range, List.mem_map, List.mem_filter, Bool.and_eq_true, decide_eq_true_iff, Prod.mk.injEq]
 constructor
 ·rintro ⟨a, ha, b, ⟨hb, hab, hc⟩, rfl, rfl⟩; exact ⟨hab, hb, hc⟩
 ·rintro ⟨h1, h2, h3⟩; exact ⟨i, by omega, k, ⟨h2, h1, h3⟩, rfl, rfl⟩
theorem info_pair : (Tryz.prog.info? 40).map (fun i => (i.zero, i.size, i.bytes)) = some (some (.agg #[.int .i64 0, .int .i64 0]), 2, 16) := by kernel_rfl
theorem own_pairs {w : World} {base : Nat} {v : Value} {n : Nat} {l : List (Nat × Nat)} (hn : n ≤ 281474976710656) (h : w.ownsRow base 40 2 v n (l.flatMap pairC)) : ∃ A c, v = .slice A n c ∧ RowS pairC w A n l := own_rowS pairC_len (by omega) hn h
def PhiCs8 (A : Option Addr) (k c b off i m : Nat) (p q : PC) (cb : Bool) (j : Nat) (w : World) (x : Value) : Prop :=
 match j with
 | 0 => x = .slice A k c
 | 1 => x = .int .i64 (i : Nat)
 | 2 => x = .pointer (some ⟨b, off + i * 24, none⟩)
 | 3 => x = .agg (cellsP p).toArray
 | 4 => x = .slice A k c
 | 5 => x = .int .i64 (m : Nat)
 | 6 => x = .pointer (some ⟨b, off + m * 24, none⟩)
 | 7 => x = .agg (cellsP q).toArray
 | 8 => x = .bool cb
 | _ => True

theorem PhiCs8.keep {A : Option Addr} {k c b off i m : Nat} {p q : PC} {cb : Bool} : ∀ (w w' : World), Below w.heap.size w w' → ∀ j x, PhiCs8 A k c b off i m p q cb j w x → PhiCs8 A k c b off i m p q cb j w' x := by
 intro w w' hb j x h; unfold PhiCs8 at h ⊢; exact h
set_option maxRecDepth 100000 in
set_option maxHeartbeats 4000000 in
theorem clashes_n (A : Option Addr) (k c : Nat) (ps : List PC) (Lf : Nat → List Nat × List Nat) (Ev : Nat → Int) (dg : Nat → List Int) (w : World) (h : PLs w A k ps Lf Ev dg) (hk : k ≤ 1000) :
  Calls Tryz.prog 13 #[.slice A k c] w fun e w' => ∃ A' k' c', e = .returned (.slice A' k' c') ∧ RowS pairC w' A' k' (clList (clA Ev Lf dg ps) k k) ∧ Below w.heap.size w w' := by
 obtain ⟨i0, hi0, hz0, hz1, hz2⟩ := info_parts info_pair; have HH := Lib.hid h; have HKL : Hid (k = ps.length) := h.row.2.1; clear h
 go_enter Tryz.func13, Tryz.ntmps13
 go_wp2_with fail
 go_loopg [3, 8] k (fun mm v x wr => ∃ (i : Nat) (L : List (Nat × Nat)), x = .int .i64 i ∧ i + mm = k ∧ wr.ownsRow w.heap.size 40 2 v L.length (L.flatMap pairC) ∧ Hid (L = clList (clA Ev Lf dg ps) k i) ∧ Below w.heap.size w wr)
 case atStart => exact ⟨0, [], rfl, by omega, World.ownsRow_nil _ _ _ _, rfl, Below.refl _ _⟩
 case round =>
  obtain ⟨G, hG⟩ : ∃ G, G = gk := ⟨gk, rfl⟩; subst hG; obtain ⟨i, L, rfl, him, hown, HL, hbe⟩ := hrel; obtain ⟨A2, c2, rfl⟩ := own_shp hown; by_cases hi : i < k
  ·have t1 : decide ((i : Int) < (k : Int)) = true := by simp; omega
   have li : (i : Int) < (k : Int) := by omega
   have s1 : IntKind.i64.wrap ((i : Int) + 1) = (i : Int) + 1 := by rw [IntWalk.i64_in _ (by omega)]
   have hil : i < ps.length := by have := HKL.out; omega
   obtain ⟨p, HP⟩ : ∃ p, Hid (ps[i] = p ∧ ps[i]? = some p) := ⟨_, rfl, List.getElem?_eq_getElem hil⟩; obtain ⟨wo, hwo⟩ : ∃ x, x = wr := ⟨_, rfl⟩; subst hwo; go_wp2_with fail
   go_loopg [3, 5] (k - (i + 1)) (fun mm v x wr => ∃ (m : Nat) (L2 : List (Nat × Nat)), x = .int .i64 m ∧ m + mm = k ∧ i < m ∧ wr.ownsRow w.heap.size 40 2 v L2.length (L2.flatMap pairC) ∧ Hid (L2 = clList (clA Ev Lf dg ps) k i ++ clRow (clA Ev Lf dg ps) i m) ∧ Below w.heap.size w wr)
   case atStart => exact ⟨i + 1, L, by go_num, by omega, by omega, hown, by show _ = _; rw [clRow_start, List.append_nil]; exact HL.out, hbe⟩
   case round =>
    obtain ⟨G2, hG2⟩ : ∃ G, G = gk := ⟨gk, rfl⟩; subst hG2; clear hown hbe; obtain ⟨m, L2, rfl, hmm, hlm, hown, HL2, hbe⟩ := hrel; obtain ⟨A3, c3, rfl⟩ := own_shp hown; by_cases hm : m < k
    ·have t2 : decide ((m : Int) < (k : Int)) = true := by simp; omega
     have lm : (m : Int) < (k : Int) := by omega
     have hml : m < ps.length := by have := HKL.out; omega
     obtain ⟨q, HQ⟩ : ∃ q, Hid (ps[m] = q ∧ ps[m]? = some q) := ⟨_, rfl, List.getElem?_eq_getElem hml⟩; have HPL := Lib.hid (HH.out.below hbe); obtain ⟨b, off, hA', HCP⟩ := HPL.out.row.at_ cellsP_len (by omega) hi hil; obtain ⟨b', off', hA2', HCQ⟩ := HPL.out.row.at_ cellsP_len (by omega) hm hml; rw [hA'] at hA2'; injection hA2' with hA2'; injection hA2' with e1 e2; subst e1 e2; subst hA'; rw [HP.out.1] at HCP; rw [HQ.out.1] at HCQ; have HEP := Lib.hid (HPL.out.esc i p HP.out.2); have HEQ := Lib.hid (HPL.out.esc m q HQ.out.2); have HDP := Lib.hid (HPL.out.dk i p HP.out.2); have HDQ := Lib.hid (HPL.out.dk m q HQ.out.2); obtain ⟨cb, HC⟩ : ∃ cb, Hid (cb = clA Ev Lf dg ps i m) := ⟨_, rfl⟩
     have HCB : Hid (∀ (E F : Int) (cb' : Bool), (PVal p (Lf i).1 (Lf i).2 E ∧ (E = 0 → PVal q (Lf m).1 (Lf m).2 F) ∧ cb' = clB E F p q (dg i) (dg m) (sameR (Lf i).1 (Lf i).2 (Lf m).1 (Lf m).2)) → cb' = cb) := by
      intro E F cb' h; have e1 := h.1.uniq (HPL.out.pv i p HP.out.2); rw [h.2.2, HC.out]; unfold clA; rw [HP.out.2, HQ.out.2]; simp only; by_cases hE : E = 0
      ·have e2 := (h.2.1 hE).uniq (HPL.out.pv m q HQ.out.2); rw [e1, e2]
      ·unfold clB; rw [← e1]; simp [hE]
     clear HPL; go_upto_region 8 with fail; obtain ⟨wp, hwp⟩ : ∃ x, x = wr := ⟨_, rfl⟩; subst hwp; refine region_invF (PhiCs8 (some ⟨b, off, none⟩) k c b off i m p q cb) (fun w w' => Below w.heap.size w w') (fun W => Below wp.heap.size wp W) (by kernel_rfl) (by kernel_rfl) (by kernel_rfl) PhiCs8.keep (fun _ _ hR hS => Below.tr hS hR) (bD _) (fun vs => by simp only [fillR, Act.put, sA, sB, sC, Nat.zero_add, Nat.reduceAdd]; rfl) ?_ ?_
     ·refine sK ?_ (sK ?_ (sK ?_ (sK ?_ (sK ?_ (sK ?_ (sK ?_ (sK ?_ (sK ?_ (sZ)))))))))
      ·as_aux_lemma =>
       intro vs W hS hdep K hK; refine ⟨?_⟩; simp only [Act.put, sA, sB, sC, Nat.zero_add, Nat.reduceAdd] at hK ⊢; go_simp; with_reducible refine hK _ _ (Below.refl _ _) ?_
       exact rfl
      ·as_aux_lemma =>
       intro vs W hS hdep K hK; refine ⟨?_⟩; simp only [Act.put, sA, sB, sC, Nat.zero_add, Nat.reduceAdd] at hK ⊢; go_simp; with_reducible refine hK _ _ (Below.refl _ _) ?_
       exact rfl
      ·as_aux_lemma =>
       intro vs W hS hdep K hK; have d0 := hdep ⟨0, .data⟩ (by simp) rfl; simp only [PhiCs8] at d0; have d1 := hdep ⟨1, .data⟩ (by simp) rfl; simp only [PhiCs8] at d1; refine ⟨?_⟩; simp only [Act.put, sA, sB, sC, Nat.zero_add, Nat.reduceAdd, d0, d1] at hK ⊢; go_simp; with_reducible refine hK _ _ (Below.refl _ _) ?_
       exact rfl
      ·as_aux_lemma =>
       intro vs W hS hdep K hK; have d0 := hdep ⟨2, .data⟩ (by simp) rfl; simp only [PhiCs8] at d0; refine ⟨?_⟩; simp only [Act.put, sA, sB, sC, Nat.zero_add, Nat.reduceAdd, d0] at hK ⊢; rw [if_pos (by rfl)]; refine wp_load_mid 33 (.tmp 21) (by rfl) b (off + i * 24) (by rfl) (cellsP p) _ (fun j v h => cell_keep hS (HCP.out j v h)) Tryz.underlying33 (by rfl) infoP ?_; simp only [Act.put, sA, sB, sC]; with_reducible refine hK _ _ (Below.refl _ _) ?_
       exact rfl
      ·as_aux_lemma =>
       intro vs W hS hdep K hK; refine ⟨?_⟩; simp only [Act.put, sA, sB, sC, Nat.zero_add, Nat.reduceAdd] at hK ⊢; go_simp; with_reducible refine hK _ _ (Below.refl _ _) ?_
       exact rfl
      ·as_aux_lemma =>
       intro vs W hS hdep K hK; refine ⟨?_⟩; simp only [Act.put, sA, sB, sC, Nat.zero_add, Nat.reduceAdd] at hK ⊢; go_simp; with_reducible refine hK _ _ (Below.refl _ _) ?_
       exact rfl
      ·as_aux_lemma =>
       intro vs W hS hdep K hK; have d0 := hdep ⟨4, .data⟩ (by simp) rfl; simp only [PhiCs8] at d0; have d1 := hdep ⟨5, .data⟩ (by simp) rfl; simp only [PhiCs8] at d1; refine ⟨?_⟩; simp only [Act.put, sA, sB, sC, Nat.zero_add, Nat.reduceAdd, d0, d1] at hK ⊢; go_simp; with_reducible refine hK _ _ (Below.refl _ _) ?_
       exact rfl
      ·as_aux_lemma =>
       intro vs W hS hdep K hK; have d0 := hdep ⟨6, .data⟩ (by simp) rfl; simp only [PhiCs8] at d0; refine ⟨?_⟩; simp only [Act.put, sA, sB, sC, Nat.zero_add, Nat.reduceAdd, d0] at hK ⊢; rw [if_pos (by rfl)]; refine wp_load_mid 33 (.tmp 25) (by rfl) b (off + m * 24) (by rfl) (cellsP q) _ (fun j v h => cell_keep hS (HCQ.out j v h)) Tryz.underlying33 (by rfl) infoP ?_; simp only [Act.put, sA, sB, sC]; with_reducible refine hK _ _ (Below.refl _ _) ?_
       exact rfl
      ·as_aux_lemma =>
       intro vs W hS hdep K hK; have d0 := hdep ⟨3, .data⟩ (by simp) rfl; simp only [PhiCs8] at d0; have d1 := hdep ⟨7, .data⟩ (by simp) rfl; simp only [PhiCs8] at d1; refine ⟨?_⟩; simp only [Act.put, sA, sB, sC, Nat.zero_add, Nat.reduceAdd, d0, d1] at hK ⊢; go_simp; refine (clash_n p q (Lf i).1 (Lf i).2 (Lf m).1 (Lf m).2 (dg i) (dg m) _ (HEP.out.1.below hS) (HEQ.out.1.below hS) HEP.out.2.1 HEP.out.2.2 HEQ.out.2.1 HEQ.out.2.2 HDP.out HDQ.out).mono ?_; rintro e w' ⟨E, F, cb', rfl, HX, hb⟩; obtain rfl : cb' = cb := HCB.out E F cb' HX.out; go_wp2_with fail; with_reducible refine hK _ _ hb ?_
       exact rfl
     ·intro vs8 w8 hS hv; have u8 := hv 8 (by simp); simp only [PhiCs8] at u8; simp only [Act.put, sA, sB, sC, Nat.zero_add, Nat.reduceAdd, u8]; have hown := own_below hown hS; have hbe := Below.tr hbe hS; clear u8 hv hS HCP HCQ HEP HEQ HDP HDQ HCB; by_cases hcb : cb = true
      ·subst hcb
       have HL3 : Hid (L2 ++ [(i, m)] = clList (clA Ev Lf dg ps) k i ++ clRow (clA Ev Lf dg ps) i (m + 1)) := by
        show _ = _
        rw [clRow_yes hlm HC.out.symm, HL2.out, List.append_assoc]
       have hln : L2.length ≤ 1001000 := by
        have h1 := clList_len (clA Ev Lf dg ps) k i; have h2 := clRow_len (clA Ev Lf dg ps) i m; have h3 : i * k ≤ 1000 * 1000 := Nat.mul_le_mul (by omega) hk; rw [HL2.out, List.length_append]; omega
       clear HL2 HC; have hb3 := bA w8 (.cells (pairC (i, m)).toArray 40); have hown3 := own_below hown hb3; have hrd : Rd (w8.alloc (.cells (pairC (i, m)).toArray 40)) (some ⟨w8.heap.size, 0, none⟩) (pairC (i, m)) := Rd.fresh w8 40 (pairC (i, m)); have hbe3 := Below.tr hbe hb3; have hsz := hbe3.size; clear hb3 hown hbe
       go_wp2_with (first | (at_builtin; go_loud (refine wpList_append_any _ rfl (.tmp 28) (.tmp 32) _ rfl w.heap.size 40 i0 _ 2 16 Tryz.underlying34 hi0 hz0 hz1 hz2 rfl (by omega) _ L2.length _ rfl hown3 _ 1 1 (pairC (i, m)) rfl rfl hrd (by simp [pairC, Value.oneCell']) (by simp only [maxLen]; omega) (by omega) hsz ?_); intro v4 w4 hown4 hg4 hat4))
       have hbe4 : Below w.heap.size w w4 := hbe3.grown hg4 hsz (own_block_ge hown3); have hown5 : w4.ownsRow w.heap.size 40 2 v4 (L2 ++ [(i, m)]).length ((L2 ++ [(i, m)]).flatMap pairC) := by rw [List.flatMap_append, List.length_append]; simpa using hown4
       clear hown4 hown3 hg4 hat4 hbe3 hsz hrd hln; go_wp2_with fail
       go_roundg (G2 - 1)
       case measure => omega
       case rel => exact ⟨m + 1, L2 ++ [(i, m)], by go_num, by omega, by omega, hown5, HL3, hbe4⟩
      ·have hcb : cb = false := by simpa using hcb
       subst hcb
       have HL3 : Hid (L2 = clList (clA Ev Lf dg ps) k i ++ clRow (clA Ev Lf dg ps) i (m + 1)) := by
        show _ = _
        rw [clRow_no HC.out.symm]; exact HL2.out
       clear HL2 HC; go_wp2_with fail
       go_roundg (G2 - 1)
       case measure => omega
       case rel => exact ⟨m + 1, L2, by go_num, by omega, by omega, hown, HL3, hbe⟩
    ·have t2 : decide ((m : Int) < (k : Int)) = false := by simp; omega
     have HL3 : Hid (L2 = clList (clA Ev Lf dg ps) k (i + 1)) := by
      show _ = _
      rw [clList_succ, HL2.out, show m = k by omega]
     clear HL2; go_wp2_with fail
     go_roundg (G - 1)
     case measure => omega
     case rel => exact ⟨i + 1, L2, by go_num, by omega, hown, HL3, hbe⟩
  ·have t1 : decide ((i : Int) < (k : Int)) = false := by simp; omega
   have hln : L.length ≤ 281474976710656 := by
    have h1 := clList_len (clA Ev Lf dg ps) k i; have h3 : i * k ≤ 1000 * 1000 := Nat.mul_le_mul (by omega) hk; rw [HL.out]; omega
   have HL2 : Hid (L = clList (clA Ev Lf dg ps) k k) := by show _ = _; rw [HL.out, show i = k by omega]
   obtain ⟨A5, c5, e5, hrow⟩ := own_pairs hln hown; injection e5 with e1 e2 e3; subst e1 e3; clear HL hown hln; go_wp2_with fail; go_ret; exact ⟨_, _, ⟨_, rfl⟩, HL2.out ▸ hrow, hbe⟩
end Go.Proofs.YtijkfagkbfbpmaaGreatDoor
namespace Go.Proofs.YtijkfagkbfbpmaaGreatDoor
open Go Go.RowKit
theorem sameR_comm (a b c d : List Nat) : sameR a b c d = sameR c d a b := by
 unfold sameR sameB
 congr 1 <;> exact decide_eq_decide.2 ⟨Eq.symm, Eq.symm⟩
theorem clB_comm {E F : Int} {p q : PC} {dp dq : List Int} {s : Bool} : clB E F p q dp dq s = clB F E q p dq dp s := by
 unfold clB; refine decide_eq_decide.2 ⟨?_, ?_⟩
 ·rintro ⟨h1, h2, h3, h4, h5, h6, h7, h8⟩; exact ⟨h2, h1, h3.symm, h4.symm, h5.symm, h6.symm, h7, by omega⟩
 ·rintro ⟨h1, h2, h3, h4, h5, h6, h7, h8⟩; exact ⟨h2, h1, h3.symm, h4.symm, h5.symm, h6.symm, h7, by omega⟩
theorem clA_comm (Ev : Nat → Int) (Lf : Nat → List Nat × List Nat) (dg : Nat → List Int) (ps : List PC) (n i : Nat) : clA Ev Lf dg ps n i = clA Ev Lf dg ps i n := by
 unfold clA
 cases h1 : ps[n]? <;> cases h2 : ps[i]? <;> simp only
 rw [sameR_comm (Lf n).1, clB_comm]
theorem clA_irr (Ev : Nat → Int) (Lf : Nat → List Nat × List Nat) (dg : Nat → List Int) (ps : List PC) (n : Nat) : clA Ev Lf dg ps n n = false := by
 unfold clA
 cases h1 : ps[n]? <;> simp only
 unfold clB; rw [decide_eq_false_iff_not]; rintro ⟨_, _, _, _, _, _, h, _⟩; unfold sameR sameB at h; simp at h
/-- no promise's From or Until is the next tick -/
def NoEdge (ps : List PC) (t : Int) : Prop := ∀ p ∈ ps, p.fr ≠ t + 1 ∧ p.un ≠ t + 1
theorem stN_next {t : Int} {dm br : List Int} {p : PC} {dp : List Int} {k : Int} (h : p.fr ≠ t + 1 ∧ p.un ≠ t + 1) : stN t dm br p dp k = stN (t + 1) dm br p dp k := by
 unfold stN; have h1 : t < p.fr ↔ t + 1 < p.fr := by omega
 have h2 : p.un ≤ t ↔ p.un ≤ t + 1 := by omega
 simp only [h1, h2]
theorem stA_next {t : Int} {dm br : List Int} {dg : Nat → List Int} {ps : List PC} (h : NoEdge ps t) (i : Nat) : stA t dm br dg ps i = stA (t + 1) dm br dg ps i := by
 unfold stA
 cases hp : ps[i]? with
 | none => rfl
 | some p => exact stN_next (h p (List.mem_of_getElem? hp))
theorem stF_next {t : Int} {dm br : List Int} {Ev : Nat → Int} {Lf : Nat → List Nat × List Nat} {dg : Nat → List Int} {ps : List PC} (h : NoEdge ps t) (n : Nat) : stF t dm br Ev Lf dg ps n = stF (t + 1) dm br Ev Lf dg ps n := by
 have e : hitA t dm br Ev Lf dg ps n = hitA (t + 1) dm br Ev Lf dg ps n := by
  funext i
  unfold hitA; rw [stA_next h i]
 unfold stF; rw [stA_next h n, e]
theorem stN_zero {t : Int} {dm br : List Int} {p : PC} {dp : List Int} {k : Int} : stN t dm br p dp k = 0 ↔ ¬ t < p.fr ∧ ¬ p.un ≤ t ∧ dm = dp ∧ br.contains k = false := by
 unfold stN; by_cases h1 : t < p.fr
 ·rw [if_pos h1]; exact ⟨fun h => (by omega), fun h => absurd h1 h.1⟩
 rw [if_neg h1]; by_cases h2 : p.un ≤ t
 ·rw [if_pos h2]; exact ⟨fun h => (by omega), fun h => absurd h2 h.2.1⟩
 rw [if_neg h2]; by_cases h3 : dm = dp
 ·rw [if_neg (by simp [h3])]; by_cases h4 : br.contains k = true
  ·rw [if_pos h4]; exact ⟨fun h => (by omega), fun h => by rw [h4] at h; simp at h⟩
  ·rw [if_neg h4]; exact ⟨fun _ => ⟨h1, h2, h3, by simpa using h4⟩, fun _ => rfl⟩
 ·rw [if_pos (by simpa using h3)]; exact ⟨fun h => (by omega), fun h => absurd h.2.2.1 h3⟩
theorem stA_zero {t : Int} {dm br : List Int} {dg : Nat → List Int} {ps : List PC} {i : Nat} {p : PC} (hp : ps[i]? = some p) : stA t dm br dg ps i = 0 ↔ ¬ t < p.fr ∧ ¬ p.un ≤ t ∧ dm = dg i ∧ br.contains (i : Int) = false := by
 unfold stA; rw [hp]; exact stN_zero
theorem stF_zero {t : Int} {dm br : List Int} {Ev : Nat → Int} {Lf : Nat → List Nat × List Nat} {dg : Nat → List Int} {ps : List PC} {n : Nat} : stF t dm br Ev Lf dg ps n = 0 ↔ stA t dm br dg ps n = 0 ∧ ∀ i, i < ps.length → hitA t dm br Ev Lf dg ps n i = false := by
 unfold stF; by_cases h : stA t dm br dg ps n = 0
 ·rw [if_neg (by simpa using h)]; by_cases h2 : (List.range ps.length).any (hitA t dm br Ev Lf dg ps n) = true
  ·rw [if_pos h2]; refine ⟨fun h => (by omega), fun h3 => ?_⟩; obtain ⟨i, hi, hh⟩ := List.any_eq_true.1 h2; rw [h3.2 i (List.mem_range.1 hi)] at hh
   cases hh
  ·rw [if_neg h2]; refine ⟨fun _ => ⟨h, fun i hi => ?_⟩, fun _ => rfl⟩
   cases hh : hitA t dm br Ev Lf dg ps n i with
   | false => rfl
   | true => exact absurd (List.any_eq_true.2 ⟨i, List.mem_range.2 hi, hh⟩) h2
 ·rw [if_pos h]; exact ⟨fun e => absurd e h, fun e => absurd e.1 h⟩
theorem stF_more {t more : Int} {dm br : List Int} {Ev : Nat → Int} {Lf : Nat → List Nat × List Nat} {dg : Nat → List Int} {ps : List PC} {n : Nat} (hn : n < ps.length) (h : stF t dm br Ev Lf dg ps n = 0) (hm : more ≠ (n : Int)) : stF t dm (br ++ [more]) Ev Lf dg ps n = 0 := by
 have hp := List.getElem?_eq_getElem hn; rw [stF_zero] at h ⊢; refine ⟨?_, fun i hi => ?_⟩
 ·rw [stA_zero hp] at h ⊢; refine ⟨h.1.1, h.1.2.1, h.1.2.2.1, ?_⟩; have h4 := h.1.2.2.2; simp only [List.contains_eq_mem, List.mem_append, List.mem_singleton, decide_eq_false_iff_not] at h4 ⊢; rintro (e | e)
  ·exact h4 e
  ·exact hm e.symm
 ·have h2 := h.2 i hi
  cases hh : hitA t dm (br ++ [more]) Ev Lf dg ps n i with
  | false => rfl
  | true =>
   exfalso
   have hpi := List.getElem?_eq_getElem hi; unfold hitA at hh h2; simp only [Bool.and_eq_true, beq_iff_eq] at hh
   have h5 : stA t dm br dg ps i = 0 := by
    have h6 := hh.2; rw [stA_zero hpi] at h6 ⊢; refine ⟨h6.1, h6.2.1, h6.2.2.1, ?_⟩; have h4 := h6.2.2.2; simp only [List.contains_eq_mem, List.mem_append, List.mem_singleton, decide_eq_false_iff_not] at h4 ⊢; exact fun e => h4 (.inl e)
   rw [hh.1.1, hh.1.2, h5] at h2
   cases h2
theorem stF_apart {t : Int} {br : List Int} {Ev : Nat → Int} {Lf : Nat → List Nat × List Nat} {dg : Nat → List Int} {ps : List PC} {n : Nat} {p : PC} (hn : ps[n]? = some p) (hb : br.contains (n : Int) = false) (hc : ∀ x ∈ clList (clA Ev Lf dg ps) ps.length ps.length, x.1 ≠ n ∧ x.2 ≠ n) :
  stF t (dg n) br Ev Lf dg ps n = 0 ↔ p.fr ≤ t ∧ t < p.un := by
 have hnl := (List.getElem?_eq_some_iff.1 hn).1
 have hcl : ∀ i, i < ps.length → clA Ev Lf dg ps n i = false := by
  intro i hi
  cases h : clA Ev Lf dg ps n i with
  | false => rfl
  | true =>
   exfalso
   rcases Nat.lt_trichotomy n i with h1 | h1 | h1
   ·exact (hc (n, i) (clList_mem.2 ⟨h1, hi, h⟩)).1 rfl
   ·rw [← h1, clA_irr] at h; cases h
   ·exact (hc (i, n) (clList_mem.2 ⟨h1, hnl, by rw [clA_comm]; exact h⟩)).2 rfl
 rw [stF_zero, stA_zero hn]
 constructor
 ·rintro ⟨⟨h1, h2, _⟩, _⟩; omega
 ·rintro ⟨h1, h2⟩; refine ⟨⟨by omega, by omega, rfl, hb⟩, fun i hi => ?_⟩; unfold hitA; rw [hcl i hi]; simp
end Go.Proofs.YtijkfagkbfbpmaaGreatDoor
