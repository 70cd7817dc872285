import Derived.Test.YtijkfagkbfbpmaaGreatDoorKByProof20
import Derived.Lib.LaidU8
import Derived.Test.YtijkfagkbfbpmaaGreatDoorS0
set_option linter.unusedVariables false
set_option linter.unusedSimpArgs false
namespace Go.Proofs.YtijkfagkbfbpmaaGreatDoor
open Go Go.RowKit
def kcI : List Int := kcL.map fun (n : Nat) => (n : Int)
theorem kcI_eq : (kcI.map fun z => Value.int .u32 z).toArray = arW 64 kcW := by kernel_rfl
theorem kct0 {w : World} (h : Lib.TabIs Tryz.prog w "culprit/hash.constants" .u32 kcI) : KcT w 0 := by
 have hg : Tryz.prog.globalNamed "culprit/hash.constants" = some 0 := by kernel_rfl
 unfold Lib.TabIs World.var? at h; rw [hg] at h; simp only [Option.bind_some] at h
 split at h
 ·rename_i cs t fr hc
  injection h with h; exact ⟨t, fr, by rw [hc, h, kcI_eq]⟩
 ·cases h
theorem kct1 {w : World} (h : Lib.TabIs Tryz.prog w "culprit/culpritref02.constants" .u32 kcI) : KcT w 1 := by
 have hg : Tryz.prog.globalNamed "culprit/culpritref02.constants" = some 1 := by kernel_rfl
 unfold Lib.TabIs World.var? at h; rw [hg] at h; simp only [Option.bind_some] at h
 split at h
 ·rename_i cs t fr hc
  injection h with h; exact ⟨t, fr, by rw [hc, h, kcI_eq]⟩
 ·cases h
theorem tabIs_of_reads {W : World} {name : String} {zs : List Int} {g : Nat}
  (hg : Tryz.prog.globalNamed name = some g) (hty : (Tryz.prog.globals[g]?).map (·.type) = some 180) (h : Lib.VarReads Tryz.prog W name (Lib.tabData .u32 zs)) : Lib.TabIs Tryz.prog W name .u32 zs := by
 obtain ⟨g', t', cs, fuel, p, hg', ht', hvar, hd⟩ := h; obtain rfl := Option.some.inj (hg.symm.trans hg'); obtain rfl := Option.some.inj (hty.symm.trans ht'); unfold Lib.TabIs; rw [hvar, ← Lib.cells_of_tab (n := 64) (e := 104) Tryz.underlying180 Tryz.underlying104 (by kernel_rfl) (by kernel_rfl) hd]
theorem kct0_of {W : World} {l : List (String × DataW Unit)} {d : DataW Unit} (hL : laidMet Tryz.prog l W) (hd : d = Lib.tabData .u32 kcI) (hm : ("culprit/hash.constants", d) ∈ l) : KcT W 0 :=
 kct0 (tabIs_of_reads (g := 0) (by kernel_rfl) (by kernel_rfl) (by have := Lib.laidMet.reads hL hm; rw [hd] at this; exact this))
theorem kct1_of {W : World} {l : List (String × DataW Unit)} {d : DataW Unit} (hL : laidMet Tryz.prog l W) (hd : d = Lib.tabData .u32 kcI) (hm : ("culprit/culpritref02.constants", d) ∈ l) : KcT W 1 :=
 kct1 (tabIs_of_reads (g := 1) (by kernel_rfl) (by kernel_rfl) (by have := Lib.laidMet.reads hL hm; rw [hd] at this; exact this))
end Go.Proofs.YtijkfagkbfbpmaaGreatDoor
