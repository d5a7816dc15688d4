/- RunSames (cabinetrylaw21): a part of the proof that the law's function answers true, whatever it is handed; its conditions are those of the given card. -/
import Derived.Test.YtmfgdpgmdibkhaaGreatDoorTab
import Derived.Test.YtmfgdpgmdibkhaaGreatDoorRows
namespace Go.Proofs.YtmfgdpgmdibkhaaGreatDoor
open Go Go.Proofs Go.RowKit
set_option maxRecDepth 1000000
theorem laid_space : Rows.laid_strings_asciiSpace (H := Unit) = Lib.tabData .u8 spTab := by kernel_rfl
theorem laid_mem : ("strings.asciiSpace", (Lib.tabData .u8 spTab : DataW Unit)) ∈ Rows.runSamesRow.laid := by
  rw [← laid_space]
  simp only [Rows.runSamesRow, List.mem_cons, true_or, or_true]
theorem laid_none {P : Program} {l : List (String × DataW Unit)} {w : World} (h : laidMetH P l w) : laidMet P (l.filter fun x => x.2.handleName?.isNone) w := by
  unfold laidMetH at h
  split at h
  · rename_i e
    have : (l.filter fun x => x.2.handleName?.isNone) = l := List.filter_eq_self.2 fun x hx => by
      have := List.filter_eq_nil_iff.1 e x hx
      simpa using this
    rw [this]; exact h
  · exact h.1
theorem laid_mem' : ("strings.asciiSpace", (Lib.tabData .u8 spTab : DataW Unit)) ∈ Rows.runSamesRow.laid.filter fun x => x.2.handleName?.isNone := List.mem_filter.2 ⟨laid_mem, by kernel_rfl⟩
theorem tab_of_row {w : World} (h : laidMetH Tryz.prog Rows.runSamesRow.laid w) : Lib.TabIs Tryz.prog w "strings.asciiSpace" .u8 spTab := tab_of_laid (laid_none h) laid_mem'
end Go.Proofs.YtmfgdpgmdibkhaaGreatDoor
