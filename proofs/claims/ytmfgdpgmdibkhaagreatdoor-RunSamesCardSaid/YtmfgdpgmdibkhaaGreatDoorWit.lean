/- RunSames (cabinetrylaw21): a part of the proof that the law's function answers true, whatever it is handed; its conditions are those of the given card. -/
import Derived.Test.YtmfgdpgmdibkhaaGreatDoorRows
import Derived.Test.YtmfgdpgmdibkhaaGreatDoorFacts
import Derived.Lay
import Derived.LaidHandle
import Derived.Handed
namespace Go.Proofs.YtmfgdpgmdibkhaaGreatDoor
open Go Go.Abs
set_option maxRecDepth 1000000
def dataL : List (String × DataW Unit) := Rows.runSamesRow.laid.filter fun x => x.2.handleName?.isNone
def greatL : List String := [0, 1, 2, 3, 6, 7, 8, 9].map fun i => (dataL.map (·.1)).getD i default
noncomputable def wit00 (os : Os) : World :=
  (((World.holding Tryz.prog os ⟨#[], #[], []⟩).setCell ⟨0, 0, none⟩ (.iface 200 (.agg #[typeHandle Tryz.prog 56]))).setCell ⟨7, 0, none⟩ (.iface 793 (.pointer (some ⟨18, 0, none⟩)))).setCell ⟨8, 0, none⟩ (.iface 793 (.pointer (some ⟨19, 0, none⟩)))
noncomputable def wit0 (os : Os) : World :=
  { wit00 os with heap := (wit00 os).heap ++ #[.cells #[.string ⟨#[105, 110, 118, 97, 108, 105, 100, 32, 115, 121, 110, 116, 97, 120]⟩] 795, .cells #[.string ⟨#[118, 97, 108, 117, 101, 32, 111, 117, 116, 32, 111, 102, 32, 114, 97, 110, 103, 101]⟩] 795] }
noncomputable def wit1 (os : Os) : World := (wit0 os).layVars Tryz.prog (dataL.filter fun x => greatL.contains x.1)
theorem wit_fits (os : Os) : (wit0 os).layFits Tryz.prog (dataL.filter fun x => greatL.contains x.1) [7, 8, 18, 19] = true := by kernel_rfl
theorem wit_ifaces (os : Os) : (wit0 os).layIfaces Tryz.prog (dataL.filter fun x => greatL.contains x.1) (wit1 os) = true := by kernel_rfl
theorem wit_read (os : Os) : (DataW.laidRun Tryz.prog (wit1 os) 8 ((dataL.filter fun x => !greatL.contains x.1).map (·.1))).map (·.1) = some (dataL.filter fun x => !greatL.contains x.1) := by kernel_rfl
theorem wit_once (os : Os) : (DataW.laidRun Tryz.prog (wit1 os) 8 ((dataL.filter fun x => !greatL.contains x.1).map (·.1))).map (fun x => nodupB (x.2.map MemPlace.codeOf)) = some true := by kernel_rfl
theorem wit_rows (os : Os) : (DataW.laidRun Tryz.prog (wit1 os) 8 ((dataL.filter fun x => !greatL.contains x.1).map (·.1))).map (fun x => laidRowsB Tryz.prog (wit1 os) x.2) = some true := by kernel_rfl
theorem wit_in (os : Os) : (DataW.laidRun Tryz.prog (wit1 os) 8 ((dataL.filter fun x => !greatL.contains x.1).map (·.1))).map (fun x => x.2.all fun p => [7, 8, 18, 19].contains p.block) = some true := by kernel_rfl
theorem wit_data (os : Os) : laidMet Tryz.prog dataL (wit1 os) :=
  laidMet_layVars (w0 := wit0 os) greatL [7, 8, 18, 19] rfl (wit_fits os) (wit_ifaces os) (LaidIn.of_run [7, 8, 18, 19] 8 (wit_read os) (wit_once os) (wit_rows os) (wit_in os))
theorem wit_handle (os : Os) : (Rows.runSamesRow.laid.filter fun x => x.2.handleName?.isSome && x.2.funcsIn?.isNone).all (handleAtB Tryz.prog (wit1 os)) = true := by kernel_rfl
theorem wit_funcs (os : Os) : funcsRun Tryz.prog (wit1 os) 8 ((funcsListed Rows.runSamesRow.laid).map (·.1)) = some ((funcsListed Rows.runSamesRow.laid).map (·.2.funcsOut)) := by kernel_rfl
theorem wit_laid (os : Os) : laidMetH Tryz.prog Rows.runSamesRow.laid (wit1 os) := laidMetH_of_parts3 (fuel := 8) (wit_data os) (wit_handle os) (wit_funcs os)
end Go.Proofs.YtmfgdpgmdibkhaaGreatDoor
