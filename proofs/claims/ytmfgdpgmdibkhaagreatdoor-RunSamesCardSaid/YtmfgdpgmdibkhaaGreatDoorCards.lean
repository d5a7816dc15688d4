/-
  DERIVED. GIVEN WITH THE SEED: THE CARDS: each row of YtmfgdpgmdibkhaaGreatDoorRows.lean that lists a variable, with what it lists TIED to the program's text (the seventh form; the later family's looks); each row that meets fmt, with fmt's text TOLD by the authors' own Lean function (tested against real Go, not proved from fmt's source: count such statements apart). THE CARD IS WHAT COUNTS. Prove the row's statement (the work); the ties are given (YtmfgdpgmdibkhaaGreatDoorTie.lean); close each card by the builder's one call (the guide's Derived/Test/ToyasCard.lean, 'card_holds'). Laid BY PROGRAM, IN A SANDBOX (cutbox-door.mjs). By AI agents, Wed Nov 11 2026. No macro, syntax, notation, axiom, sorry.
-/
import Derived.Test.YtmfgdpgmdibkhaaGreatDoorRows
import GoSem.ClaimSeven
namespace Go.Proofs.YtmfgdpgmdibkhaaGreatDoor
namespace Rows

/-- THE TIED CARD OF 'cabinetrylaw21.RunSames'. -/
def runSamesCard : Claim7 := { stood := { row := runSamesRow, standIns := [], harness := (true, "0ecab7281c6674534a0f7837971abd27de7627a5315f6da757c47b02d07fc621"), looks := true }, kinds := [], alts := [], laidByText := true, laidKinds := [.data, .data, .data, .data, .handle, .sentinel, .sentinel, .listed, .data, .pinned, .pinned], laidTests := true, laidLooks := .later }
def RunSamesCardSaid : Prop := Claim7.holds Tryz.pinned (.plain (OpenSpec.ofChange runSamesSpec)) runSamesCard

/-- THE SECOND FORM's CARD OF 'cabinetrylaw21.RunSames'. -/
def runSamesUptoCard : Claim7 := { stood := { row := runSamesUptoRow, standIns := [], harness := (true, "0ecab7281c6674534a0f7837971abd27de7627a5315f6da757c47b02d07fc621"), looks := true }, kinds := [], alts := [], laidByText := true, laidKinds := [.data, .data, .data, .data, .handle, .sentinel, .sentinel, .listed, .data, .pinned, .pinned], laidTests := true, laidLooks := .later }
def RunSamesUptoCardSaid : Prop := Claim7.holds Tryz.pinned (.plain (OpenSpec.upto runSamesSpec)) runSamesUptoCard
end Rows
end Go.Proofs.YtmfgdpgmdibkhaaGreatDoor
