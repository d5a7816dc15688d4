/- RunSames (cabinetrylaw21): a part of the proof that the law's function answers true, whatever it is handed; its conditions are those of the given card. -/
import Derived.Test.YtmfgdpgmdibkhaaGreatDoorLift
import Derived.Test.YtmfgdpgmdibkhaaGreatDoorBind
import Derived.Test.YtmfgdpgmdibkhaaGreatDoorCards
namespace Go.Proofs.YtmfgdpgmdibkhaaGreatDoor
open Go Go.Abs Go.RowKit
set_option maxRecDepth 1000000
theorem lifted (os : Os) (started : os.Started) (H : Type) (enc : TypeId × Value → H) :
    ReturnsInHanded {} Tryz.checked os 3 .any (fun w args => (Rows.runSamesSpec.pre enc Tryz.prog Tryz.f3 [] false w args ∧ laidMetH Tryz.prog Rows.runSamesRow.laid w) ∧ sizedMet enc Tryz.prog Tryz.f3 (OpenSpec.ofChange Rows.runSamesSpec) false w args)
      (Rows.runSamesSpec.post enc Tryz.prog Tryz.f3 false true false false) :=
  returnsInHanded_laid (C := Tryz.checked) (X := fun w _ => laidMetH Tryz.prog Rows.runSamesRow.laid w) (fun _ _ _ hh h => h.of_heap hh) own started no_init Tryz.func3
    (ChangeSpec.witness_shaped (enc := enc) (C := Tryz.checked) (os := os) (X := fun w _ => laidMetH Tryz.prog Rows.runSamesRow.laid w) false (wit1 os) #[out0, out0] 8 (by kernel_rfl) (wit_shaped os) (wit_ok os) (wit_pre os) (wit_sized os) ((wit_laid os).of_heap (by simp [World.memory, World.forCall, Input.heap])))
    (fun W base args ds gs before hval hW hwt hL hsh => contract false true false W base args ds gs before hval hW hwt hL hsh)
theorem veil : ((Tryz.f3.params.toList ++ Rows.runSamesSpec.plain.varTypes Tryz.prog ++ Tryz.f3.resultTypes.toList).any (Tryz.prog.veiledRec ·)) = false := by kernel_rfl
theorem wf_row : Rows.runSamesRow.wf (OpenSpec.ofChange Rows.runSamesSpec) = true := by kernel_rfl
theorem facts : joinedFacts Tryz.prog 3 Tryz.f3 Rows.runSamesSpec Rows.runSamesRow = true := by
  unfold joinedFacts
  rw [wf_row, laidOut_eq, mapsRowed_eq, stops_eq, knobs_eq, inPlace_eq, unfollowed_eq, recurses_eq, varsNamed_eq, plainKeys_eq, heard, mayEnter_eq, lifted_eq, make_eq]
  kernel_rfl
end Go.Proofs.YtmfgdpgmdibkhaaGreatDoor
