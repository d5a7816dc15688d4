/- RunSames (cabinetrylaw21): the law's function answers true, whatever two outcomes it is handed, and leaves them as they were. Its conditions are those of the given card: the listed package variables hold what the program's text lays. -/
import Derived.Test.YtmfgdpgmdibkhaaGreatDoorHeld
namespace Go.Proofs.YtmfgdpgmdibkhaaGreatDoor
open Go Go.Abs Go.RowKit
set_option maxRecDepth 1000000
theorem inst3 : Tryz.f3.isInstance Tryz.prog Rows.runSamesRow.origin Rows.runSamesRow.targs := of_decide_eq_true (by kernel_rfl)
theorem wrap3 : Tryz.f3.isWrapper Tryz.prog Rows.runSamesRow.wrapper Rows.runSamesRow.mainSum := by
  unfold Func.isWrapper
  first | (rw [if_pos (by decide +kernel)]; kernel_rfl) | (rw [if_neg (by decide +kernel)]; exact ⟨rfl, rfl⟩)
theorem runSames_holds : Rows.RunSamesSaid :=
  OpenClaim.holds_of_wide 3 Tryz.f3 rfl rfl rfl rfl rfl rfl rfl ⟨rfl, rfl, rfl, rfl, rfl⟩ rfl rfl rfl rfl rfl funcNamed_eq Tryz.func3 facts inst3 wrap3
    (fun os started H enc _ => lifted os started H enc)
theorem looks_eq : Tryz.prog.looks [] = true := by
  unfold Program.looks
  rw [nfuncs]
  refine List.any_eq_true.2 ⟨39, List.mem_range.2 (by decide), ?_⟩
  kernel_rfl
theorem wants24 : Tryz.prog.wantsStandIn 24 = false := by kernel_rfl
theorem main_is : Tryz.prog.mainIs = some (true, "0ecab7281c6674534a0f7837971abd27de7627a5315f6da757c47b02d07fc621".toList) := by kernel_rfl
theorem wf_text : Rows.runSamesRow.wfByText (OpenSpec.ofChange Rows.runSamesSpec) = true := by kernel_rfl
theorem runSames_card : Rows.RunSamesCardSaid :=
  Claim7.holds_tied_plain_at .later [] [.data, .data, .data, .data, .handle, .sentinel, .sentinel, .listed, .data, .pinned, .pinned] true (true, "0ecab7281c6674534a0f7837971abd27de7627a5315f6da757c47b02d07fc621") true
    runSames_holds (fun _ h => by cases h) wf_text (fun _ h => by cases h) row_tie rfl ⟨rfl, rfl⟩ main_is rfl
    (fun f fn hf hfn => by
      obtain rfl : f = 3 := Option.some.inj (funcNamed_eq.symm.trans hf) |>.symm
      obtain rfl : fn = Tryz.f3 := (Option.some.inj (Tryz.func3.symm.trans hfn)).symm
      exact ⟨looks_eq.symm, fun j t ht => by
        rw [Tryz.params3] at ht
        have hm : t ∈ [24, 24] := by simpa using Array.mem_of_getElem? ht
        obtain rfl : t = 24 := by simpa using hm
        exact wants24⟩)
    goes_eq.symm
#print axioms runSames_card
end Go.Proofs.YtmfgdpgmdibkhaaGreatDoor
