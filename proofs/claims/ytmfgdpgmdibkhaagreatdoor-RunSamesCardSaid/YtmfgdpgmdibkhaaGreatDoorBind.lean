/- RunSames (cabinetrylaw21): a part of the proof that the law's function answers true, whatever it is handed; its conditions are those of the given card. -/
import Derived.Test.YtmfgdpgmdibkhaaGreatDoorRows
import Derived.Test.YtmfgdpgmdibkhaaGreatDoorFacts
import Derived.Test.YtmfgdpgmdibkhaaGreatDoorG3
import Derived.SevenTiedAt
namespace Go.Proofs.YtmfgdpgmdibkhaaGreatDoor
open Go Go.Abs
set_option maxRecDepth 1000000
def LL : List (String × DataW Unit) := Rows.runSamesRow.laid.take 9
def KK : List LaidKind := [.data, .data, .data, .data, .handle, .sentinel, .sentinel, .listed, .data]
noncomputable def doorCode : Code := (Tryz.f890.body).getD .skip
def doorVars : List Nat := [10, 11, 9, 6, 0, 8, 7, 12, 2, 1]
theorem door_named : Tryz.prog.funcNamed "gosem.cut.vars" = some 890 := funcNamed_of (by kernel_rfl)
theorem door_body : ((Tryz.prog.funcs[890]?).bind (·.body)) = some doorCode := by kernel_rfl
theorem door_vars : doorCode.laysInOrder [] = some doorVars := by kernel_rfl
theorem door_calls : (!doorCode.unfollowedBeside Tryz.prog && (doorCode.tempsApart 0).isSome && doorCode.regionsFit Tryz.prog []) = true := by kernel_rfl
theorem elem_named : Tryz.prog.funcNamed Tryz.f857.name = some 857 := funcNamed_of (by kernel_rfl)
theorem elem_entry : ((Tryz.prog.funcs[857]?).any fun fn => fn.body.isNone && !entryCalls fn) = true := by kernel_rfl
theorem door_handle : ((doorCode.storedByHandle Tryz.prog).all fun v => Tryz.prog.globalNamed "errors.errorType" == some v) = true := by kernel_rfl
theorem any_at {α : Type} {o : Option α} {a : α} {p : α → Bool} (h : o = some a) (hp : p a = true) : o.any p = true := by rw [h]; exact hp
theorem door_alone : Tryz.prog.callsLaidAlone 890 doorCode = true := by
  unfold Program.callsLaidAlone
  rw [door_calls, door_handle, Bool.true_and, Bool.and_true, Bool.or_eq_true]
  exact .inr (any_at elem_named elem_entry)
theorem door_all : (LL.all fun x => (Tryz.prog.globalNamed x.1).any fun v => (doorVars.contains v == (Tryz.prog.kindBase x.1 != some .zero)) && callsFit doorCode v (Tryz.prog.kindBase x.1) &&
    ((doorCode.storedByHandle Tryz.prog).contains v == (Tryz.prog.kindBase x.1 == some .handle)) && (x.2.handleName?.isSome == (Tryz.prog.kindBase x.1 == some .handle || Tryz.prog.kindBase x.1 == some .funcs)) &&
    (Tryz.prog.kindBase x.1 != some .handle || handlePair x) && (x.2.funcsIn?.isSome == (Tryz.prog.kindBase x.1 == some .funcs)) && mapsFit doorCode v x.2 (Tryz.prog.kindBase x.1)) = true := by kernel_rfl
theorem door_once : (doorVars.eraseDups.length == doorVars.length) = true := by kernel_rfl
theorem door_fits : varsNamedLaterB Tryz.prog 890 LL = true := by
  unfold varsNamedLaterB
  rw [door_body]
  simp only [door_vars, door_once, door_alone, Bool.true_and]
  exact door_all
theorem door_kinds : (LL.map fun x => Tryz.prog.kindOfLater x.1) = KK.map some := by kernel_rfl
theorem word1 : (Tryz.prog.funcs.toList.any fun fn => fn.body.isNone && fn.name == varsWordLater true) = true := by kernel_rfl
theorem word2 : (Tryz.prog.funcs.toList.any fun fn => fn.body.isNone && fn.name == varsWordLater (!true)) = false := by kernel_rfl
theorem word3 : (Tryz.prog.funcs.toList.any fun fn => fn.body.isNone && fn.name == rootWordLater) = true := by kernel_rfl
theorem worded_list (P : Program) (w : String) : P.worded w = P.funcs.toList.any fun fn => fn.body.isNone && fn.name == w := by
  unfold Program.worded
  rw [← Array.any_toList]
theorem door_run : ∀ os tape, doorAt Tryz.prog 890 103 8 257 LL os tape = some (LL.filter fun x => x.2.handleName?.isNone, (funcsListed LL).map (·.2.funcsOut)) := fun _ _ => by kernel_rfl
theorem door_tie : Tryz.prog.laidByTextLater LL KK true :=
  laidByTextLater_at 890 103 8 257 ((worded_list _ _).trans word1) ((worded_list _ _).trans word2) ((worded_list _ _).trans word3) door_kinds door_named door_fits door_run
theorem pin_at (v : String) (n : Nat) (h1 : Tryz.prog.wordedOn v (kindTail .pinned) = true) (h2 : (Tryz.prog.kindBase v).isNone = true) (h3 : Tryz.prog.globalNamed v = some n) (h4 : doorVars.contains n = false) : Tryz.prog.pinnedFits v = true := by
  unfold Program.pinnedFits
  rw [h1, h2, h3, door_named]
  simp only [Option.any_some, Option.bind_some, door_body, door_vars, h4]
  rfl
theorem pin1 : Tryz.pinned.checked.prog.pinnedFits ((Rows.runSamesRow.laid.map (·.1)).getD 9 default) = true := pin_at _ 3 (by kernel_rfl) (by kernel_rfl) (by kernel_rfl) (by kernel_rfl)
theorem pin2 : Tryz.pinned.checked.prog.pinnedFits ((Rows.runSamesRow.laid.map (·.1)).getD 10 default) = true := pin_at _ 5 (by kernel_rfl) (by kernel_rfl) (by kernel_rfl) (by kernel_rfl)
theorem noOwnUnsafe : Tryz.pinned.checked.prog.headLifts.contains "ownunsafe" = false := by kernel_rfl
theorem fits1 : Tryz.pinned.checked.prog.listedFits Rows.runSamesRow.laid = true := by
  unfold Program.listedFits
  rw [noOwnUnsafe]
  kernel_rfl
theorem row_tie : Rows.runSamesRow.laidByTextAt .later Tryz.pinned [.data, .data, .data, .data, .handle, .sentinel, .sentinel, .listed, .data, .pinned, .pinned] true :=
  OpenClaim.laidByTextAt_pinned rfl rfl door_tie rfl rfl rfl rfl (fun y hy _e => by
    simp only [Rows.runSamesRow, List.zip_cons_cons, List.zip_nil_right, List.mem_cons, List.mem_nil_iff, or_false] at hy
    rcases hy with rfl | rfl | rfl | rfl | rfl | rfl | rfl | rfl | rfl | rfl | rfl
    · cases _e
    · cases _e
    · cases _e
    · cases _e
    · cases _e
    · cases _e
    · cases _e
    · cases _e
    · cases _e
    · exact ⟨pin1, by kernel_rfl⟩
    · exact ⟨pin2, by kernel_rfl⟩) fits1
end Go.Proofs.YtmfgdpgmdibkhaaGreatDoor
