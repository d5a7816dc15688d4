/- RunSames (cabinetrylaw21): a part of the proof that the law's function answers true, whatever it is handed; its conditions are those of the given card. -/
import Derived.Test.YtmfgdpgmdibkhaaGreatDoorProg
import Derived.Test.YtmfgdpgmdibkhaaGreatDoorG3
import Derived.KernelRfl
namespace Go.Proofs.YtmfgdpgmdibkhaaGreatDoor
open Go Go.Abs Go.Proofs
set_option maxRecDepth 1000000
noncomputable def regs : Code → List (Array Oper)
  | .region _ ops _ => [ops]
  | .seq a b => regs a ++ regs b
  | .cond _ a b => regs a ++ regs b
  | .block _ c => regs c
  | .loop c => regs c
  | _ => []
noncomputable def r351 (i : Nat) : Array Oper := match Tryz.f351.body with
  | some c => (regs c).getD i #[]
  | none => #[]
noncomputable def o351 (i j : Nat) : Oper := (r351 i).getD j default
noncomputable def callOf (o : Oper) : Call := match o.op with
  | .call c => c
  | _ => default
theorem body351 : Tryz.f351.body = some (opersCode 0 1 2 3 4 5 6 7 8 9 10 11 0 1 2 3 (r351 0) (r351 1) (r351 2) (r351 3) (r351 4) (r351 5) (r351 6) (r351 7) (r351 8) (r351 9) (r351 10) (r351 11)) := by kernel_rfl
theorem OC351 : OpersCode Tryz.prog 25 345 71 92 (r351 0) (r351 1) (r351 2) (r351 10) (r351 11) where
  n0 := by kernel_rfl
  n1 := by kernel_rfl
  n2 := by kernel_rfl
  n10 := by kernel_rfl
  n11 := by kernel_rfl
  o0 := ⟨o351 0 0, by kernel_rfl, by kernel_rfl, by kernel_rfl, by kernel_rfl⟩
  o1 := ⟨o351 1 0, by kernel_rfl, by kernel_rfl, by kernel_rfl, by kernel_rfl⟩
  o20 := ⟨o351 2 0, callOf (o351 2 0), by kernel_rfl, by kernel_rfl, by kernel_rfl, by kernel_rfl, by kernel_rfl, by kernel_rfl⟩
  o21 := ⟨o351 2 1, by kernel_rfl, by kernel_rfl, by kernel_rfl, by kernel_rfl⟩
  oa0 := ⟨o351 10 0, by kernel_rfl, by kernel_rfl, by kernel_rfl, by kernel_rfl⟩
  oa1 := ⟨o351 10 1, callOf (o351 10 1), by kernel_rfl, by kernel_rfl, by kernel_rfl, by kernel_rfl, by kernel_rfl, by kernel_rfl⟩
  ob0 := ⟨o351 11 0, by kernel_rfl, by kernel_rfl, by kernel_rfl, by kernel_rfl⟩
  ob1 := ⟨o351 11 1, callOf (o351 11 1), by kernel_rfl, by kernel_rfl, by kernel_rfl, by kernel_rfl, by kernel_rfl, by kernel_rfl⟩
  ob2 := ⟨o351 11 2, by kernel_rfl, by kernel_rfl, by kernel_rfl, by kernel_rfl⟩
  hN := by decide
theorem CI351 : InnerCode Tryz.prog 13 25 9 (r351 6) (r351 7) (r351 8) where
  n6 := by kernel_rfl
  n7 := by kernel_rfl
  o60 := ⟨o351 6 0, by kernel_rfl, by kernel_rfl, by kernel_rfl, by kernel_rfl⟩
  o61 := ⟨o351 6 1, by kernel_rfl, by kernel_rfl, by kernel_rfl, by kernel_rfl⟩
  o70 := ⟨o351 7 0, by kernel_rfl, by kernel_rfl, by kernel_rfl, by kernel_rfl⟩
  o71 := ⟨o351 7 1, by kernel_rfl, by kernel_rfl, by kernel_rfl, by kernel_rfl⟩
  o72 := ⟨o351 7 2, by kernel_rfl, by kernel_rfl, by kernel_rfl, by kernel_rfl⟩
  i8 := by kernel_rfl
  hN := by decide
theorem CO351 : OuterCode Tryz.prog 13 25 9 453 9 9 (r351 3) (r351 4) (r351 5) (r351 9) 6 where
  i3 := by kernel_rfl
  i4 := by kernel_rfl
  n5 := by kernel_rfl
  o50 := ⟨o351 5 0, by kernel_rfl, by kernel_rfl, by kernel_rfl, by kernel_rfl⟩
  o51 := ⟨o351 5 1, by kernel_rfl, by kernel_rfl, by kernel_rfl, by kernel_rfl⟩
  ut := Tryz.underlying453
  i9 := by kernel_rfl
  hN := by decide
theorem name351 : (Tryz.f351.name == "runtime.NumGoroutine") = false := by kernel_rfl
theorem res351 : Tryz.f351.results = #[.tmp 0] := by kernel_rfl
theorem nt351 : Tryz.f351.ntmps = 25 := by kernel_rfl
end Go.Proofs.YtmfgdpgmdibkhaaGreatDoor
