/- RunSames (cabinetrylaw21): a part of the proof that the law's function answers true, whatever it is handed; its conditions are those of the given card. -/
import Derived.Test.YtmfgdpgmdibkhaaGreatDoorTable
import Derived.Test.YtmfgdpgmdibkhaaGreatDoorG2
namespace Go.Proofs.YtmfgdpgmdibkhaaGreatDoor
open Go Go.Abs Go.Abs.Tabs
set_option maxRecDepth 1000000
def isB (g : FuncId) : Bool := Nat.beq g 337 || Nat.beq g 338 || Nat.beq g 290 || Nat.beq g 39
noncomputable def b0 : BaseK := fun g args A k => match args with
  | [x] => (match Nat.beq g 337 with
    | true => k x A
    | false => (match Nat.beq g 338 with
      | true => noZeroK 5 x A k
      | false => (match Nat.beq g 290 && beqF 8 x (.str 1 [43]) with
        | true => k (.bool true) A
        | false => none)))
  | _ => none
noncomputable def d0 : DBaseK := fun g args A k => match Nat.beq g 39 with
  | true => k A
  | false => none
noncomputable def tb (L : List Sum) : Tab AV := mkTab Tryz.prog 13 (fun g => tab.get g) isB b0 d0 L
end Go.Proofs.YtmfgdpgmdibkhaaGreatDoor
