/- RunSames (cabinetrylaw21): a part of the proof that the law's function answers true, whatever it is handed; its conditions are those of the given card. -/
import Derived.Test.YtmfgdpgmdibkhaaGreatDoorStart
import Derived.Test.YtmfgdpgmdibkhaaGreatDoorWalk
import Derived.ChangeAgain
namespace Go.Proofs.YtmfgdpgmdibkhaaGreatDoor
open Go Go.Proofs Go.RowKit
theorem knows {w : World} (hsh : w.ShapedOpen Tryz.prog) (htab : Lib.TabIs Tryz.prog w "strings.asciiSpace" .u8 spTab) : Knows w := by
  intro w' hb
  have hsh' : w'.ShapedOpen Tryz.prog := hsh.keptBut (hb.frame fun _ => False) (fun p h => h.elim)
  have hlt : 1 < w.heap.size := by
    refine Nat.lt_of_not_le fun hge => ?_
    have : w.heap[1]? = none := Array.getElem?_eq_none hge
    have h := htab
    simp only [Lib.TabIs, World.var?, name1, Option.bind_some, this] at h
    cases h
  have htab' : Lib.TabIs Tryz.prog w' "strings.asciiSpace" .u8 spTab := by
    have h := htab
    simp only [Lib.TabIs, World.var?, name1, Option.bind_some] at h ⊢
    rw [hb.block 1 hlt]; exact h
  refine (known_true hsh' htab').mono ?_
  rintro e w'' ⟨rfl, h1, h2, h3, h4, h5⟩
  exact ⟨rfl, h3, h5, h4, h1, h2⟩
end Go.Proofs.YtmfgdpgmdibkhaaGreatDoor
