/- RunSames (cabinetrylaw21): a part of the proof that the law's function answers true, whatever it is handed; its conditions are those of the given card. -/
import Derived.Test.YtmfgdpgmdibkhaaGreatDoorJoin
import Derived.Lib.LaidU8
namespace Go.Proofs.YtmfgdpgmdibkhaaGreatDoor
open Go Go.Proofs Go.RowKit
set_option maxRecDepth 1000000
theorem type1 : (Tryz.prog.globals[1]?).map (·.type) = some 60 := by kernel_rfl
theorem ut60 : ∃ e, Tryz.prog.underlying 60 = some (.array 256 e) ∧ Tryz.prog.underlying e = some (.int .u8) ∧ Tryz.prog.cellsOf e = 1 := ⟨5, by kernel_rfl, by kernel_rfl, by kernel_rfl⟩
theorem cells60 : Tryz.prog.cellsOf 60 = 256 := by kernel_rfl
theorem tab_of_laid {l : List (String × DataW Unit)} {w : World} (h : laidMet Tryz.prog l w) (hm : ("strings.asciiSpace", Lib.tabData .u8 spTab) ∈ l) : Lib.TabIs Tryz.prog w "strings.asciiSpace" .u8 spTab := by
  obtain ⟨g, t, cs, fuel, p, hg, ht, hvar, hd⟩ := Lib.laidMet.reads h hm
  obtain rfl := Option.some.inj (name1.symm.trans hg)
  obtain rfl := Option.some.inj (type1.symm.trans ht)
  obtain ⟨e, h1, h2, h3⟩ := ut60
  unfold Lib.TabIs
  rw [hvar, ← Lib.cells_of_tab h1 h2 h3 cells60 hd]
theorem runSames_true (k1 y1 : Int) (p1 : Option Addr) (n1 c1 : Nat) (f1 : Nat → ByteArray) (v1 : ByteArray) (k2 y2 : Int) (p2 : Option Addr) (n2 c2 : Nat) (f2 : Nat → ByteArray) (v2 : ByteArray) (w : World) (h1 : TextsV w p1 n1 f1) (h2 : TextsV w p2 n2 f2) (hn1 : n1 ≤ 281474976710656) (hn2 : n2 ≤ 281474976710656)
    (hsh : w.ShapedOpen Tryz.prog) {l : List (String × DataW Unit)} (hl : laidMet Tryz.prog l w) (hm : ("strings.asciiSpace", Lib.tabData .u8 spTab) ∈ l) :
    Calls Tryz.prog 3 #[.agg #[.int .i64 k1, .int .i64 y1, .slice p1 n1 c1, .string v1], .agg #[.int .i64 k2, .int .i64 y2, .slice p2 n2 c2, .string v2]] w fun e w' => e = .returned (.bool true) ∧ Below w.heap.size w w' :=
  runSames_walk k1 y1 p1 n1 c1 f1 v1 k2 y2 p2 n2 c2 f2 v2 w h1 h2 hn1 hn2 (knows hsh (tab_of_laid hl hm))
end Go.Proofs.YtmfgdpgmdibkhaaGreatDoor
