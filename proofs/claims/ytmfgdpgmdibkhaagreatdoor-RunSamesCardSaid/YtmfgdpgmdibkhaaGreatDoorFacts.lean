/- RunSames (cabinetrylaw21): a part of the proof that the law's function answers true, whatever it is handed; its conditions are those of the given card. -/
import Derived.Test.YtmfgdpgmdibkhaaGreatDoorClos
import Derived.Test.YtmfgdpgmdibkhaaGreatDoorRows
namespace Go.Proofs.YtmfgdpgmdibkhaaGreatDoor
open Go Go.Abs
set_option maxRecDepth 1000000
theorem inPlace0 : ((reach0.map Prod.fst).filterMap fun g => (Tryz.prog.funcs[g]?).bind fun fn => if fn.ours || fn.body.isNone || fn.name == "runtime.NumGoroutine" then some fn.name else none) = (Rows.runSamesRow.inPlace.drop 0).take 4 := by kernel_rfl
theorem inPlace1 : ((reach1.map Prod.fst).filterMap fun g => (Tryz.prog.funcs[g]?).bind fun fn => if fn.ours || fn.body.isNone || fn.name == "runtime.NumGoroutine" then some fn.name else none) = (Rows.runSamesRow.inPlace.drop 4).take 0 := by kernel_rfl
theorem inPlace2 : ((reach2.map Prod.fst).filterMap fun g => (Tryz.prog.funcs[g]?).bind fun fn => if fn.ours || fn.body.isNone || fn.name == "runtime.NumGoroutine" then some fn.name else none) = (Rows.runSamesRow.inPlace.drop 4).take 0 := by kernel_rfl
theorem inPlace3 : ((reach3.map Prod.fst).filterMap fun g => (Tryz.prog.funcs[g]?).bind fun fn => if fn.ours || fn.body.isNone || fn.name == "runtime.NumGoroutine" then some fn.name else none) = (Rows.runSamesRow.inPlace.drop 4).take 18 := by kernel_rfl
theorem inPlace4 : ((reach4.map Prod.fst).filterMap fun g => (Tryz.prog.funcs[g]?).bind fun fn => if fn.ours || fn.body.isNone || fn.name == "runtime.NumGoroutine" then some fn.name else none) = (Rows.runSamesRow.inPlace.drop 22).take 7 := by kernel_rfl
theorem inPlace5 : ((reach5.map Prod.fst).filterMap fun g => (Tryz.prog.funcs[g]?).bind fun fn => if fn.ours || fn.body.isNone || fn.name == "runtime.NumGoroutine" then some fn.name else none) = (Rows.runSamesRow.inPlace.drop 29).take 0 := by kernel_rfl
theorem inPlace6 : ((reach6.map Prod.fst).filterMap fun g => (Tryz.prog.funcs[g]?).bind fun fn => if fn.ours || fn.body.isNone || fn.name == "runtime.NumGoroutine" then some fn.name else none) = (Rows.runSamesRow.inPlace.drop 29).take 2 := by kernel_rfl
theorem inPlace7 : ((reach7.map Prod.fst).filterMap fun g => (Tryz.prog.funcs[g]?).bind fun fn => if fn.ours || fn.body.isNone || fn.name == "runtime.NumGoroutine" then some fn.name else none) = (Rows.runSamesRow.inPlace.drop 31).take 0 := by kernel_rfl
theorem inPlace8 : ((reach8.map Prod.fst).filterMap fun g => (Tryz.prog.funcs[g]?).bind fun fn => if fn.ours || fn.body.isNone || fn.name == "runtime.NumGoroutine" then some fn.name else none) = (Rows.runSamesRow.inPlace.drop 31).take 0 := by kernel_rfl
theorem inPlace_eq : Tryz.prog.inPlace 3 = Rows.runSamesRow.inPlace := by
  unfold Program.inPlace
  rw [closure_eq]
  unfold reach
  simp only [List.map_append, List.filterMap_append]
  rw [inPlace0, inPlace1, inPlace2, inPlace3, inPlace4, inPlace5, inPlace6, inPlace7, inPlace8]
  kernel_rfl
theorem unf_at : ((Tryz.prog.funcs[37]?).any fun fn => match fn.body with | some c => c.unfollowed | none => entryCalls fn) = true := by kernel_rfl
theorem unf_mem : (reach.map Prod.fst).contains 37 = true := by kernel_rfl
theorem unfollowed_eq : Tryz.prog.unfollowed 3 = true := by
  unfold Program.unfollowed
  rw [closure_eq]
  exact List.any_eq_true.2 ⟨37, by simpa using List.contains_iff_mem.1 unf_mem, unf_at⟩
theorem recurses_eq : Tryz.prog.recurses 3 = true := by
  unfold Program.recurses
  rw [unfollowed_eq, Bool.true_or]
theorem glob0 : ((reach0.map Prod.fst).flatMap fun g => ((Tryz.prog.funcs[g]?).bind (·.body)).elim [] Code.globalsNamed) = [5, 6, 3, 1, 1, 1, 1, 2] := by kernel_rfl
theorem glob1 : ((reach1.map Prod.fst).flatMap fun g => ((Tryz.prog.funcs[g]?).bind (·.body)).elim [] Code.globalsNamed) = [7, 8, 9, 10, 11] := by kernel_rfl
theorem glob2 : ((reach2.map Prod.fst).flatMap fun g => ((Tryz.prog.funcs[g]?).bind (·.body)).elim [] Code.globalsNamed) = [4, 4, 4] := by kernel_rfl
theorem glob3 : ((reach3.map Prod.fst).flatMap fun g => ((Tryz.prog.funcs[g]?).bind (·.body)).elim [] Code.globalsNamed) = [] := by kernel_rfl
theorem glob4 : ((reach4.map Prod.fst).flatMap fun g => ((Tryz.prog.funcs[g]?).bind (·.body)).elim [] Code.globalsNamed) = [0] := by kernel_rfl
theorem glob5 : ((reach5.map Prod.fst).flatMap fun g => ((Tryz.prog.funcs[g]?).bind (·.body)).elim [] Code.globalsNamed) = [] := by kernel_rfl
theorem glob6 : ((reach6.map Prod.fst).flatMap fun g => ((Tryz.prog.funcs[g]?).bind (·.body)).elim [] Code.globalsNamed) = [] := by kernel_rfl
theorem glob7 : ((reach7.map Prod.fst).flatMap fun g => ((Tryz.prog.funcs[g]?).bind (·.body)).elim [] Code.globalsNamed) = [] := by kernel_rfl
theorem glob8 : ((reach8.map Prod.fst).flatMap fun g => ((Tryz.prog.funcs[g]?).bind (·.body)).elim [] Code.globalsNamed) = [] := by kernel_rfl
theorem entr0 : ((reach0.map Prod.fst).filterMap fun g => (Tryz.prog.funcs[g]?).bind fun fn => if fn.body.isNone then entryReads.lookup fn.name else none) = [Rows.runSamesRow.named.getD 10 default] := by kernel_rfl
theorem entr1 : ((reach1.map Prod.fst).filterMap fun g => (Tryz.prog.funcs[g]?).bind fun fn => if fn.body.isNone then entryReads.lookup fn.name else none) = [] := by kernel_rfl
theorem entr2 : ((reach2.map Prod.fst).filterMap fun g => (Tryz.prog.funcs[g]?).bind fun fn => if fn.body.isNone then entryReads.lookup fn.name else none) = [] := by kernel_rfl
theorem entr3 : ((reach3.map Prod.fst).filterMap fun g => (Tryz.prog.funcs[g]?).bind fun fn => if fn.body.isNone then entryReads.lookup fn.name else none) = [] := by kernel_rfl
theorem entr4 : ((reach4.map Prod.fst).filterMap fun g => (Tryz.prog.funcs[g]?).bind fun fn => if fn.body.isNone then entryReads.lookup fn.name else none) = [] := by kernel_rfl
theorem entr5 : ((reach5.map Prod.fst).filterMap fun g => (Tryz.prog.funcs[g]?).bind fun fn => if fn.body.isNone then entryReads.lookup fn.name else none) = [] := by kernel_rfl
theorem entr6 : ((reach6.map Prod.fst).filterMap fun g => (Tryz.prog.funcs[g]?).bind fun fn => if fn.body.isNone then entryReads.lookup fn.name else none) = [] := by kernel_rfl
theorem entr7 : ((reach7.map Prod.fst).filterMap fun g => (Tryz.prog.funcs[g]?).bind fun fn => if fn.body.isNone then entryReads.lookup fn.name else none) = [] := by kernel_rfl
theorem entr8 : ((reach8.map Prod.fst).filterMap fun g => (Tryz.prog.funcs[g]?).bind fun fn => if fn.body.isNone then entryReads.lookup fn.name else none) = [] := by kernel_rfl
theorem varsNamed_eq : Tryz.prog.varsNamed 3 = Rows.runSamesRow.named := by
  unfold Program.varsNamed
  rw [closure_eq]
  unfold reach
  simp only [List.map_append, List.filterMap_append, List.flatMap_append]
  rw [glob0, glob1, glob2, glob3, glob4, glob5, glob6, glob7, glob8, entr0, entr1, entr2, entr3, entr4, entr5, entr6, entr7, entr8]
  kernel_rfl
theorem norows : (Tryz.prog.funcs.toList.all fun fn => (Stop.rowOf fn).isNone) = true := by kernel_rfl
theorem stops_eq : Tryz.prog.stops = [] := (stops_none norows).1
theorem knobs_eq : Tryz.prog.stopKnobs = [] := (stops_none norows).2.1
theorem heard : Tryz.prog.stopsHeard = true := (stops_none norows).2.2
theorem nogoes : (Tryz.prog.funcs.toList.all fun g => !g.goes) = true := by kernel_rfl
theorem funcNamed_eq : Tryz.prog.funcNamed Rows.runSamesRow.func = some 3 := funcNamed_of (by kernel_rfl)
theorem goes_eq : Tryz.prog.goesAt .entering Rows.runSamesRow.func = false := by
  unfold Program.goesAt Program.goesFrom
  rw [funcNamed_eq, Option.any_some, goes_none nogoes]
  rfl
theorem nolater : Tryz.prog.laysLater = false := laysLater_of (by kernel_rfl)
theorem noreflect : Tryz.prog.bearsReflect = false := by kernel_rfl
theorem mayEnter_eq : Tryz.prog.mayEnter = true := by
  unfold Program.mayEnter
  rw [nolater, noreflect]
  kernel_rfl
theorem make_eq : Tryz.prog.make = some .cut := by kernel_rfl
theorem lifted_eq : Tryz.prog.liftsFinal = false := by kernel_rfl
theorem ntypes : Tryz.prog.types.size = 851 := by kernel_rfl
theorem fine0 : ((List.range' 0 100).all (rowFine Tryz.prog)) = true := by kernel_rfl
theorem fine1 : ((List.range' 100 100).all (rowFine Tryz.prog)) = true := by kernel_rfl
theorem fine2 : ((List.range' 200 100).all (rowFine Tryz.prog)) = true := by kernel_rfl
theorem fine3 : ((List.range' 300 100).all (rowFine Tryz.prog)) = true := by kernel_rfl
theorem fine4 : ((List.range' 400 100).all (rowFine Tryz.prog)) = true := by kernel_rfl
theorem fine5 : ((List.range' 500 100).all (rowFine Tryz.prog)) = true := by kernel_rfl
theorem fine6 : ((List.range' 600 100).all (rowFine Tryz.prog)) = true := by kernel_rfl
theorem fine7 : ((List.range' 700 100).all (rowFine Tryz.prog)) = true := by kernel_rfl
theorem fine8 : ((List.range' 800 51).all (rowFine Tryz.prog)) = true := by kernel_rfl
theorem fine : ((List.range' 0 851).all (rowFine Tryz.prog)) = true := all_cat (a := 0) (n := 800) (m := 51) (all_cat (a := 0) (n := 700) (m := 100) (all_cat (a := 0) (n := 600) (m := 100) (all_cat (a := 0) (n := 500) (m := 100) (all_cat (a := 0) (n := 400) (m := 100) (all_cat (a := 0) (n := 300) (m := 100) (all_cat (a := 0) (n := 200) (m := 100) (all_cat (a := 0) (n := 100) (m := 100) (fine0) fine1) fine2) fine3) fine4) fine5) fine6) fine7) fine8
theorem gtypes : (Tryz.prog.globals.toList.all fun g => decide (g.type < 851)) = true := by kernel_rfl
theorem ptypes : (Tryz.prog.funcs.toList.all fun f => f.params.toList.all fun t => decide (t < 851)) = true := by kernel_rfl
theorem laidOut_eq : laidOutB Tryz.prog = true := laidOut_of ntypes fine gtypes ptypes
theorem rowed0 : ((List.range' 0 100).all (fun t => match Tryz.prog.underlying t with | some (.map _ e) => decide (e < 851) | _ => true)) = true := by kernel_rfl
theorem rowed1 : ((List.range' 100 100).all (fun t => match Tryz.prog.underlying t with | some (.map _ e) => decide (e < 851) | _ => true)) = true := by kernel_rfl
theorem rowed2 : ((List.range' 200 100).all (fun t => match Tryz.prog.underlying t with | some (.map _ e) => decide (e < 851) | _ => true)) = true := by kernel_rfl
theorem rowed3 : ((List.range' 300 100).all (fun t => match Tryz.prog.underlying t with | some (.map _ e) => decide (e < 851) | _ => true)) = true := by kernel_rfl
theorem rowed4 : ((List.range' 400 100).all (fun t => match Tryz.prog.underlying t with | some (.map _ e) => decide (e < 851) | _ => true)) = true := by kernel_rfl
theorem rowed5 : ((List.range' 500 100).all (fun t => match Tryz.prog.underlying t with | some (.map _ e) => decide (e < 851) | _ => true)) = true := by kernel_rfl
theorem rowed6 : ((List.range' 600 100).all (fun t => match Tryz.prog.underlying t with | some (.map _ e) => decide (e < 851) | _ => true)) = true := by kernel_rfl
theorem rowed7 : ((List.range' 700 100).all (fun t => match Tryz.prog.underlying t with | some (.map _ e) => decide (e < 851) | _ => true)) = true := by kernel_rfl
theorem rowed8 : ((List.range' 800 51).all (fun t => match Tryz.prog.underlying t with | some (.map _ e) => decide (e < 851) | _ => true)) = true := by kernel_rfl
theorem rowed : ((List.range' 0 851).all (fun t => match Tryz.prog.underlying t with | some (.map _ e) => decide (e < 851) | _ => true)) = true := all_cat (a := 0) (n := 800) (m := 51) (all_cat (a := 0) (n := 700) (m := 100) (all_cat (a := 0) (n := 600) (m := 100) (all_cat (a := 0) (n := 500) (m := 100) (all_cat (a := 0) (n := 400) (m := 100) (all_cat (a := 0) (n := 300) (m := 100) (all_cat (a := 0) (n := 200) (m := 100) (all_cat (a := 0) (n := 100) (m := 100) (rowed0) rowed1) rowed2) rowed3) rowed4) rowed5) rowed6) rowed7) rowed8
theorem mapsRowed_eq : mapsRowed Tryz.prog = true := by
  unfold mapsRowed
  rw [ntypes]
  exact all_range rowed
theorem key_at : (match Tryz.prog.underlying 85 with | some (.map k _) => (match Tryz.prog.underlying k with | some (.array _ _) | some (.struct _) => false | _ => true) | _ => true) = false := by kernel_rfl
theorem plainKeys_eq : Tryz.prog.plainKeys = false := by
  unfold Program.plainKeys
  rw [List.all_eq_false]
  exact ⟨85, by rw [ntypes]; exact List.mem_range.2 (by decide), by rw [Bool.not_eq_true]; exact key_at⟩
end Go.Proofs.YtmfgdpgmdibkhaaGreatDoor
