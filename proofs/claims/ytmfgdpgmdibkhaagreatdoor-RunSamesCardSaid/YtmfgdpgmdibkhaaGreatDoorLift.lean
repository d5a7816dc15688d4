/- RunSames (cabinetrylaw21): a part of the proof that the law's function answers true, whatever it is handed; its conditions are those of the given card. -/
import Derived.Test.YtmfgdpgmdibkhaaGreatDoorArgs
import Derived.Test.YtmfgdpgmdibkhaaGreatDoorLaid
import Derived.Test.YtmfgdpgmdibkhaaGreatDoorWit
import Derived.Test.YtmfgdpgmdibkhaaGreatDoorG3
import Derived.ProofKit
import Derived.Carry
import Derived.Stop.Joined
namespace Go.Proofs.YtmfgdpgmdibkhaaGreatDoor
open Go Go.Abs Go.RowKit Go.ChangeShapes Go.WideShapes
set_option maxRecDepth 1000000
theorem own : ownKnob Tryz.prog.godebug = none := by kernel_rfl
theorem no_init : Tryz.prog.inits.idxOf? 3 = none := by kernel_rfl
theorem read24 : Tryz.prog.readableRec 24 = true := by kernel_rfl
theorem under4 : Tryz.prog.underlying 4 = some .bool := by kernel_rfl
theorem res3 : Tryz.f3.resultTypes = #[4] := by kernel_rfl
section
variable {H : Type} {enc : TypeId × Value → H}
theorem contract (apart fresh handsOn : Bool) (W : World) (base : Nat) (args : Array Value) (ds gs : List (DataW H)) (before : List MemPlace)
    (hval0 : ∀ (j : Nat) t v, Tryz.f3.params[j]? = some t → args[j]? = some v → Value.okWide Tryz.prog W .any base t v)
    (hW : DataW.Whole enc Tryz.prog Tryz.f3.params.toList [] apart W args.toList ds gs before)
    (hwt : (DataW.weightsEach Tryz.prog (Tryz.f3.params.toList ++ []) (ds ++ gs)).all (· ≤ reachBytes) = true)
    (hL : laidMetH Tryz.prog Rows.runSamesRow.laid W) (hsh : W.ShapedOpen Tryz.prog) :
    Calls Tryz.prog 3 args W fun e W' => ∃ v, e = .returned v ∧ Rows.runSamesSpec.post enc Tryz.prog Tryz.f3 apart fresh handsOn false W args v W' := by
  have hval : ∀ (j : Nat) t v, Tryz.f3.params[j]? = some t → args[j]? = some v → Value.okWide Tryz.prog W .any base t v := hval0
  have hW' := hW
  obtain ⟨p, q, hA0, hV, rfl, _, _⟩ := hW
  have hA : DataW.TrodAll enc Tryz.prog W 0 (fun _ => true) true Tryz.f3.params.toList args.toList ds p := hA0
  rw [Tryz.params3] at hA hval
  rw [Tryz.params3] at hwt
  obtain ⟨v0, v1, d0, d1, p0, p1, rfl, rfl, rfl, h0, h1⟩ := trodAll_two hA
  obtain ⟨rfl, rfl⟩ := trodVars_none hV
  simp only [List.append_nil, DataW.weightsEach, List.all_append, Bool.and_eq_true] at hwt
  have w0 : ∀ n ∈ d0.weights Tryz.prog 24, n ≤ reachBytes := fun n hn => by simpa using List.all_eq_true.1 hwt.1 n hn
  have w1 : ∀ n ∈ d1.weights Tryz.prog 24, n ≤ reachBytes := fun n hn => by simpa using List.all_eq_true.1 hwt.2 n hn
  obtain ⟨k1, y1, a1, n1, c1, f1, s1, e1, t1, b1⟩ := outcome_of (hval 0 24 v0 rfl rfl) h0 w0
  obtain ⟨k2, y2, a2, n2, c2, f2, s2, e2, t2, b2⟩ := outcome_of (hval 1 24 v1 rfl rfl) h1 w1
  have hl0 : ∀ x ∈ p0, x.block < W.heap.size := fun x hx => by simpa using hW'.lt x (by simp [hx])
  have hl1 : ∀ x ∈ p1, x.block < W.heap.size := fun x hx => by simpa using hW'.lt x (by simp [hx])
  have go := runSames_walk k1 y1 a1 n1 c1 f1 s1 k2 y2 a2 n2 c2 f2 s2 W t1 t2 b1 b2 (knows hsh (tab_of_row hL))
  rw [← e1, ← e2] at go
  refine go.mono ?_
  rintro e W' ⟨rfl, hb⟩
  refine ⟨_, rfl, [d0, d1], [], p0 ++ p1 ++ [], [], p0 ++ (p1 ++ []), [], hW', ?_, ?_, rfl, hb.frame _, fun h => by cases h⟩
  · rw [res3]
    exact trodAll_mk1 (shut_bool under4 _)
  · rw [Tryz.params3]
    exact ⟨p0, p1 ++ [], Below.trod laidOut_eq read24 (by rw [ntypes]; decide) h0 hb hl0, ⟨p1, [], Below.trod laidOut_eq read24 (by rw [ntypes]; decide) h1 hb hl1, rfl, rfl⟩, rfl⟩
noncomputable def out0 : Value := .agg #[.int .i64 0, .int .i64 0, .slice none 0 0, .string ⟨#[]⟩]
theorem wit_shaped (os : Os) : ((wit1 os).forCall (fun _ _ => 0) ⟨#[], #[out0, out0], []⟩).Shaped Tryz.prog := World.shaped_of_ZipB (by kernel_rfl) (by kernel_rfl)
theorem wit_ok (os : Os) : Input.okWideB Tryz.prog ((wit1 os).forCall (fun _ _ => 0) ⟨#[], #[out0, out0], []⟩) 3 ⟨#[], #[out0, out0], []⟩ = true := by kernel_rfl
theorem wit_pre (os : Os) : Rows.runSamesSpec.preB enc Tryz.prog Tryz.f3 [] false ((wit1 os).forCall (fun _ _ => 0) ⟨#[], #[out0, out0], []⟩).memory #[out0, out0] 8 = true := by kernel_rfl
theorem wit_sized (os : Os) : Rows.runSamesSpec.sizedB enc Tryz.prog Tryz.f3 false ((wit1 os).forCall (fun _ _ => 0) ⟨#[], #[out0, out0], []⟩).memory #[out0, out0] 8 = true := by kernel_rfl
end
end Go.Proofs.YtmfgdpgmdibkhaaGreatDoor
