/- RunSames (cabinetrylaw21): a part of the proof that the law's function answers true, whatever it is handed; its conditions are those of the given card. -/
import Derived.Test.YtmfgdpgmdibkhaaGreatDoorAlike
import Derived.Test.YtmfgdpgmdibkhaaGreatDoorG3
import Derived.KernelRfl
namespace Go.Proofs.YtmfgdpgmdibkhaaGreatDoor
open Go Go.Proofs Go.RowKit
set_option maxRecDepth 1000000
noncomputable def regs3 : Code → List (Array Oper)
  | .region _ ops _ => [ops]
  | .seq a b => regs3 a ++ regs3 b
  | .cond _ a b => regs3 a ++ regs3 b
  | .block _ c => regs3 c
  | .loop c => regs3 c
  | _ => []
noncomputable def g12 : Array Oper := match Tryz.f3.body with
  | some c => (regs3 c).getLastD #[]
  | none => #[]
noncomputable def og (i : Nat) : Oper := g12.getD i default
theorem g12_size : g12.size = 20 := by kernel_rfl
theorem og_get {i : Nat} (h : i < 20) : g12[i]? = some (og i) := by
  have h' : i < g12.size := by rw [g12_size]; exact h
  simp [og, Array.getD_eq_getD_getElem?, Array.getElem?_eq_getElem h']
def D12 : List Nat := [56, 57, 58, 59, 60, 61, 62, 63, 64, 65, 66, 67, 68, 69, 70, 71, 72, 73, 74, 4]
theorem dst12 : (List.range 20).map (fun i => (og i).dst) = D12.map some := by kernel_rfl
theorem back12 : ((List.range 20).all fun i => (og i).after.toList.all fun e => Nat.blt e.on i) = true := by kernel_rfl
def E12 (A B : Value) (q r : Bool) : List Value := [A, B, .bool q, A, B, .bool q, .bool true, .bool true, A, B, .bool r, A, B, .bool r, .bool true, .bool true, .bool true, .bool true, .bool true, .bool true]
structure Inv12 (w : World) (a1 a2 : Array Value) (q r : Bool) (s : Nat → Bool) (a : Act) (w' : World) : Prop where
  below : Below w.heap.size w w'
  size : w.heap.size + 1 + 1 ≤ w'.heap.size
  one : ∀ o, w'.cell? ⟨w.heap.size, o, none⟩ = a1[o]?
  two : ∀ o, w'.cell? ⟨w.heap.size + 1, o, none⟩ = a2[o]?
  n : a.tmps.size = 75
  dn : a.defers = []
  p : a.tmps[2]? = some (.pointer (some ⟨w.heap.size, 0, none⟩))
  p' : a.tmps[3]? = some (.pointer (some ⟨w.heap.size + 1, 0, none⟩))
  at_ : ∀ i d, D12[i]? = some d → s i = true → a.tmps[d]? = (E12 (.agg a1) (.agg a2) q r)[i]?
variable {w : World} {a1 a2 : Array Value} {q r : Bool} {s : Nat → Bool} {a : Act} {w' : World}
theorem D12_inj : ∀ i j d : Nat, D12[i]? = some d → D12[j]? = some d → i = j := by
  intro i j d h1 h2
  have hi : i < 20 := (List.getElem?_eq_some_iff.1 h1).1
  have hj : j < 20 := (List.getElem?_eq_some_iff.1 h2).1
  have : ∀ i < 20, ∀ j < 20, D12[i]? = D12[j]? → i = j := by decide
  exact this i hi j hj (h1.trans h2.symm)
theorem D12_low : ∀ i d : Nat, D12[i]? = some d → d ≠ 2 ∧ d ≠ 3 ∧ d < 75 := by
  intro i d h
  have hm := List.mem_of_getElem? h
  have : ∀ d ∈ D12, d ≠ 2 ∧ d ≠ 3 ∧ d < 75 := by decide
  exact this d hm
theorem Inv12.put (I : Inv12 w a1 a2 q r s a w') {i d : Nat} {v : Value} (hd : D12[i]? = some d) (hv : (E12 (.agg a1) (.agg a2) q r)[i]? = some v) {w'' : World} (hb : Below w'.heap.size w' w'') : Inv12 w a1 a2 q r (fun j => s j || j == i) (a.put (some d) v) w'' := by
  obtain ⟨h2, h3, h75⟩ := D12_low i d hd
  have hsz := I.size
  have hn := I.n
  refine ⟨I.below.trans (hb.mono (by omega)), Nat.le_trans I.size hb.size, fun o => (cell_below hb (by omega)).trans (I.one o), fun o => (cell_below hb (by omega)).trans (I.two o), ?_, I.dn, ?_, ?_, fun j e he hs => ?_⟩
  · show (a.tmps.setIfInBounds d v).size = 75
    simpa using hn
  · show (a.tmps.setIfInBounds d v)[2]? = _
    rw [Array.getElem?_setIfInBounds, if_neg h2]; exact I.p
  · show (a.tmps.setIfInBounds d v)[3]? = _
    rw [Array.getElem?_setIfInBounds, if_neg h3]; exact I.p'
  · show (a.tmps.setIfInBounds d v)[e]? = _
    rw [Array.getElem?_setIfInBounds]
    by_cases hde : d = e
    · subst hde
      have := D12_inj _ _ _ hd he
      subst this
      rw [if_pos rfl, if_pos (by omega), hv]
    · rw [if_neg hde]
      have hji : j ≠ i := fun h => by subst h; rw [hd] at he; cases he; exact hde rfl
      refine I.at_ j e he ?_
      simpa [hji] using hs
theorem Inv12.slot (I : Inv12 w a1 a2 q r s a w') (j : Nat) {d : Nat} {v : Value} (hs : s j = true) (hd : D12[j]? = some d) (hv : (E12 (.agg a1) (.agg a2) q r)[j]? = some v) : a.eval (.tmp d) = v := by
  have h := I.at_ j d hd hs
  show a.tmps.getD d undef = v
  rw [Array.getD_eq_getD_getElem?, h, hv]; rfl
theorem Inv12.value {Q : Exit → Act → World → Prop} {K : Act → World → Prop} (I : Inv12 w a1 a2 q r s a w') {i d : Nat} {v : Value} (hi : i < 20) (hd : D12[i]? = some d) (hdst : (og i).dst = some d) (hv : (E12 (.agg a1) (.agg a2) q r)[i]? = some v) (hw : Region.wanted (og i) (yielded g12 a.tmps) = true)
    (hrun : (execOp a.eval (og i)).run Tryz.prog w' = .ok (.value v) w') (hK : ∀ a' w'', Inv12 w a1 a2 q r (fun j => s j || j == i) a' w'' → K a' w'') : wpOp Tryz.prog g12 Q i K a w' := by
  simp only [wpOp, og_get hi, hw, if_true]
  refine .inl ?_
  show (og i).upon Tryz.prog a K Q _
  rw [hrun, Oper.upon_value, hdst]
  exact hK _ _ (I.put hd hv (Below.refl _ _))
theorem Inv12.call {Q : Exit → Act → World → Prop} {K : Act → World → Prop} (I : Inv12 w a1 a2 q r s a w') {i d : Nat} {v : Value} {f : FuncId} {args : Array Value} (hi : i < 20) (hd : D12[i]? = some d) (hdst : (og i).dst = some d) (hv : (E12 (.agg a1) (.agg a2) q r)[i]? = some v) (hw : Region.wanted (og i) (yielded g12 a.tmps) = true)
    (hrun : (execOp a.eval (og i)).run Tryz.prog w' = .ok (.enter f args) w') (hC : Calls Tryz.prog f args w' fun e w'' => e = .returned v ∧ Below w'.heap.size w' w'') (hK : ∀ a' w'', Inv12 w a1 a2 q r (fun j => s j || j == i) a' w'' → K a' w'') : wpOp Tryz.prog g12 Q i K a w' := by
  simp only [wpOp, og_get hi, hw, if_true]
  refine .inl ?_
  show (og i).upon Tryz.prog a K Q _
  rw [hrun, Oper.upon_enter]
  refine hC.mono ?_
  rintro e w'' ⟨rfl, hb⟩
  show K (a.put (og i).dst v) w''
  rw [hdst]
  exact hK _ _ (I.put hd hv hb)
end Go.Proofs.YtmfgdpgmdibkhaaGreatDoor
