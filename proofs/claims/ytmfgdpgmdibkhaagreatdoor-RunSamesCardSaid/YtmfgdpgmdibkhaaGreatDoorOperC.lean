/- RunSames (cabinetrylaw21): a part of the proof that the law's function answers true, whatever it is handed; its conditions are those of the given card. -/
import Derived.Test.YtmfgdpgmdibkhaaGreatDoorOperB
import Derived.Test.YtmfgdpgmdibkhaaGreatDoorSort
namespace Go.Proofs.YtmfgdpgmdibkhaaGreatDoor
open Go Go.Abs Go.Proofs
open Go.Sort (Holds putRow grow)
set_option maxRecDepth 1000000
theorem FnRun.of_sum {P : Program} {ng : Nat} {s : Sum} (h : SumOk P ng s) (hf : s.fits s.args s.A = true) : FnRun (ctx P ng) s.g s.args s.A s.v s.B := h _ _ hf
theorem okLev : SumOk Tryz.prog 13 sLev := sumO noSums runLev
theorem okCom : SumOk Tryz.prog 13 sCom := sumO noSums runCom
def isStr : AV → Bool
  | .str _ _ => true
  | _ => false
theorem isStr_ok {v : AV} (h : isStr v = true) : ∃ n l, v = .str n l := by
  cases v <;> simp [isStr] at h
  exact ⟨_, _, rfl⟩
def goodE (x : Ix × List Ent × Nat) : Bool := (x.2.1.all fun y => decide (y.2.2 < x.2.2)) && decide ((x.2.1.map (·.2.2)).Nodup) && x.2.1.all fun y => isStr y.2.1
theorem goodE_ok {x : Ix × List Ent × Nat} (h : goodE x = true) : (∀ y ∈ x.2.1, y.2.2 < x.2.2) ∧ (x.2.1.map (·.2.2)).Nodup ∧ ∀ y ∈ x.2.1, ∃ n l, y.2.1 = .str n l := by
  simp only [goodE, Bool.and_eq_true, List.all_eq_true, decide_eq_true_eq] at h
  exact ⟨h.1.1, h.1.2, fun y hy => isStr_ok (h.2 y hy)⟩
theorem good_ents : ents.all goodE = true := by kernel_rfl
def hasB (A : AW) (p : Ix × AObj) : Bool := match A.heap.get p.1 with
  | some o => eqObj o p.2
  | none => false
theorem hasB_ok {A : AW} {p : Ix × AObj} (h : hasB A p = true) : A.heap.get p.1 = some p.2 := by
  unfold hasB at h
  split at h
  · rename_i o ho; rw [ho, eqObj_eq h]
  · cases h
theorem has_ents : ents.objs.all (hasB sLev.B) = true := by kernel_rfl
theorem srt_ok : strs.mergeSort leB = srt := by
  have hp : strs.Perm srt := List.isPerm_iff.1 (by kernel_rfl)
  have hs : srt.Pairwise fun a b => leB a b = true := of_decide_eq_true (by kernel_rfl)
  rw [mergeSort_of_perm hp]
  exact List.mergeSort_of_pairwise hs
theorem fn71 : FnOk Tryz.prog 71 := ⟨_, Tryz.func71, by kernel_rfl, by kernel_rfl⟩
theorem sort71 : SortRun Tryz.prog 71 := fun blk off cap ss w hH hb hl => Tryz.slices_Sort_string blk off cap ss w hH hb hl
theorem ops_run : FnRun (ctx Tryz.prog 13) 351 [] ⟨.nil, ix 13⟩ sCom.v sCom.B :=
  opers_run (es := ents) (strs := strs) (srt := srt) (AL := sLev.B) Tryz.func351 name351 res351 nt351 body351 (by decide) OC351 CI351 CO351 (FnRun.of_sum okLev (by kernel_rfl))
    (fun p hp => hasB_ok (List.all_eq_true.1 has_ents p hp)) (fun x hx => goodE_ok (List.all_eq_true.1 good_ents x hx)) (by decide) (by decide) sort71 fn71 (by kernel_rfl) srt_ok (by simp [strs]) (FnRun.of_sum okCom (by kernel_rfl))
theorem okOps : SumOk Tryz.prog 13 sOps := SumOk.of_run ops_run
theorem okIsO : SumOk Tryz.prog 13 sIsO := sumO (fun s hs => by
  simp only [List.mem_singleton] at hs
  subst hs; exact okOps) runIsO
theorem isO_run (A : AW) : FnRun (ctx Tryz.prog 13) 290 [.str 1 [43]] A (.bool true) A :=
  (FnRun.of_sum okIsO (by kernel_rfl)).forget (fun u hu => by
    simp only [sIsO, List.mem_singleton] at hu
    subst hu; exact Plain.str _ _) (Plain.bool _) A
end Go.Proofs.YtmfgdpgmdibkhaaGreatDoor
