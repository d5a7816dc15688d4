/- RunSames (cabinetrylaw21): a part of the proof that the law's function answers true, whatever it is handed; its conditions are those of the given card. -/
import Derived.Test.YtmfgdpgmdibkhaaGreatDoorReg
namespace Go.Proofs.YtmfgdpgmdibkhaaGreatDoor
open Go Go.Proofs Go.RowKit
set_option maxRecDepth 1000000
variable {w : World} {a1 a2 : Array Value} {q r : Bool} {s : Nat → Bool} {a : Act} {w' : World}
theorem dep12 {i j : Nat} (hdep : ∀ e ∈ (og i).after, Region.binds .any e = true → s e.on = true) (h : ((og i).after.toList.any fun e => Region.binds .any e && Nat.beq e.on j) = true) : s j = true := by
  obtain ⟨e, he, h⟩ := List.any_eq_true.1 h
  simp only [Bool.and_eq_true] at h
  have := Nat.eq_of_beq_eq_true h.2
  rw [← this]
  exact hdep e (by simpa using he) h.1
theorem Inv12.guard (I : Inv12 w a1 a2 q r s a w') (j : Nat) {d : Nat} (hj : j < 20) (hs : s j = true) (hd : D12[j]? = some d) (hdst : (og j).dst = some d) (hv : (E12 (.agg a1) (.agg a2) q r)[j]? = some (.bool true)) : yielded g12 a.tmps j = some true := by
  have h := I.at_ j d hd hs
  rw [hv] at h
  simp only [yielded, og_get hj, Option.bind_some, hdst, h]
theorem want_none {o : Oper} {y : Nat → Option Bool} (h : o.guard = none) : Region.wanted o y = true := by simp [Region.wanted, h]
theorem want_some {o : Oper} {y : Nat → Option Bool} {j : Nat} (h : o.guard = some (j, true)) (hy : y j = some true) : Region.wanted o y = true := by simp [Region.wanted, h, hy]
theorem load_box {ev : Operand → Value} {o : Oper} {t b : Nat} {x0 x1 x2 x3 : Value} {w' : World} (ho : o.op = .load 24 (.tmp t)) (he : ev (.tmp t) = .pointer (some ⟨b, 0, none⟩)) (h : ∀ i, w'.cell? ⟨b, i, none⟩ = (#[x0, x1, x2, x3] : Array Value)[i]?) :
    (execOp ev o).run Tryz.prog w' = .ok (.value (.agg #[x0, x1, x2, x3])) w' := by
  have c0 := h 0
  have c1 := h 1
  have c2 := h 2
  have c3 := h 3
  simp only [List.getElem?_toArray, List.getElem?_cons_zero, List.getElem?_cons_succ] at c0 c1 c2 c3
  clear h
  simp only [execOp, ho, he]
  go_simp
theorem move_slot {ev : Operand → Value} {o : Oper} {t : Nat} {v : Value} {w' : World} (ho : o.op = .move (.tmp t)) (he : ev (.tmp t) = v) : (execOp ev o).run Tryz.prog w' = .ok (.value v) w' := by
  subst he
  simp only [execOp, ho]; rfl
theorem assign_slot {ev : Operand → Value} {o : Oper} {t : Nat} {v : Value} {w' : World} (ho : o.op = .assign (.tmp t)) (he : ev (.tmp t) = v) : (execOp ev o).run Tryz.prog w' = .ok (.value v) w' := by
  subst he
  simp only [execOp, ho]; rfl
theorem eql_bool {ev : Operand → Value} {o : Oper} {t u : Nat} {b : Bool} {w' : World} (ho : o.op = .binOp .eql 4 (.tmp t) (.tmp u) 4) (he : ev (.tmp t) = .bool b) (he' : ev (.tmp u) = .bool b) : (execOp ev o).run Tryz.prog w' = .ok (.value (.bool true)) w' := by
  simp only [execOp, ho, he, he']
  go_simp
theorem pick_slot {ev : Operand → Value} {o : Oper} {t u : Nat} {w' : World} (ho : o.op = .pick (.tmp t) (.tmp u) (.const (.bool false))) (he : ev (.tmp t) = .bool true) (he' : ev (.tmp u) = .bool true) : (execOp ev o).run Tryz.prog w' = .ok (.value (.bool true)) w' := by
  simp only [execOp, ho, he, he']
  go_simp
theorem call_slot {ev : Operand → Value} {o : Oper} {c : Call} {f : FuncId} {w' : World} (ho : o.op = .call c) (hc : c.callee = .value (.func f)) (hf : ev (.func f) = .func (.func f) #[] #[]) {fn : Func} (hfn : Tryz.prog.funcs[f]? = some fn) (hn : (fn.name == "runtime.NumGoroutine") = false) (hb : fn.body.isNone = false) :
    (execOp ev o).run Tryz.prog w' = .ok (.enter f (c.args.map ev)) w' := by
  have h1 : fn.name ≠ "runtime.NumGoroutine" := by simpa using hn
  have h2 : fn.body ≠ none := fun e => by rw [e] at hb; cases hb
  simp only [execOp, ho, resolve, hc, hf, Deferred.ofValue, Sem.run_bind, Sem.run_pure, Result.andThen_ok, invoke]
  simp [callFunc, hfn, h1, h2]
end Go.Proofs.YtmfgdpgmdibkhaaGreatDoor
