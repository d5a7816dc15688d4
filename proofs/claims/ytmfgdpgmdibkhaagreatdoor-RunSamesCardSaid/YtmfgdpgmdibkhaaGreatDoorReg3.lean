/- RunSames (cabinetrylaw21): a part of the proof that the law's function answers true, whatever it is handed; its conditions are those of the given card. -/
import Derived.Test.YtmfgdpgmdibkhaaGreatDoorReg2
namespace Go.Proofs.YtmfgdpgmdibkhaaGreatDoor
open Go Go.Proofs Go.RowKit
set_option maxRecDepth 1000000
variable {w : World} {x0 x1 x2 x3 z0 z1 z2 z3 : Value} {q r : Bool} {s : Nat → Bool} {a : Act} {w' : World} {Q : Exit → Act → World → Prop} {K : Act → World → Prop}
noncomputable def cg (i : Nat) : Call := match (og i).op with
  | .call c => c
  | _ => default
abbrev J (w : World) (x0 x1 x2 x3 z0 z1 z2 z3 : Value) (q r : Bool) (s : Nat → Bool) (a : Act) (w' : World) : Prop := Inv12 w #[x0, x1, x2, x3] #[z0, z1, z2, z3] q r s a w'
theorem J.e2 (I : J w x0 x1 x2 x3 z0 z1 z2 z3 q r s a w') : a.eval (.tmp 2) = .pointer (some ⟨w.heap.size, 0, none⟩) := by
  show a.tmps.getD 2 undef = _
  rw [Array.getD_eq_getD_getElem?, I.p]; rfl
theorem J.e3 (I : J w x0 x1 x2 x3 z0 z1 z2 z3 q r s a w') : a.eval (.tmp 3) = .pointer (some ⟨w.heap.size + 1, 0, none⟩) := by
  show a.tmps.getD 3 undef = _
  rw [Array.getD_eq_getD_getElem?, I.p']; rfl
structure Ways (w : World) (A B : Value) (q r : Bool) : Prop where
  c5 : ∀ w', Below w.heap.size w w' → Calls Tryz.prog 5 #[A, B] w' fun e w'' => e = .returned (.bool q) ∧ Below w'.heap.size w' w''
  c6 : ∀ w', Below w.heap.size w w' → Calls Tryz.prog 6 #[A, B] w' fun e w'' => e = .returned (.bool q) ∧ Below w'.heap.size w' w''
  c7 : ∀ w', Below w.heap.size w w' → Calls Tryz.prog 7 #[A, B] w' fun e w'' => e = .returned (.bool r) ∧ Below w'.heap.size w' w''
  c8 : ∀ w', Below w.heap.size w w' → Calls Tryz.prog 8 #[A, B] w' fun e w'' => e = .returned (.bool r) ∧ Below w'.heap.size w' w''
  c4 : ∀ w', Below w.heap.size w w' → Calls Tryz.prog 4 #[] w' fun e w'' => e = .returned (.bool true) ∧ Below w'.heap.size w' w''
theorem st0 (I : J w x0 x1 x2 x3 z0 z1 z2 z3 q r s a w') (C : Ways w (.agg #[x0, x1, x2, x3]) (.agg #[z0, z1, z2, z3]) q r) (hdep : ∀ e ∈ (og 0).after, Region.binds .any e = true → s e.on = true) (hK : ∀ a' w'', J w x0 x1 x2 x3 z0 z1 z2 z3 q r (fun j => s j || j == 0) a' w'' → K a' w'') : wpOp Tryz.prog g12 Q 0 K a w' :=
  I.value (by decide) rfl (by kernel_rfl) rfl (want_none (by kernel_rfl)) (load_box (by kernel_rfl) I.e2 I.one) hK
theorem st1 (I : J w x0 x1 x2 x3 z0 z1 z2 z3 q r s a w') (C : Ways w (.agg #[x0, x1, x2, x3]) (.agg #[z0, z1, z2, z3]) q r) (hdep : ∀ e ∈ (og 1).after, Region.binds .any e = true → s e.on = true) (hK : ∀ a' w'', J w x0 x1 x2 x3 z0 z1 z2 z3 q r (fun j => s j || j == 1) a' w'' → K a' w'') : wpOp Tryz.prog g12 Q 1 K a w' :=
  I.value (by decide) rfl (by kernel_rfl) rfl (want_none (by kernel_rfl)) (load_box (by kernel_rfl) I.e3 I.two) hK
theorem st2 (I : J w x0 x1 x2 x3 z0 z1 z2 z3 q r s a w') (C : Ways w (.agg #[x0, x1, x2, x3]) (.agg #[z0, z1, z2, z3]) q r) (hdep : ∀ e ∈ (og 2).after, Region.binds .any e = true → s e.on = true) (hK : ∀ a' w'', J w x0 x1 x2 x3 z0 z1 z2 z3 q r (fun j => s j || j == 2) a' w'' → K a' w'') : wpOp Tryz.prog g12 Q 2 K a w' :=
  I.call (f := 5) (args := #[.agg #[x0, x1, x2, x3], .agg #[z0, z1, z2, z3]]) (by decide) rfl (by kernel_rfl) rfl (want_none (by kernel_rfl)) ((call_slot (c := cg 2) (by kernel_rfl) (by kernel_rfl) rfl Tryz.func5 (by kernel_rfl) (by kernel_rfl)).trans (congrArg (fun x => Result.ok (Next.enter 5 x) w') (by rw [show (cg 2).args = #[.tmp 56, .tmp 57] from by kernel_rfl]; simp only [List.map_toArray, List.map_cons, List.map_nil, (I.slot 0 (dep12 (j := 0) hdep (by kernel_rfl)) rfl rfl), (I.slot 1 (dep12 (j := 1) hdep (by kernel_rfl)) rfl rfl)]))) (C.c5 w' I.below) hK
theorem st3 (I : J w x0 x1 x2 x3 z0 z1 z2 z3 q r s a w') (C : Ways w (.agg #[x0, x1, x2, x3]) (.agg #[z0, z1, z2, z3]) q r) (hdep : ∀ e ∈ (og 3).after, Region.binds .any e = true → s e.on = true) (hK : ∀ a' w'', J w x0 x1 x2 x3 z0 z1 z2 z3 q r (fun j => s j || j == 3) a' w'' → K a' w'') : wpOp Tryz.prog g12 Q 3 K a w' :=
  I.value (by decide) rfl (by kernel_rfl) rfl (want_none (by kernel_rfl)) (load_box (by kernel_rfl) I.e2 I.one) hK
theorem st4 (I : J w x0 x1 x2 x3 z0 z1 z2 z3 q r s a w') (C : Ways w (.agg #[x0, x1, x2, x3]) (.agg #[z0, z1, z2, z3]) q r) (hdep : ∀ e ∈ (og 4).after, Region.binds .any e = true → s e.on = true) (hK : ∀ a' w'', J w x0 x1 x2 x3 z0 z1 z2 z3 q r (fun j => s j || j == 4) a' w'' → K a' w'') : wpOp Tryz.prog g12 Q 4 K a w' :=
  I.value (by decide) rfl (by kernel_rfl) rfl (want_none (by kernel_rfl)) (load_box (by kernel_rfl) I.e3 I.two) hK
theorem st5 (I : J w x0 x1 x2 x3 z0 z1 z2 z3 q r s a w') (C : Ways w (.agg #[x0, x1, x2, x3]) (.agg #[z0, z1, z2, z3]) q r) (hdep : ∀ e ∈ (og 5).after, Region.binds .any e = true → s e.on = true) (hK : ∀ a' w'', J w x0 x1 x2 x3 z0 z1 z2 z3 q r (fun j => s j || j == 5) a' w'' → K a' w'') : wpOp Tryz.prog g12 Q 5 K a w' :=
  I.call (f := 6) (args := #[.agg #[x0, x1, x2, x3], .agg #[z0, z1, z2, z3]]) (by decide) rfl (by kernel_rfl) rfl (want_none (by kernel_rfl)) ((call_slot (c := cg 5) (by kernel_rfl) (by kernel_rfl) rfl Tryz.func6 (by kernel_rfl) (by kernel_rfl)).trans (congrArg (fun x => Result.ok (Next.enter 6 x) w') (by rw [show (cg 5).args = #[.tmp 59, .tmp 60] from by kernel_rfl]; simp only [List.map_toArray, List.map_cons, List.map_nil, (I.slot 3 (dep12 (j := 3) hdep (by kernel_rfl)) rfl rfl), (I.slot 4 (dep12 (j := 4) hdep (by kernel_rfl)) rfl rfl)]))) (C.c6 w' I.below) hK
theorem st6 (I : J w x0 x1 x2 x3 z0 z1 z2 z3 q r s a w') (C : Ways w (.agg #[x0, x1, x2, x3]) (.agg #[z0, z1, z2, z3]) q r) (hdep : ∀ e ∈ (og 6).after, Region.binds .any e = true → s e.on = true) (hK : ∀ a' w'', J w x0 x1 x2 x3 z0 z1 z2 z3 q r (fun j => s j || j == 6) a' w'' → K a' w'') : wpOp Tryz.prog g12 Q 6 K a w' :=
  I.value (by decide) rfl (by kernel_rfl) rfl (want_none (by kernel_rfl)) (eql_bool (by kernel_rfl) (I.slot 2 (dep12 (j := 2) hdep (by kernel_rfl)) rfl rfl) (I.slot 5 (dep12 (j := 5) hdep (by kernel_rfl)) rfl rfl)) hK
theorem st7 (I : J w x0 x1 x2 x3 z0 z1 z2 z3 q r s a w') (C : Ways w (.agg #[x0, x1, x2, x3]) (.agg #[z0, z1, z2, z3]) q r) (hdep : ∀ e ∈ (og 7).after, Region.binds .any e = true → s e.on = true) (hK : ∀ a' w'', J w x0 x1 x2 x3 z0 z1 z2 z3 q r (fun j => s j || j == 7) a' w'' → K a' w'') : wpOp Tryz.prog g12 Q 7 K a w' :=
  I.value (by decide) rfl (by kernel_rfl) rfl (want_none (by kernel_rfl)) (move_slot (by kernel_rfl) (I.slot 6 (dep12 (j := 6) hdep (by kernel_rfl)) rfl rfl)) hK
theorem st8 (I : J w x0 x1 x2 x3 z0 z1 z2 z3 q r s a w') (C : Ways w (.agg #[x0, x1, x2, x3]) (.agg #[z0, z1, z2, z3]) q r) (hdep : ∀ e ∈ (og 8).after, Region.binds .any e = true → s e.on = true) (hK : ∀ a' w'', J w x0 x1 x2 x3 z0 z1 z2 z3 q r (fun j => s j || j == 8) a' w'' → K a' w'') : wpOp Tryz.prog g12 Q 8 K a w' :=
  I.value (by decide) rfl (by kernel_rfl) rfl (want_some (by kernel_rfl) (I.guard 7 (by decide) (dep12 (j := 7) hdep (by kernel_rfl)) rfl (by kernel_rfl) rfl)) (load_box (by kernel_rfl) I.e2 I.one) hK
theorem st9 (I : J w x0 x1 x2 x3 z0 z1 z2 z3 q r s a w') (C : Ways w (.agg #[x0, x1, x2, x3]) (.agg #[z0, z1, z2, z3]) q r) (hdep : ∀ e ∈ (og 9).after, Region.binds .any e = true → s e.on = true) (hK : ∀ a' w'', J w x0 x1 x2 x3 z0 z1 z2 z3 q r (fun j => s j || j == 9) a' w'' → K a' w'') : wpOp Tryz.prog g12 Q 9 K a w' :=
  I.value (by decide) rfl (by kernel_rfl) rfl (want_some (by kernel_rfl) (I.guard 7 (by decide) (dep12 (j := 7) hdep (by kernel_rfl)) rfl (by kernel_rfl) rfl)) (load_box (by kernel_rfl) I.e3 I.two) hK
theorem st10 (I : J w x0 x1 x2 x3 z0 z1 z2 z3 q r s a w') (C : Ways w (.agg #[x0, x1, x2, x3]) (.agg #[z0, z1, z2, z3]) q r) (hdep : ∀ e ∈ (og 10).after, Region.binds .any e = true → s e.on = true) (hK : ∀ a' w'', J w x0 x1 x2 x3 z0 z1 z2 z3 q r (fun j => s j || j == 10) a' w'' → K a' w'') : wpOp Tryz.prog g12 Q 10 K a w' :=
  I.call (f := 7) (args := #[.agg #[x0, x1, x2, x3], .agg #[z0, z1, z2, z3]]) (by decide) rfl (by kernel_rfl) rfl (want_some (by kernel_rfl) (I.guard 7 (by decide) (dep12 (j := 7) hdep (by kernel_rfl)) rfl (by kernel_rfl) rfl)) ((call_slot (c := cg 10) (by kernel_rfl) (by kernel_rfl) rfl Tryz.func7 (by kernel_rfl) (by kernel_rfl)).trans (congrArg (fun x => Result.ok (Next.enter 7 x) w') (by rw [show (cg 10).args = #[.tmp 64, .tmp 65] from by kernel_rfl]; simp only [List.map_toArray, List.map_cons, List.map_nil, (I.slot 8 (dep12 (j := 8) hdep (by kernel_rfl)) rfl rfl), (I.slot 9 (dep12 (j := 9) hdep (by kernel_rfl)) rfl rfl)]))) (C.c7 w' I.below) hK
theorem st11 (I : J w x0 x1 x2 x3 z0 z1 z2 z3 q r s a w') (C : Ways w (.agg #[x0, x1, x2, x3]) (.agg #[z0, z1, z2, z3]) q r) (hdep : ∀ e ∈ (og 11).after, Region.binds .any e = true → s e.on = true) (hK : ∀ a' w'', J w x0 x1 x2 x3 z0 z1 z2 z3 q r (fun j => s j || j == 11) a' w'' → K a' w'') : wpOp Tryz.prog g12 Q 11 K a w' :=
  I.value (by decide) rfl (by kernel_rfl) rfl (want_some (by kernel_rfl) (I.guard 7 (by decide) (dep12 (j := 7) hdep (by kernel_rfl)) rfl (by kernel_rfl) rfl)) (load_box (by kernel_rfl) I.e2 I.one) hK
theorem st12 (I : J w x0 x1 x2 x3 z0 z1 z2 z3 q r s a w') (C : Ways w (.agg #[x0, x1, x2, x3]) (.agg #[z0, z1, z2, z3]) q r) (hdep : ∀ e ∈ (og 12).after, Region.binds .any e = true → s e.on = true) (hK : ∀ a' w'', J w x0 x1 x2 x3 z0 z1 z2 z3 q r (fun j => s j || j == 12) a' w'' → K a' w'') : wpOp Tryz.prog g12 Q 12 K a w' :=
  I.value (by decide) rfl (by kernel_rfl) rfl (want_some (by kernel_rfl) (I.guard 7 (by decide) (dep12 (j := 7) hdep (by kernel_rfl)) rfl (by kernel_rfl) rfl)) (load_box (by kernel_rfl) I.e3 I.two) hK
theorem st13 (I : J w x0 x1 x2 x3 z0 z1 z2 z3 q r s a w') (C : Ways w (.agg #[x0, x1, x2, x3]) (.agg #[z0, z1, z2, z3]) q r) (hdep : ∀ e ∈ (og 13).after, Region.binds .any e = true → s e.on = true) (hK : ∀ a' w'', J w x0 x1 x2 x3 z0 z1 z2 z3 q r (fun j => s j || j == 13) a' w'' → K a' w'') : wpOp Tryz.prog g12 Q 13 K a w' :=
  I.call (f := 8) (args := #[.agg #[x0, x1, x2, x3], .agg #[z0, z1, z2, z3]]) (by decide) rfl (by kernel_rfl) rfl (want_some (by kernel_rfl) (I.guard 7 (by decide) (dep12 (j := 7) hdep (by kernel_rfl)) rfl (by kernel_rfl) rfl)) ((call_slot (c := cg 13) (by kernel_rfl) (by kernel_rfl) rfl Tryz.func8 (by kernel_rfl) (by kernel_rfl)).trans (congrArg (fun x => Result.ok (Next.enter 8 x) w') (by rw [show (cg 13).args = #[.tmp 67, .tmp 68] from by kernel_rfl]; simp only [List.map_toArray, List.map_cons, List.map_nil, (I.slot 11 (dep12 (j := 11) hdep (by kernel_rfl)) rfl rfl), (I.slot 12 (dep12 (j := 12) hdep (by kernel_rfl)) rfl rfl)]))) (C.c8 w' I.below) hK
theorem st14 (I : J w x0 x1 x2 x3 z0 z1 z2 z3 q r s a w') (C : Ways w (.agg #[x0, x1, x2, x3]) (.agg #[z0, z1, z2, z3]) q r) (hdep : ∀ e ∈ (og 14).after, Region.binds .any e = true → s e.on = true) (hK : ∀ a' w'', J w x0 x1 x2 x3 z0 z1 z2 z3 q r (fun j => s j || j == 14) a' w'' → K a' w'') : wpOp Tryz.prog g12 Q 14 K a w' :=
  I.value (by decide) rfl (by kernel_rfl) rfl (want_some (by kernel_rfl) (I.guard 7 (by decide) (dep12 (j := 7) hdep (by kernel_rfl)) rfl (by kernel_rfl) rfl)) (eql_bool (by kernel_rfl) (I.slot 10 (dep12 (j := 10) hdep (by kernel_rfl)) rfl rfl) (I.slot 13 (dep12 (j := 13) hdep (by kernel_rfl)) rfl rfl)) hK
theorem st15 (I : J w x0 x1 x2 x3 z0 z1 z2 z3 q r s a w') (C : Ways w (.agg #[x0, x1, x2, x3]) (.agg #[z0, z1, z2, z3]) q r) (hdep : ∀ e ∈ (og 15).after, Region.binds .any e = true → s e.on = true) (hK : ∀ a' w'', J w x0 x1 x2 x3 z0 z1 z2 z3 q r (fun j => s j || j == 15) a' w'' → K a' w'') : wpOp Tryz.prog g12 Q 15 K a w' :=
  I.value (by decide) rfl (by kernel_rfl) rfl (want_none (by kernel_rfl)) (pick_slot (by kernel_rfl) (I.slot 7 (dep12 (j := 7) hdep (by kernel_rfl)) rfl rfl) (I.slot 14 (dep12 (j := 14) hdep (by kernel_rfl)) rfl rfl)) hK
theorem st16 (I : J w x0 x1 x2 x3 z0 z1 z2 z3 q r s a w') (C : Ways w (.agg #[x0, x1, x2, x3]) (.agg #[z0, z1, z2, z3]) q r) (hdep : ∀ e ∈ (og 16).after, Region.binds .any e = true → s e.on = true) (hK : ∀ a' w'', J w x0 x1 x2 x3 z0 z1 z2 z3 q r (fun j => s j || j == 16) a' w'' → K a' w'') : wpOp Tryz.prog g12 Q 16 K a w' :=
  I.value (by decide) rfl (by kernel_rfl) rfl (want_none (by kernel_rfl)) (move_slot (by kernel_rfl) (I.slot 15 (dep12 (j := 15) hdep (by kernel_rfl)) rfl rfl)) hK
theorem st17 (I : J w x0 x1 x2 x3 z0 z1 z2 z3 q r s a w') (C : Ways w (.agg #[x0, x1, x2, x3]) (.agg #[z0, z1, z2, z3]) q r) (hdep : ∀ e ∈ (og 17).after, Region.binds .any e = true → s e.on = true) (hK : ∀ a' w'', J w x0 x1 x2 x3 z0 z1 z2 z3 q r (fun j => s j || j == 17) a' w'' → K a' w'') : wpOp Tryz.prog g12 Q 17 K a w' :=
  I.call (f := 4) (args := #[]) (by decide) rfl (by kernel_rfl) rfl (want_some (by kernel_rfl) (I.guard 16 (by decide) (dep12 (j := 16) hdep (by kernel_rfl)) rfl (by kernel_rfl) rfl)) ((call_slot (c := cg 17) (by kernel_rfl) (by kernel_rfl) rfl Tryz.func4 (by kernel_rfl) (by kernel_rfl)).trans (congrArg (fun x => Result.ok (Next.enter 4 x) w') (by rw [show (cg 17).args = #[] from by kernel_rfl]; simp))) (C.c4 w' I.below) hK
theorem st18 (I : J w x0 x1 x2 x3 z0 z1 z2 z3 q r s a w') (C : Ways w (.agg #[x0, x1, x2, x3]) (.agg #[z0, z1, z2, z3]) q r) (hdep : ∀ e ∈ (og 18).after, Region.binds .any e = true → s e.on = true) (hK : ∀ a' w'', J w x0 x1 x2 x3 z0 z1 z2 z3 q r (fun j => s j || j == 18) a' w'' → K a' w'') : wpOp Tryz.prog g12 Q 18 K a w' :=
  I.value (by decide) rfl (by kernel_rfl) rfl (want_none (by kernel_rfl)) (pick_slot (by kernel_rfl) (I.slot 16 (dep12 (j := 16) hdep (by kernel_rfl)) rfl rfl) (I.slot 17 (dep12 (j := 17) hdep (by kernel_rfl)) rfl rfl)) hK
theorem st19 (I : J w x0 x1 x2 x3 z0 z1 z2 z3 q r s a w') (C : Ways w (.agg #[x0, x1, x2, x3]) (.agg #[z0, z1, z2, z3]) q r) (hdep : ∀ e ∈ (og 19).after, Region.binds .any e = true → s e.on = true) (hK : ∀ a' w'', J w x0 x1 x2 x3 z0 z1 z2 z3 q r (fun j => s j || j == 19) a' w'' → K a' w'') : wpOp Tryz.prog g12 Q 19 K a w' :=
  I.value (by decide) rfl (by kernel_rfl) rfl (want_none (by kernel_rfl)) (assign_slot (by kernel_rfl) (I.slot 18 (dep12 (j := 18) hdep (by kernel_rfl)) rfl rfl)) hK
theorem mixed12 : Tryz.prog.follows .mixedOrders = true := by kernel_rfl
theorem region12 {a : Act} {w1 : World} (h0 : J w x0 x1 x2 x3 z0 z1 z2 z3 q r (fun _ => false) a { w1 with drawn := w1.drawn + 1 }) (C : Ways w (.agg #[x0, x1, x2, x3]) (.agg #[z0, z1, z2, z3]) q r)
    (hQ : ∀ a' w', a'.tmps[4]? = some (.bool true) → a'.defers = [] → Below w.heap.size w w' → Q .normal a' w') : (Code.region 12 g12 true).wp Tryz.prog Q a w1 := by
  refine wp_region_inv mixed12 (fun s a w' => J w x0 x1 x2 x3 z0 z1 z2 z3 q r s a w') h0 ?_ ?_ ?_
  · intro i o ho e he _
    have hi : i < 20 := by have := (Array.getElem?_eq_some_iff.1 ho).1; rwa [g12_size] at this
    rw [og_get hi] at ho; cases ho
    have h1 := List.all_eq_true.1 (List.all_eq_true.1 back12 i (by simpa using hi)) e (by simpa using he)
    exact Nat.le_of_ble_eq_true h1
  · intro s a w' i o K I ho _ hdep hK
    have hi : i < 20 := by have := (Array.getElem?_eq_some_iff.1 ho).1; rwa [g12_size] at this
    rw [og_get hi] at ho; cases ho
    match i, hi with
    | 0, _ => exact st0 I C hdep hK
    | 1, _ => exact st1 I C hdep hK
    | 2, _ => exact st2 I C hdep hK
    | 3, _ => exact st3 I C hdep hK
    | 4, _ => exact st4 I C hdep hK
    | 5, _ => exact st5 I C hdep hK
    | 6, _ => exact st6 I C hdep hK
    | 7, _ => exact st7 I C hdep hK
    | 8, _ => exact st8 I C hdep hK
    | 9, _ => exact st9 I C hdep hK
    | 10, _ => exact st10 I C hdep hK
    | 11, _ => exact st11 I C hdep hK
    | 12, _ => exact st12 I C hdep hK
    | 13, _ => exact st13 I C hdep hK
    | 14, _ => exact st14 I C hdep hK
    | 15, _ => exact st15 I C hdep hK
    | 16, _ => exact st16 I C hdep hK
    | 17, _ => exact st17 I C hdep hK
    | 18, _ => exact st18 I C hdep hK
    | 19, _ => exact st19 I C hdep hK
    | n + 20, h => omega
  · intro s a w' I hall
    exact hQ a w' (I.at_ 19 4 rfl (hall 19 (by rw [g12_size]; decide))) I.dn I.below
end Go.Proofs.YtmfgdpgmdibkhaaGreatDoor
