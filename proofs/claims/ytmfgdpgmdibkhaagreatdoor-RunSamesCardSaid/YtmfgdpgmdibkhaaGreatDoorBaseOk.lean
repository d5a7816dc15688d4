/- RunSames (cabinetrylaw21): a part of the proof that the law's function answers true, whatever it is handed; its conditions are those of the given card. -/
import Derived.Test.YtmfgdpgmdibkhaaGreatDoorBase
import Derived.Test.YtmfgdpgmdibkhaaGreatDoorOperC
import Derived.RecoverIn
import Derived.Laws.Externs
namespace Go.Proofs.YtmfgdpgmdibkhaaGreatDoor
open Go Go.Abs Go.Abs.Tabs Go.Proofs
set_option maxRecDepth 1000000
theorem val_run {f : FuncId} {args : List AV} {A A' : AW} {v : AV} {e : Array Value → Sem Value} {P : Program} {ng : Nat} (hrun : ∀ args' w, (callFunc f args').run P w = ((e args').run P w).andThen fun v w' => .ok (.value v) w')
    (h : ∀ σ w (args' : Array Value), WRel (ctx P ng) σ A w → VsRel σ args args'.toList → Gives (ctx P ng) σ A w (e args') v A') : FnRun (ctx P ng) f args A v A' := by
  intro σ w args' hw ha
  obtain ⟨σ', w', v', hr, hE, hv⟩ := h σ w args' hw ha
  refine .inr ⟨v', σ', w', ?_, hE, hv⟩
  have hr : (e args').run P w = .ok v' w' := hr
  show (callFunc f args').run P w = _
  rw [hrun, hr]; rfl
theorem one_arg {σ : Sig} {x : AV} {args' : Array Value} (h : VsRel σ [x] args'.toList) : ∃ vx, args' = #[vx] ∧ VRel σ x vx := by
  obtain ⟨l⟩ := args'
  cases h with
  | cons h t => cases t; exact ⟨_, rfl, h⟩
theorem run337 (args : Array Value) (w : World) : (callFunc 337 args).run Tryz.prog w = ((Extern.AbiNoEscape.same args).run Tryz.prog w).andThen fun v w' => .ok (.value v) w' :=
  run_callFunc_extern Tryz.func337 (by kernel_rfl) (by kernel_rfl) (by kernel_rfl) (by kernel_rfl) args w
theorem run338 (args : Array Value) (w : World) : (callFunc 338 args).run Tryz.prog w = ((Extern.BytealgMakeNoZero.makeNoZero #[3] #[263] args).run Tryz.prog w).andThen fun v w' => .ok (.value v) w' :=
  run_callFunc_extern Tryz.func338 (by kernel_rfl) (by kernel_rfl) (by kernel_rfl) (by kernel_rfl) args w
theorem ut263 : Tryz.prog.underlying 263 = some (.slice 5) := by kernel_rfl
theorem base_ok (f : FuncId) (args : List AV) (A : AW) (k : AV → AW → Option AV) (r : AV) (_ : isB f = true) (h : b0 f args A k = some r) : ∃ v A', k v A' = some r ∧ FnRun (ctx Tryz.prog 13) f args A v A' := by
  unfold b0 at h
  split at h
  · rename_i x
    split at h
    · rename_i hf
      have hf := Nat.eq_of_beq_eq_true hf
      subst hf
      refine ⟨_, _, h, val_run run337 fun σ w args' hw ha => ?_⟩
      obtain ⟨vx, rfl, hx⟩ := one_arg ha
      exact ⟨σ, w, vx, rfl, Go.Abs.Ext.refl hw, hx⟩
    · split at h
      · rename_i hf
        have hf := Nat.eq_of_beq_eq_true hf
        subst hf
        obtain ⟨v, A', hk, hg⟩ := noZeroK_ok h
        refine ⟨v, A', hk, val_run run338 fun σ w args' hw ha => ?_⟩
        obtain ⟨vx, rfl, hx⟩ := one_arg ha
        exact hg (ctx Tryz.prog 13) σ w vx #[3] 263 hw hx ut263
      · split at h
        · rename_i hf
          simp only [Bool.and_eq_true] at hf
          have hf1 := Nat.eq_of_beq_eq_true hf.1
          have hf2 := beqF_eq _ _ _ hf.2
          subst hf1 hf2
          exact ⟨_, _, h, isO_run A⟩
        · cases h
  · cases h
noncomputable def r39 (i : Nat) : Array Oper := match Tryz.f39.body with
  | some c => (regs c).getD i #[]
  | none => #[]
noncomputable def o39 (i j : Nat) : Oper := (r39 i).getD j default
noncomputable def big39 : Code := match Tryz.f39.body with
  | some (.seq _ (.seq _ (.cond _ b _))) => b
  | _ => .skip
theorem body39 : Tryz.f39.body = some (.seq (.region 0 (r39 0) false) (.seq (.region 1 (r39 1) false) (.cond (.tmp 6) big39 .skip))) := by kernel_rfl
theorem n39 : (r39 0).size = 2 := by kernel_rfl
theorem o390 : (r39 0)[0]? = some (o39 0 0) := by kernel_rfl
theorem o391 : (r39 0)[1]? = some (o39 0 1) := by kernel_rfl
theorem g390 : (o39 0 0).guard = none := by kernel_rfl
theorem g391 : (o39 0 1).guard = none := by kernel_rfl
theorem d390 : (o39 0 0).dst = some 4 := by kernel_rfl
theorem d391 : (o39 0 1).dst = some 1 := by kernel_rfl
theorem p391 : (o39 0 1).op = .assign (.tmp 4) := by kernel_rfl
theorem x390 (ev : Operand → Value) (w : World) : (execOp ev (o39 0 0)).run Tryz.prog w = .ok .recover w := by kernel_rfl
theorem nt39 : Tryz.f39.ntmps = 17 := by kernel_rfl
theorem res39 : Tryz.f39.results = #[] := by kernel_rfl
theorem fn39 : FnOk Tryz.prog 39 := ⟨_, Tryz.func39, by kernel_rfl, by kernel_rfl⟩
def it39 : List Abs.Item := [⟨some (ix 5), none, .r (.mv (.t (ix 1)))⟩, ⟨some (ix 6), none, .r (.eq false true .iface (.t (ix 5)) (.c .niface))⟩]
theorem i391 : compItems Tryz.prog 13 17 (r39 1) (r39 1).toList = some it39 := by kernel_rfl
theorem k391 (A : AW) : regK (α := T AV × AW × List ADef) false (noC _) it39 (T.set (some .niface) (ix 1) .nil) A [] (fun tm A D => some (tm, A, D)) = some (T.set (some (.bool false)) (ix 6) (T.set (some .niface) (ix 5) (T.set (some .niface) (ix 1) .nil)), A, []) := by kernel_rfl
theorem dfn39 (args : List AV) (A : AW) : DfnRun (ctx Tryz.prog 13) 39 args A A := by
  refine ⟨fn39, fun σ w args' hw ha => ?_⟩
  refine callsDIn_of_wpSIn Tryz.func39 body39 trivial fun c₀ cs hu => ?_
  rw [nt39]
  have hsz : 17 ≤ (args' ++ Array.replicate (17 - args'.size) undef).size := by simp; omega
  generalize hat : (args' ++ Array.replicate (17 - args'.size) undef) = tm0 at hsz ⊢
  apply wpSIn_seq
  apply wpSIn_region
  rw [n39]
  show wpOpsSIn Fence.wide 0 Tryz.prog (r39 0) _ [0, 1] _ _ _
  have hrec : recoverD (c₀ :: cs) = none := by simp [recoverD, hu]
  simp only [wpOpsSIn, o390, o391, Region.wanted, g390, g391, if_true, x390, hrec]
  refine ⟨fun _ _ => trivial, fun _ _ => trivial, ?_⟩
  rw [d390, d391]
  have hev : (({ tmps := tm0, defers := [] } : Act).put (some 4) .nilIface).eval (.tmp 4) = .nilIface := eval_put (by show 4 < tm0.size; omega)
  have hrun : (execOp (({ tmps := tm0, defers := [] } : Act).put (some 4) .nilIface).eval (o39 0 1)).run Tryz.prog w = .ok (.value .nilIface) w := by
    simp only [execOp, p391, hev]; rfl
  rw [hrun]
  show (Code.seq _ _).wpSIn _ _ _ _ _ _ _
  have hds : ((({ tmps := tm0, defers := [] } : Act).put (some 4) .nilIface).put (some 1) .nilIface).defers = [] := rfl
  have har : AR σ (T.set (some .niface) (ix 1) .nil) [] 17 ((({ tmps := tm0, defers := [] } : Act).put (some 4) .nilIface).put (some 1) .nilIface) := by
    have h0 : AR σ .nil [] 17 (({ tmps := tm0, defers := [] } : Act).put (some 4) .nilIface) := ⟨fun x v hx => by simp at hx, by simpa [Act.put] using hsz, .nil⟩
    exact h0.putT (by decide) .niface
  generalize ((({ tmps := tm0, defers := [] } : Act).put (some 4) .nilIface).put (some 1) .nilIface) = a at har hds ⊢
  refine wpSIn_of_wpIn rfl (wpIn_seq ?_)
  obtain ⟨tm7, A7, D7, hk7, hreg⟩ := region_ok (X := ctx Tryz.prog 13) (id := 1) (rnd := false) noCall_ok i391 (k391 A)
  simp only [Option.some.injEq, Prod.mk.injEq] at hk7
  obtain ⟨rfl, rfl, rfl⟩ := hk7
  refine hreg none rfl σ w a _ hw har fun σ' w' a' hE hA => ?_
  show (Code.cond _ _ _).wpIn _ _ _ _ _ _
  refine wpIn_cond_false (hA.slot (T.get_set_same _ _ _)).bool_inv (wpIn_skip ?_)
  refine ⟨defers_nil hA.df, .returning, ?_, .tuple #[], ?_, rfl, _, σ', rfl, hE⟩
  · cases c₀; simp_all
  · simp [results, res39]
theorem dbase_ok (f : FuncId) (args : List AV) (A : AW) (k : AW → Option AV) (r : AV) (_ : isB f = true) (h : d0 f args A k = some r) : ∃ A', k A' = some r ∧ DfnRun (ctx Tryz.prog 13) f args A A' := by
  unfold d0 at h
  split at h
  · rename_i hf
    have hf := Nat.eq_of_beq_eq_true hf
    subst hf
    exact ⟨A, h, dfn39 args A⟩
  · cases h
theorem baseOk : BaseOk Tryz.prog 13 isB b0 d0 := ⟨base_ok, dbase_ok⟩
theorem tbOk : TabOk Tryz.prog 13 (tb []) := mkTab_ok (fun g f h => BT.get_ok tab_ok g f h) baseOk (fun _ h => by cases h)
end Go.Proofs.YtmfgdpgmdibkhaaGreatDoor
