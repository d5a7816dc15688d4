/- RunSames (cabinetrylaw21): a part of the proof that the law's function answers true, whatever it is handed; its conditions are those of the given card. -/
import Derived.Test.YtmfgdpgmdibkhaaGreatDoorKnown
import Derived.Test.YtmfgdpgmdibkhaaGreatDoorG3
import Derived.Lib.LaidTab
namespace Go.Proofs.YtmfgdpgmdibkhaaGreatDoor
open Go Go.Abs Go.Abs.Tabs Go.Proofs
set_option maxRecDepth 1000000
def spTab : List Int := (List.range 256).map fun i => if (9 ≤ i ∧ i ≤ 13) ∨ i = 32 then 1 else 0
theorem sp_eq : sp = .cells (Go.Abs.setRow .nil 0 (spTab.map fun z => .int .u8 z)) 256 60 true := by kernel_rfl
theorem A0_eq : A0 = ⟨T.set (some sp) (ix 1) .nil, ix 13⟩ := by kernel_rfl
theorem name1 : Tryz.prog.globalNamed "strings.asciiSpace" = some 1 := by kernel_rfl
theorem ng13 : Tryz.prog.globals.size = 13 := by kernel_rfl
theorem rows13 : ((List.range 13).all fun g => (((begin Tryz.prog (fun _ _ => 0) default).world.heap[g]?).bind Obj.row?).isSome) = true := by kernel_rfl
theorem row1 : (((begin Tryz.prog (fun _ _ => 0) default).world.heap[1]?).bind Obj.row?).map (·.2) = some 60 := by kernel_rfl
theorem start_rel {w : World} (hsh : w.ShapedOpen Tryz.prog) (htab : Lib.TabIs Tryz.prog w "strings.asciiSpace" .u8 spTab) : WRel (ctx Tryz.prog 13) (sig0 13 w) A0 w := by
  have hall : ∀ g, g < 13 → ∃ cs t, w.heap[g]? = some (.cells cs t) ∧ (g = 1 → t = 60) := by
    intro g hg
    have h1 := List.all_eq_true.1 rows13 g (by simpa using hg)
    obtain ⟨⟨zero, t⟩, hz⟩ := Option.isSome_iff_exists.1 h1
    obtain ⟨cs, hcs, _⟩ := hsh.1 g zero t (by rw [ng13]; exact hg) hz
    refine ⟨cs, t, hcs, fun e => ?_⟩
    subst e
    have h2 := row1
    rw [hz] at h2
    simpa using h2
  have h0 : WRel (ctx Tryz.prog 13) (sig0 13 w) ⟨.nil, ix 13⟩ w := WRel.start fun g hg => by
    obtain ⟨cs, t, h, _⟩ := hall g hg
    exact (Array.getElem?_eq_some_iff.1 h).1
  obtain ⟨cs, t, hcs, ht⟩ := hall 1 (by decide)
  obtain rfl := ht rfl
  have hv : w.var? Tryz.prog "strings.asciiSpace" = some cs := by
    simp only [World.var?, name1, Option.bind_some, hcs]
  have htab : w.var? Tryz.prog "strings.asciiSpace" = some (spTab.map fun z => Value.int .u8 z).toArray := htab
  rw [hv] at htab
  obtain rfl := Option.some.inj htab
  rw [A0_eq, sp_eq]
  refine h0.know (c := 1) (h0.glob 1 (by decide)) hcs (ORel.ints (by kernel_rfl)) fun a' o' h => ?_
  simp at h
theorem known_true {w : World} (hsh : w.ShapedOpen Tryz.prog) (htab : Lib.TabIs Tryz.prog w "strings.asciiSpace" .u8 spTab) : Calls Tryz.prog 4 #[] w fun e w' => e = .returned (.bool true) ∧ w.heap.size ≤ w'.heap.size ∧ (∀ c, c < w.heap.size → w'.heap[c]? = w.heap[c]?) ∧ w'.os = w.os ∧ w'.output = w.output ∧ w'.tape = w.tape := by
  have hst := start_rel hsh htab
  refine (known_calls hst).mono ?_
  rintro e w' ⟨rfl, σ', A', hE, hsp⟩
  refine ⟨rfl, hE.keeps.size, fun c hc => ?_, hE.keeps.os, hE.keeps.output, hE.keeps.tape⟩
  by_cases hc1 : c = 1
  · subst hc1
    have hg : sig0 13 w (ix 1) = some 1 := hst.glob 1 (by decide)
    have e1 : (Ix.o .e) = ix 1 := by kernel_rfl
    have h0 : A0.heap.get (ix 1) = some sp := by rw [A0_eq]; exact T.get_set_same _ _ _
    obtain ⟨c1, O1, hc1, hO1, hr1⟩ := hst.live _ _ h0
    rw [hg] at hc1; cases hc1
    rw [e1] at hsp
    obtain ⟨c2, O2, hc2, hO2, hr2⟩ := hE.rel.live _ _ hsp
    rw [hE.le.at_ _ _ hg] at hc2; cases hc2
    rw [hO1, hO2]
    have s1 := fun cs e fr => hst.size (ix 1) 1 cs e fr hg
    have s2 := fun cs e fr => hE.rel.size (ix 1) 1 cs e fr (hE.le.at_ _ _ hg)
    have s3 := hE.le.sz _ _ hg
    have h256 : (sig0 13 w).sz 1 = 256 := by
      obtain ⟨cs1, hv⟩ : ∃ cs1, O1 = .cells cs1 60 (0, 0) := by
        rw [sp_eq] at hr1
        cases hr1 with
        | cells hn1 hk1 ht1 hcl1 => obtain rfl := hcl1 rfl; exact ⟨_, rfl⟩
      subst hv
      rw [s1 _ _ _ hO1]
      have hv : w.var? Tryz.prog "strings.asciiSpace" = some cs1 := by simp only [World.var?, name1, Option.bind_some, hO1]
      have htab : w.var? Tryz.prog "strings.asciiSpace" = some (spTab.map fun z => Value.int .u8 z).toArray := htab
      rw [hv] at htab
      obtain rfl := Option.some.inj htab
      simp [spTab]
    rw [sp_eq] at hr1 hr2
    rw [ORel.ints_inv hr1 (by kernel_rfl) fun cs e fr hh => (by rw [← h256, s1 cs e fr (hh ▸ hO1)]), ORel.ints_inv hr2 (by kernel_rfl) fun cs e fr hh => (by rw [← h256, ← s3, s2 cs e fr (hh ▸ hO2)])]
  · refine hE.keeps.keep c hc ?_
    rintro ⟨a, o, ho, hac⟩
    rw [A0_eq] at ho
    simp only [T.get_set] at ho
    by_cases e : a = ix 1
    · subst e
      rw [hst.glob 1 (by decide)] at hac; cases hac; exact hc1 rfl
    · rw [if_neg e] at ho; simp at ho
end Go.Proofs.YtmfgdpgmdibkhaaGreatDoor
