/- RunSames (cabinetrylaw21): a part of the proof that the law's function answers true, whatever it is handed; its conditions are those of the given card. -/
import Derived.Test.YtmfgdpgmdibkhaaGreatDoorTab
import Derived.ChangeShapes
import Derived.ChangeSlices
import Derived.WideShapes
import Derived.Carry
namespace Go.Proofs.YtmfgdpgmdibkhaaGreatDoor
open Go Go.Proofs Go.RowKit Go.ChangeShapes Go.WideShapes
set_option maxRecDepth 1000000
theorem cells3 : Tryz.prog.cellsOf 3 = 1 := by kernel_rfl
theorem cells22 : Tryz.prog.cellsOf 22 = 1 := by kernel_rfl
theorem cells9 : Tryz.prog.cellsOf 9 = 1 := by kernel_rfl
theorem cells24 : Tryz.prog.cellsOf 24 = 4 := by kernel_rfl
theorem under3 : Tryz.prog.underlying 3 = some (.int .i64) := by kernel_rfl
theorem under22 : Tryz.prog.underlying 22 = some (.slice 9) := by kernel_rfl
theorem under9 : Tryz.prog.underlying 9 = some .string := by kernel_rfl
theorem bytes9 : Tryz.prog.bytesOf 9 = 16 := by kernel_rfl
section
variable {H : Type} {enc : TypeId × Value → H} {w : World}
theorem texts_of {base fuel : Nat} {spare : Nat → Bool} {held : Bool} {c : Value} {x : DataW H × List MemPlace} (h : DataW.trod enc Tryz.prog w base spare held fuel 22 [c] = some x)
    (hwt : ∀ n ∈ x.1.weights Tryz.prog 22, n ≤ reachBytes) : ∃ p n k f, c = .slice p n k ∧ TextsV w p n f ∧ n ≤ 281474976710656 := by
  rcases DataW.trod_slice under22 h with ⟨hc, _⟩ | ⟨a, len, cap, elems, rest, m, rfl, hc, hx, _, _, _, hlen, hel, _, _⟩
  · exact ⟨none, 0, 0, fun _ => default, by simpa using hc, .inl rfl, by omega⟩
  · have hc' : c = .slice (some a) len cap := by simpa using hc
    subst hc'
    refine ⟨some a, len, cap, fun i => match w.cell? ⟨a.block, a.off + i, none⟩ with | some (.string s) => s | _ => default, rfl, ?_, ?_⟩
    · by_cases h0 : len = 0
      · exact .inl h0
      · have get : ∀ i, i < len → ∃ s, w.cell? (a.add i) = some (.string s) := by
          intro i hi
          have := hel i hi
          rw [cells9, Nat.mul_one] at this
          rw [List.getElem?_eq_getElem (by omega)] at this
          obtain ⟨cs, hcs, ht⟩ := Option.bind_eq_some_iff.1 this
          obtain ⟨s, rfl, _, _⟩ := DataW.trod_string under9 ht
          exact ⟨s, cell_of_cells?_one hcs⟩
        have hspot : a.spot = none := by
          obtain ⟨s, hs⟩ := get 0 (by omega)
          simp only [Addr.add, if_pos, World.cell?] at hs
          split at hs
          · split at hs
            · cases hs
            · rename_i e
              simpa using e
          · cases hs
        have ha : ∀ i, a.add i = ⟨a.block, a.off + i, none⟩ := by
          intro i
          unfold Addr.add
          split
          · rename_i e; subst e; cases a; simp_all
          · rfl
        refine .inr ⟨a.block, a.off, ?_, fun i hi => ?_⟩
        · cases a; simp_all
        · obtain ⟨s, hs⟩ := get i hi
          rw [ha] at hs
          simp only [hs]
    · have := hwt ((elems.length + rest.length) * 16) (by rw [hx]; simp [DataW.weights, under22, bytes9])
      unfold reachBytes at this
      omega
theorem outcome_of {base b : Nat} {spare : Nat → Bool} {held : Bool} {v : Value} {d : DataW H} {ps : List MemPlace} (hv : Value.okWide Tryz.prog w .any b 24 v) (h : DataW.Trod enc Tryz.prog w base spare held 24 v d ps)
    (hwt : ∀ n ∈ d.weights Tryz.prog 24, n ≤ reachBytes) : ∃ k y p n c f s, v = .agg #[.int .i64 k, .int .i64 y, .slice p n c, .string s] ∧ TextsV w p n f ∧ n ≤ 281474976710656 := by
  obtain ⟨cs, rfl, hsz⟩ := okWide_struct Tryz.underlying24 hv
  obtain ⟨fuel, ht⟩ := h
  rw [cells24] at hsz
  obtain ⟨l⟩ := cs
  simp only [Value.cells] at ht
  match l, hsz with
  | [c0, c1, c2, c3], _ =>
    obtain ⟨xs, n, rfl, hx, _, hlen, hf⟩ := DataW.trod_struct Tryz.underlying24 ht
    have h0 : DataW.trod enc Tryz.prog w base spare held n 3 (([c0, c1, c2, c3].drop 0).take (Tryz.prog.cellsOf 3)) = xs[0]? := hf 0 _ rfl
    have h1 : DataW.trod enc Tryz.prog w base spare held n 3 (([c0, c1, c2, c3].drop 1).take (Tryz.prog.cellsOf 3)) = xs[1]? := hf 1 _ rfl
    have h2 : DataW.trod enc Tryz.prog w base spare held n 22 (([c0, c1, c2, c3].drop 2).take (Tryz.prog.cellsOf 22)) = xs[2]? := hf 2 _ rfl
    have h3 : DataW.trod enc Tryz.prog w base spare held n 9 (([c0, c1, c2, c3].drop 3).take (Tryz.prog.cellsOf 9)) = xs[3]? := hf 3 _ rfl
    rw [cells3] at h0 h1
    rw [cells22] at h2
    rw [cells9] at h3
    match xs, hlen with
    | [x0, x1, x2, x3], _ =>
      obtain ⟨k, e0, _, _⟩ := DataW.trod_int under3 (show DataW.trod enc Tryz.prog w base spare held n 3 [c0] = some x0 from h0)
      obtain ⟨y, e1, _, _⟩ := DataW.trod_int under3 (show DataW.trod enc Tryz.prog w base spare held n 3 [c1] = some x1 from h1)
      obtain ⟨s, e3, _, _⟩ := DataW.trod_string under9 (show DataW.trod enc Tryz.prog w base spare held n 9 [c3] = some x3 from h3)
      obtain ⟨p, m, c, f, rfl, hT, hm⟩ := texts_of (show DataW.trod enc Tryz.prog w base spare held n 22 [c2] = some x2 from h2) (fun q hq => hwt q (by
        have hd : d = .agg [x0.1, x1.1, x2.1, x3.1] := by simpa using congrArg Prod.fst hx
        subst hd
        simp only [DataW.weights, Tryz.underlying24, DataW.weightsEach, List.map_cons, List.map_nil, List.mem_append]
        exact .inr (.inr (.inl hq))))
      simp only [List.cons.injEq, and_true] at e0 e1 e3
      subst e0; subst e1; subst e3
      exact ⟨k, y, p, m, c, f, s, rfl, hT, hm⟩
end
end Go.Proofs.YtmfgdpgmdibkhaaGreatDoor
