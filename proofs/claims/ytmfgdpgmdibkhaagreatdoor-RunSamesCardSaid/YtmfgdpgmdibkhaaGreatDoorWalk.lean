/- RunSames (cabinetrylaw21): a part of the proof that the law's function answers true, whatever it is handed; its conditions are those of the given card. -/
import Derived.Test.YtmfgdpgmdibkhaaGreatDoorAlike
import Derived.Test.YtmfgdpgmdibkhaaGreatDoorReg3
namespace Go.Proofs.YtmfgdpgmdibkhaaGreatDoor
open Go Go.Proofs Go.RowKit
set_option maxRecDepth 1000000
def Knows (w : World) : Prop := ∀ w', Below w.heap.size w w' → Calls Tryz.prog 4 #[] w' fun e w'' => e = .returned (.bool true) ∧ Below w'.heap.size w' w''
theorem TextsV.cell {w : World} {p : Option Addr} {N : Nat} {f : Nat → ByteArray} (h : TextsV w p N f) {k : Nat} (hk : k < N) : ∃ b o, p = some ⟨b, o, none⟩ ∧ w.cell? ⟨b, o + k, none⟩ = some (.string (f k)) ∧ b < w.heap.size := by
  rcases h with h | ⟨b, o, hp, h⟩
  · omega
  · refine ⟨b, o, hp, h k hk, ?_⟩
    have := h k hk
    simp only [World.cell?] at this
    cases hO : w.heap[b]? with
    | none => simp [hO] at this
    | some O' => exact (Array.getElem?_eq_some_iff.1 hO).1
theorem TextsV.below {w w' : World} {p : Option Addr} {N : Nat} {f : Nat → ByteArray} (h : TextsV w p N f) (hb : Below w.heap.size w w') : TextsV w' p N f := by
  rcases h with h | ⟨b, o, hp, h⟩
  · exact .inl h
  · refine .inr ⟨b, o, hp, fun i hi => ?_⟩
    have h0 := h i hi
    have hlt : b < w.heap.size := by
      simp only [World.cell?] at h0
      cases hO : w.heap[b]? with
      | none => simp [hO] at h0
      | some O' => exact (Array.getElem?_eq_some_iff.1 hO).1
    rw [cell_below hb hlt]; exact h0
theorem e12 {Q : Exit → Act → World → Prop} {a : Act} {w : World} (X : Array Oper) (h : X = g12) (h' : (Code.region 12 g12 true).wp Tryz.prog Q a w) : (Code.region 12 X true).wp Tryz.prog Q a w := by
  subst h; exact h'
set_option maxHeartbeats 4000000 in
theorem runSames_walk (k1 y1 : Int) (p1 : Option Addr) (n1 c1 : Nat) (f1 : Nat → ByteArray) (v1 : ByteArray) (k2 y2 : Int) (p2 : Option Addr) (n2 c2 : Nat) (f2 : Nat → ByteArray) (v2 : ByteArray) (w : World) (h1 : TextsV w p1 n1 f1) (h2 : TextsV w p2 n2 f2) (hn1 : n1 ≤ 281474976710656) (hn2 : n2 ≤ 281474976710656) (hK : Knows w) :
    Calls Tryz.prog 3 #[.agg #[.int .i64 k1, .int .i64 y1, .slice p1 n1 c1, .string v1], .agg #[.int .i64 k2, .int .i64 y2, .slice p2 n2 c2, .string v2]] w fun e w' => e = .returned (.bool true) ∧ Below w.heap.size w w' := by
  have H1 : Hid (TextsV w p1 n1 f1) := h1
  have H2 : Hid (TextsV w p2 n2 f2) := h2
  have B1 : Hid (n1 ≤ 281474976710656) := hn1
  have B2 : Hid (n2 ≤ 281474976710656) := hn2
  have HK : Hid (Knows w) := hK
  clear h1 h2 hn1 hn2 hK
  go_enter Tryz.func3, Tryz.ntmps3
  go_wp2
  go_loop [5, 6] (fun t i => ∃ (z : Int) (k : Nat), t = .int .i64 z ∧ k ≤ n1 ∧ i = .int .i64 k) (fun _ i => n1 - (intOf i).toNat)
  case atStart => exact ⟨_, 0, rfl, Nat.zero_le _, rfl⟩
  case round =>
    obtain ⟨z, k, rfl, hk, rfl⟩ := hrel
    have hB := B1.out
    by_cases hlt : k < n1
    · obtain ⟨b, o, rfl, hc, hb⟩ := H1.out.cell hlt
      have hb1 : ¬ b = w.heap.size := by omega
      have hb2 : ¬ b = w.heap.size + 1 := by omega
      go_wp2
      go_round
      case rel => exact ⟨_, k + 1, rfl, by omega, by go_num⟩
      case measure => simp [intOf]; omega
    · go_wp2
      go_loop [5, 7] (fun t i => ∃ (z : Int) (k : Nat), t = .int .i64 z ∧ k ≤ n2 ∧ i = .int .i64 k) (fun _ i => n2 - (intOf i).toNat)
      case atStart => exact ⟨_, 0, rfl, Nat.zero_le _, rfl⟩
      case round =>
        clear hlt hk hB
        obtain ⟨z, m, rfl, hk, rfl⟩ := hrel
        have hB := B2.out
        by_cases hlt : m < n2
        · obtain ⟨b, o, rfl, hc, hb⟩ := H2.out.cell hlt
          have hb1 : ¬ b = w.heap.size := by omega
          have hb2 : ¬ b = w.heap.size + 1 := by omega
          go_wp2
          go_round
          case rel => exact ⟨_, m + 1, rfl, by omega, by go_num⟩
          case measure => simp [intOf]; omega
        · by_cases hz : 60000 < z
          · go_wp2_with (go_at_call 4; refine (HK.out _ (below20 _ _ _)).mono ?_; rintro e w' ⟨rfl, hw⟩; obtain ⟨HW, _⟩ : Hid (Below w.heap.size w w') ∧ True := ⟨below22 (by simpa using hw), trivial⟩; clear hw)
            go_ret
            exact ⟨rfl, HW⟩
          · go_wp2
            rename_i hret _
            obtain ⟨q, HQ⟩ : ∃ q : Bool, (q = true ↔ k1 = k2 ∧ y1 = y2 ∧ (n1 = n2 ∧ ∀ i, i < n1 → f1 i = f2 i) ∧ v1 = v2) := ⟨@decide _ (Classical.propDecidable _), @decide_eq_true_iff _ (Classical.propDecidable _)⟩
            obtain ⟨r, HR⟩ : ∃ r : Bool, (r = true ↔ k1 = 2 ∨ k2 = 2 ∨ (k1 = k2 ∧ y1 = y2 ∧ (n1 = n2 ∧ ∀ i, i < n1 → f1 i = f2 i) ∧ v1 = v2)) := ⟨@decide _ (Classical.propDecidable _), @decide_eq_true_iff _ (Classical.propDecidable _)⟩
            refine e12 _ (by kernel_rfl) ?_
            refine region12 (w := w) (x0 := .int .i64 k1) (x1 := .int .i64 y1) (x2 := .slice p1 n1 c1) (x3 := .string v1) (z0 := .int .i64 k2) (z1 := .int .i64 y2) (z2 := .slice p2 n2 c2) (z3 := .string v2) (q := q) (r := r) ?_ ?_ ?_
            · exact ⟨Below.later (below20 _ _ _) 1, (by show _ ≤ ((w.heap.push _).push _).size; simp), fun o => cell_first _ _ _ _ _, fun o => cell_second _ _ _ _ _, rfl, rfl, rfl, rfl, fun i d _ h => by cases h⟩
            · refine ⟨fun w' hb => ?_, fun w' hb => ?_, fun w' hb => ?_, fun w' hb => ?_, fun w' hb => HK.out w' hb⟩
              · refine (same5 k1 y1 p1 n1 c1 f1 v1 k2 y2 p2 n2 c2 f2 v2 w' (H1.out.below hb) (H2.out.below hb) B1.out B2.out).mono ?_
                rintro e w'' ⟨⟨b, rfl, h⟩, hw⟩
                exact ⟨by rw [Bool.eq_iff_iff.2 (h.trans HQ.symm)], hw⟩
              · refine (same6 k1 y1 p1 n1 c1 f1 v1 k2 y2 p2 n2 c2 f2 v2 w' (H1.out.below hb) (H2.out.below hb) B1.out B2.out).mono ?_
                rintro e w'' ⟨⟨b, rfl, h⟩, hw⟩
                exact ⟨by rw [Bool.eq_iff_iff.2 (h.trans HQ.symm)], hw⟩
              · refine (alike7 k1 y1 p1 n1 c1 f1 v1 k2 y2 p2 n2 c2 f2 v2 w' (H1.out.below hb) (H2.out.below hb) B1.out B2.out).mono ?_
                rintro e w'' ⟨⟨b, rfl, h⟩, hw⟩
                exact ⟨by rw [Bool.eq_iff_iff.2 (h.trans HR.symm)], hw⟩
              · refine (alike8 k1 y1 p1 n1 c1 f1 v1 k2 y2 p2 n2 c2 f2 v2 w' (H1.out.below hb) (H2.out.below hb) B1.out B2.out).mono ?_
                rintro e w'' ⟨⟨b, rfl, h⟩, hw⟩
                exact ⟨by rw [Bool.eq_iff_iff.2 (h.trans HR.symm)], hw⟩
            · intro a' w' h4 hd hb
              refine hret a' w' (wp_ret ?_)
              refine bodyPost_ret (v := .bool true) ?_ hd ⟨rfl, hb⟩
              have h4' : a'.tmps.getD 4 undef = .bool true := by rw [Array.getD_eq_getD_getElem?, h4]; rfl
              exact results_tmp Tryz.results3 _ _ _ |>.trans (by rw [h4'])
end Go.Proofs.YtmfgdpgmdibkhaaGreatDoor
