/- RunSames (cabinetrylaw21): a part of the proof that the law's function answers true, whatever it is handed; its conditions are those of the given card. -/
import Derived.Test.YtmfgdpgmdibkhaaGreatDoorSame
namespace Go.Proofs.YtmfgdpgmdibkhaaGreatDoor
open Go Go.Proofs Go.RowKit
set_option maxRecDepth 1000000
theorem Below.less {B C : Nat} {a w : World} (h : Below C a w) (hB : B ≤ C) : Below B a w := ⟨h.os, h.tape, h.output, h.size, fun b hb => h.block b (by omega)⟩
theorem below22 {w w' : World} {O O' : Obj} (h : Below (w.heap.size + 1 + 1) ((w.alloc O).alloc O') w') : Below w.heap.size w w' := (below20 w O O').trans (Below.less h (by omega))
theorem cell_below {B : Nat} {w w' : World} {b o : Nat} (h : Below B w w') (hb : b < B) : w'.cell? ⟨b, o, none⟩ = w.cell? ⟨b, o, none⟩ := by
  simp only [World.cell?, h.block b hb]
theorem cell_first (w : World) (cs : Array Value) (e : TypeId) (O : Obj) (o : Nat) : ((w.alloc (.cells cs e)).alloc O).cell? ⟨w.heap.size, o, none⟩ = cs[o]? := by
  have h : ((w.alloc (.cells cs e)).alloc O).heap[w.heap.size]? = some (.cells cs e) := by
    simp only [World.alloc]
    rw [Array.getElem?_push, if_neg (by simp), Array.getElem?_push, if_pos rfl]
  simp only [World.cell?, h]
  simp
theorem cell_second (w : World) (cs : Array Value) (e : TypeId) (O : Obj) (o : Nat) : ((w.alloc O).alloc (.cells cs e)).cell? ⟨w.heap.size + 1, o, none⟩ = cs[o]? := by
  have h : ((w.alloc O).alloc (.cells cs e)).heap[w.heap.size + 1]? = some (.cells cs e) := by
    simp only [World.alloc]
    rw [Array.getElem?_push, if_pos (by simp)]
  simp only [World.cell?, h]
  simp
set_option maxHeartbeats 2000000 in
theorem alike7 (k1 y1 : Int) (p1 : Option Addr) (n1 c1 : Nat) (f1 : Nat → ByteArray) (v1 : ByteArray) (k2 y2 : Int) (p2 : Option Addr) (n2 c2 : Nat) (f2 : Nat → ByteArray) (v2 : ByteArray) (w : World) (h1 : TextsV w p1 n1 f1) (h2 : TextsV w p2 n2 f2) (hn1 : n1 ≤ 281474976710656) (hn2 : n2 ≤ 281474976710656) :
    Calls Tryz.prog 7 #[.agg #[.int .i64 k1, .int .i64 y1, .slice p1 n1 c1, .string v1], .agg #[.int .i64 k2, .int .i64 y2, .slice p2 n2 c2, .string v2]] w fun e w' =>
      (∃ b, e = .returned (.bool b) ∧ (b = true ↔ k1 = 2 ∨ k2 = 2 ∨ (k1 = k2 ∧ y1 = y2 ∧ (n1 = n2 ∧ ∀ i, i < n1 → f1 i = f2 i) ∧ v1 = v2))) ∧ Below w.heap.size w w' := by
  have H1 : Hid (TextsV w p1 n1 f1) := h1
  have H2 : Hid (TextsV w p2 n2 f2) := h2
  have B1 : Hid (n1 ≤ 281474976710656) := hn1
  have B2 : Hid (n2 ≤ 281474976710656) := hn2
  clear h1 h2 hn1 hn2
  cases hk : (k1 == 2)
  · have HK : Hid (k1 ≠ 2) := (by simpa using hk : k1 ≠ 2)
    cases hy : (k2 == 2)
    · have HY : Hid (k2 ≠ 2) := (by simpa using hy : k2 ≠ 2)
      go_enter Tryz.func7, Tryz.ntmps7
      go_wp2_with (go_at_call 5; refine (same5 k1 y1 p1 n1 c1 f1 v1 k2 y2 p2 n2 c2 f2 v2 _ ((H1.out.alloc _).alloc _) ((H2.out.alloc _).alloc _) B1.out B2.out).mono ?_; rintro e w' ⟨⟨b, rfl, hb⟩, hw⟩; obtain ⟨HB, HW⟩ : Hid (b = true ↔ k1 = k2 ∧ y1 = y2 ∧ (n1 = n2 ∧ ∀ i, i < n1 → f1 i = f2 i) ∧ v1 = v2) ∧ Hid (Below (w.heap.size + 1 + 1) ((w.alloc _).alloc _) w') := ⟨hb, (by simpa [Hid] using hw)⟩; clear hb hw)
      go_ret
      refine ⟨⟨_, rfl, ?_⟩, below22 HW⟩
      have h1 : k1 ≠ 2 := HK
      have h2 : k2 ≠ 2 := HY
      rw [HB.out]
      simp only [h1, h2, false_or]
    · have HY : Hid (k2 = 2) := (by simpa using hy : k2 = 2)
      go_enter Tryz.func7, Tryz.ntmps7
      go_wp2
      go_ret
      exact ⟨⟨_, rfl, by simp [show k2 = 2 from HY]⟩, below20 _ _ _⟩
  · have HK : Hid (k1 = 2) := (by simpa using hk : k1 = 2)
    go_enter Tryz.func7, Tryz.ntmps7
    go_wp2
    go_ret
    exact ⟨⟨_, rfl, by simp [show k1 = 2 from HK]⟩, below20 _ _ _⟩
set_option maxHeartbeats 2000000 in
theorem alike8 (k1 y1 : Int) (p1 : Option Addr) (n1 c1 : Nat) (f1 : Nat → ByteArray) (v1 : ByteArray) (k2 y2 : Int) (p2 : Option Addr) (n2 c2 : Nat) (f2 : Nat → ByteArray) (v2 : ByteArray) (w : World) (h1 : TextsV w p1 n1 f1) (h2 : TextsV w p2 n2 f2) (hn1 : n1 ≤ 281474976710656) (hn2 : n2 ≤ 281474976710656) :
    Calls Tryz.prog 8 #[.agg #[.int .i64 k1, .int .i64 y1, .slice p1 n1 c1, .string v1], .agg #[.int .i64 k2, .int .i64 y2, .slice p2 n2 c2, .string v2]] w fun e w' =>
      (∃ b, e = .returned (.bool b) ∧ (b = true ↔ k1 = 2 ∨ k2 = 2 ∨ (k1 = k2 ∧ y1 = y2 ∧ (n1 = n2 ∧ ∀ i, i < n1 → f1 i = f2 i) ∧ v1 = v2))) ∧ Below w.heap.size w w' := by
  have H1 : Hid (TextsV w p1 n1 f1) := h1
  have H2 : Hid (TextsV w p2 n2 f2) := h2
  have B1 : Hid (n1 ≤ 281474976710656) := hn1
  have B2 : Hid (n2 ≤ 281474976710656) := hn2
  clear h1 h2 hn1 hn2
  go_enter Tryz.func8, Tryz.ntmps8
  go_wp2_with (go_at_call 6; fail)
  go_at_call 6
  refine (same6 k1 y1 p1 n1 c1 f1 v1 k2 y2 p2 n2 c2 f2 v2 _ ((H1.out.alloc _).alloc _) ((H2.out.alloc _).alloc _) B1.out B2.out).mono ?_
  rintro e w' ⟨⟨b, rfl, hb⟩, hw⟩
  have hw : Below (w.heap.size + 1 + 1) ((w.alloc (.cells #[.int .i64 k1, .int .i64 y1, .slice p1 n1 c1, .string v1] 24)).alloc (.cells #[.int .i64 k2, .int .i64 y2, .slice p2 n2 c2, .string v2] 24)) w' := by simpa using hw
  have HB : Hid (b = true ↔ k1 = k2 ∧ y1 = y2 ∧ (n1 = n2 ∧ ∀ i, i < n1 → f1 i = f2 i) ∧ v1 = v2) := hb
  have HW : Hid (Below w.heap.size w w') := below22 hw
  have e1 : w'.cell? ⟨w.heap.size, 0, none⟩ = some (.int .i64 k1) := (cell_below hw (by omega)).trans (cell_first _ _ _ _ _)
  have e2 : w'.cell? ⟨w.heap.size + 1, 0, none⟩ = some (.int .i64 k2) := (cell_below hw (by omega)).trans (cell_second _ _ _ _ _)
  clear hb hw
  cases b
  · cases hk : (k1 == 2)
    · have HK : Hid (k1 ≠ 2) := (by simpa using hk : k1 ≠ 2)
      go_wp2
      go_ret
      refine ⟨⟨_, rfl, ?_⟩, HW⟩
      have h1 : k1 ≠ 2 := HK
      have h3 := HB.out
      simp only [Bool.false_eq_true, false_iff] at h3
      simp [h1, h3]
    · have HK : Hid (k1 = 2) := (by simpa using hk : k1 = 2)
      go_wp2
      go_ret
      exact ⟨⟨_, rfl, by simp [show k1 = 2 from HK]⟩, HW⟩
  · go_wp2
    go_ret
    refine ⟨⟨_, rfl, ?_⟩, HW⟩
    have h3 := HB.out
    simp only [true_iff] at h3
    exact ⟨fun _ => .inr (.inr h3), fun _ => rfl⟩
end Go.Proofs.YtmfgdpgmdibkhaaGreatDoor
