/- RunSames (cabinetrylaw21): a part of the proof that the law's function answers true, whatever it is handed; its conditions are those of the given card. -/
import Derived.Test.YtmfgdpgmdibkhaaGreatDoorTexts
import Derived.BigGuard
import Derived.BigGuardPart
import Derived.WalkKit
import Derived.WalkSpells
namespace Go.Proofs.YtmfgdpgmdibkhaaGreatDoor
open Go Go.Proofs Go.RowKit
set_option maxRecDepth 1000000
theorem TextsV.alloc {w : World} {p : Option Addr} {N : Nat} {f : Nat → ByteArray} (h : TextsV w p N f) (O : Obj) : TextsV (w.alloc O) p N f := by
  rcases h with h | ⟨b, o, hp, h⟩
  · exact .inl h
  · refine .inr ⟨b, o, hp, fun i hi => ?_⟩
    have := h i hi
    simp only [World.cell?] at this ⊢
    cases hO : w.heap[b]? with
    | none => simp [hO] at this
    | some O' =>
      have hlt := (Array.getElem?_eq_some_iff.1 hO).1
      have : (w.alloc O).heap[b]? = w.heap[b]? := by
        simp only [World.alloc]
        rw [Array.getElem?_push, if_neg (by omega)]
      rw [this]; assumption
structure Outcome where
  k : Int
  y : Int
  p : Option Addr
  n : Nat
  c : Nat
  f : Nat → ByteArray
  v : ByteArray
def Outcome.val (o : Outcome) : Value := .agg #[.int .i64 o.k, .int .i64 o.y, .slice o.p o.n o.c, .string o.v]
def Outcome.ok (w : World) (o : Outcome) : Prop := TextsV w o.p o.n o.f ∧ o.n ≤ 281474976710656
def Outcome.same (a b : Outcome) : Prop := a.k = b.k ∧ a.y = b.y ∧ (a.n = b.n ∧ ∀ i, i < a.n → a.f i = b.f i) ∧ a.v = b.v
theorem Below.later {B : Nat} {a w : World} (h : Below B a w) (n : Nat) : Below B a (w.drewN n) := ⟨h.os, h.tape, h.output, h.size, h.block⟩
theorem below2 (w : World) (O O' : Obj) (n : Nat) : Below w.heap.size w (((w.alloc O).alloc O').drewN n) := by
  repeat' (first | exact Below.refl _ _ | refine Below.later ?_ _ | refine Below.alloc ?_ (by simp <;> omega) _)
theorem below20 (w : World) (O O' : Obj) : Below w.heap.size w ((w.alloc O).alloc O') := by
  repeat' (first | exact Below.refl _ _ | refine Below.alloc ?_ (by simp <;> omega) _)
set_option maxHeartbeats 2000000 in
theorem same5 (k1 y1 : Int) (p1 : Option Addr) (n1 c1 : Nat) (f1 : Nat → ByteArray) (v1 : ByteArray) (k2 y2 : Int) (p2 : Option Addr) (n2 c2 : Nat) (f2 : Nat → ByteArray) (v2 : ByteArray) (w : World) (h1 : TextsV w p1 n1 f1) (h2 : TextsV w p2 n2 f2) (hn1 : n1 ≤ 281474976710656) (hn2 : n2 ≤ 281474976710656) :
    Calls Tryz.prog 5 #[.agg #[.int .i64 k1, .int .i64 y1, .slice p1 n1 c1, .string v1], .agg #[.int .i64 k2, .int .i64 y2, .slice p2 n2 c2, .string v2]] w fun e w' =>
      (∃ b, e = .returned (.bool b) ∧ (b = true ↔ k1 = k2 ∧ y1 = y2 ∧ (n1 = n2 ∧ ∀ i, i < n1 → f1 i = f2 i) ∧ v1 = v2)) ∧ Below w.heap.size w w' := by
  have H1 : Hid (TextsV w p1 n1 f1) := h1
  have H2 : Hid (TextsV w p2 n2 f2) := h2
  have B1 : Hid (n1 ≤ 281474976710656) := hn1
  have B2 : Hid (n2 ≤ 281474976710656) := hn2
  clear h1 h2 hn1 hn2
  cases hk : (k1 == k2)
  · have HK : Hid (k1 ≠ k2) := (by simpa using hk : k1 ≠ k2)
    go_enter Tryz.func5, Tryz.ntmps5
    go_wp2
    go_ret
    exact ⟨⟨_, rfl, by simp [show k1 ≠ k2 from HK]⟩, below20 _ _ _⟩
  · have HK : Hid (k1 = k2) := (by simpa using hk : k1 = k2)
    cases hy : (y1 == y2)
    · have HY : Hid (y1 ≠ y2) := (by simpa using hy : y1 ≠ y2)
      go_enter Tryz.func5, Tryz.ntmps5
      go_wp2
      go_ret
      exact ⟨⟨_, rfl, by simp [show y1 ≠ y2 from HY]⟩, below20 _ _ _⟩
    · have HY : Hid (y1 = y2) := (by simpa using hy : y1 = y2)
      have HV : Hid ((v1.toList == v2.toList) = true ↔ v1 = v2) := ⟨eq_of_toList, fun e => by rw [e]; simp⟩
      go_enter Tryz.func5, Tryz.ntmps5
      go_wp2_with (go_at_call 11; refine (slicesEqual _ _ _ _ _ _ f1 f2 _ ((H1.out.alloc _).alloc _) ((H2.out.alloc _).alloc _) B1.out B2.out).mono ?_; rintro e w' ⟨⟨b, rfl, hb⟩, n, rfl⟩; obtain ⟨HB, _⟩ : Hid (b = true ↔ n1 = n2 ∧ ∀ i, i < n1 → f1 i = f2 i) ∧ True := ⟨hb, trivial⟩; clear hb)
      all_goals
        go_ret
        refine ⟨⟨_, rfl, ?_⟩, below2 _ _ _ _⟩
        have h1 : k1 = k2 := HK
        have h2 : y1 = y2 := HY
        have h3 : b = true ↔ n1 = n2 ∧ ∀ i, i < n1 → f1 i = f2 i := HB
        have h4 : (v1.toList == v2.toList) = true ↔ v1 = v2 := HV
        rw [← h3, ← h4]
        cases b <;> simp_all
set_option maxHeartbeats 2000000 in
theorem same6 (k1 y1 : Int) (p1 : Option Addr) (n1 c1 : Nat) (f1 : Nat → ByteArray) (v1 : ByteArray) (k2 y2 : Int) (p2 : Option Addr) (n2 c2 : Nat) (f2 : Nat → ByteArray) (v2 : ByteArray) (w : World) (h1 : TextsV w p1 n1 f1) (h2 : TextsV w p2 n2 f2) (hn1 : n1 ≤ 281474976710656) (hn2 : n2 ≤ 281474976710656) :
    Calls Tryz.prog 6 #[.agg #[.int .i64 k1, .int .i64 y1, .slice p1 n1 c1, .string v1], .agg #[.int .i64 k2, .int .i64 y2, .slice p2 n2 c2, .string v2]] w fun e w' =>
      (∃ b, e = .returned (.bool b) ∧ (b = true ↔ k1 = k2 ∧ y1 = y2 ∧ (n1 = n2 ∧ ∀ i, i < n1 → f1 i = f2 i) ∧ v1 = v2)) ∧ Below w.heap.size w w' := by
  have H1 : Hid (TextsV w p1 n1 f1) := h1
  have H2 : Hid (TextsV w p2 n2 f2) := h2
  have B1 : Hid (n1 ≤ 281474976710656) := hn1
  have B2 : Hid (n2 ≤ 281474976710656) := hn2
  clear h1 h2 hn1 hn2
  cases hk : (k1 == k2)
  · have HK : Hid (k1 ≠ k2) := (by simpa using hk : k1 ≠ k2)
    go_enter Tryz.func6, Tryz.ntmps6
    go_wp2
    go_ret
    exact ⟨⟨_, rfl, by simp [show k1 ≠ k2 from HK]⟩, below20 _ _ _⟩
  · have HK : Hid (k1 = k2) := (by simpa using hk : k1 = k2)
    cases hy : (y1 == y2)
    · have HY : Hid (y1 ≠ y2) := (by simpa using hy : y1 ≠ y2)
      go_enter Tryz.func6, Tryz.ntmps6
      go_wp2
      go_ret
      exact ⟨⟨_, rfl, by simp [show y1 ≠ y2 from HY]⟩, below20 _ _ _⟩
    · have HY : Hid (y1 = y2) := (by simpa using hy : y1 = y2)
      cases hv : (v1.toList == v2.toList)
      · have HV : Hid (v1 ≠ v2) := ne_of_toList hv
        go_enter Tryz.func6, Tryz.ntmps6
        go_wp2
        go_ret
        exact ⟨⟨_, rfl, by simp [show v1 ≠ v2 from HV]⟩, below20 _ _ _⟩
      · have HV : Hid (v1 = v2) := eq_of_toList hv
        go_enter Tryz.func6, Tryz.ntmps6
        go_wp2_with (go_at_call 10; refine (sameTexts _ _ _ _ _ _ f1 f2 _ ((H1.out.alloc _).alloc _) ((H2.out.alloc _).alloc _) B1.out B2.out).mono ?_; rintro e w' ⟨⟨b, rfl, hb⟩, n, rfl⟩; obtain ⟨HB, _⟩ : Hid (b = true ↔ n1 = n2 ∧ ∀ i, i < n1 → f1 i = f2 i) ∧ True := ⟨hb, trivial⟩; clear hb)
        go_ret
        refine ⟨⟨_, rfl, ?_⟩, below2 _ _ _ _⟩
        have h1 : k1 = k2 := HK
        have h2 : y1 = y2 := HY
        have h3 : b = true ↔ n1 = n2 ∧ ∀ i, i < n1 → f1 i = f2 i := HB
        have h4 : v1 = v2 := HV
        rw [← h3]
        simp [h1, h2, h4]
end Go.Proofs.YtmfgdpgmdibkhaaGreatDoor
