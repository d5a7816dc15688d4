/- RunSames (cabinetrylaw21): a part of the proof that the law's function answers true, whatever it is handed; its conditions are those of the given card. -/
import Derived.Test.YtmfgdpgmdibkhaaGreatDoorProg
import Derived.Tactics
import Derived.Tactics2
import Derived.Deep.QuietTactic
import Derived.BigQuiet
import Derived.Deep.RegionWith
import Derived.Below
import Derived.Laws.Strings
namespace Go.Proofs.YtmfgdpgmdibkhaaGreatDoor
open Go Go.Proofs Go.RowKit
set_option maxRecDepth 1000000
theorem eq_of_toList {x y : ByteArray} (h : (x.toList == y.toList) = true) : x = y := by
  have h := eq_of_beq h
  rw [ByteArray.toList_eq, ByteArray.toList_eq] at h
  cases x; cases y
  congr 1
  exact Array.toList_inj.1 h
theorem ne_of_toList {x y : ByteArray} (h : (x.toList == y.toList) = false) : x ≠ y := fun e => by
  subst e; simp at h
def Texts (w : World) (b o : Nat) (N : Nat) (f : Nat → ByteArray) : Prop := ∀ i, i < N → w.cell? ⟨b, o + i, none⟩ = some (.string (f i))
def intOf : Value → Int
  | .int _ n => n
  | _ => 0
set_option maxHeartbeats 1000000 in
theorem texts10 (N : Nat) (fa fb : Nat → ByteArray) (ba oa ca bb ob cb : Nat) (w : World) (ha : Texts w ba oa N fa) (hb : Texts w bb ob N fb) (hm : N ≤ 281474976710656) :
    Calls Tryz.prog 10 #[.slice (some ⟨ba, oa, none⟩) N ca, .slice (some ⟨bb, ob, none⟩) N cb] w fun e w' => (∃ b, e = .returned (.bool b) ∧ (b = true ↔ ∀ i, i < N → fa i = fb i)) ∧ ∃ n, w' = w.drewN n := by
  have HA : Hid (Texts w ba oa N fa) := ha
  have HB : Hid (Texts w bb ob N fb) := hb
  clear ha hb
  go_enter Tryz.func10, Tryz.ntmps10
  go_wp2
  go_loopw [5] (fun i w' => ∃ k n : Nat, k ≤ N ∧ i = .int .i64 k ∧ w' = w.drewN n ∧ Hid (∀ j, j < k → fa j = fb j)) (fun i _ => N - (intOf i).toNat)
  case atStart => exact ⟨0, 0, Nat.zero_le _, rfl, rfl, fun j h => absurd h (Nat.not_lt_zero j)⟩
  case round =>
    obtain ⟨k, n, hk, rfl, rfl, htk⟩ := hrel
    by_cases hlt : k < N
    · have hca : w.cell? ⟨ba, oa + k, none⟩ = some (.string (fa k)) := HA.out k hlt
      have hcb : w.cell? ⟨bb, ob + k, none⟩ = some (.string (fb k)) := HB.out k hlt
      go_wp2
      cases hq : ((fa k).toList == (fb k).toList)
      · have HN : Hid (fa k ≠ fb k) := ne_of_toList hq
        go_quiet ((fail))
        go_wp2
        go_ret
        exact ⟨⟨false, rfl, by simp; exact ⟨k, hlt, HN⟩⟩, _, World.drewN_drewN _ _ _⟩
      · have HE : Hid (∀ j, j < k + 1 → fa j = fb j) := fun j hj => (by
          rcases Nat.lt_succ_iff_lt_or_eq.1 hj with h | h
          · exact htk j h
          · subst h; exact eq_of_toList hq)
        go_quiet ((fail))
        go_wp2
        go_roundw
        case rel => exact ⟨k + 1, _, by omega, by go_num, rfl, HE⟩
        case measure => simp [intOf]; omega
    · have HE : Hid (∀ j, j < N → fa j = fb j) := fun j hj => htk j (by omega)
      go_wp2
      go_ret
      exact ⟨⟨true, rfl, by simp; exact HE⟩, _, rfl⟩
set_option maxHeartbeats 1000000 in
theorem texts11 (N : Nat) (fa fb : Nat → ByteArray) (ba oa ca bb ob cb : Nat) (w : World) (ha : Texts w ba oa N fa) (hb : Texts w bb ob N fb) (hm : N ≤ 281474976710656) :
    Calls Tryz.prog 11 #[.slice (some ⟨ba, oa, none⟩) N ca, .slice (some ⟨bb, ob, none⟩) N cb] w fun e w' => (∃ b, e = .returned (.bool b) ∧ (b = true ↔ ∀ i, i < N → fa i = fb i)) ∧ ∃ n, w' = w.drewN n := by
  have HA : Hid (Texts w ba oa N fa) := ha
  have HB : Hid (Texts w bb ob N fb) := hb
  clear ha hb
  go_enter Tryz.func11, Tryz.ntmps11
  go_wp2
  go_loopw [13] (fun i w' => ∃ k n : Nat, k ≤ N ∧ i = .int .i64 k ∧ w' = w.drewN n ∧ Hid (∀ j, j < k → fa j = fb j)) (fun i _ => N - (intOf i).toNat)
  case atStart => exact ⟨0, 0, Nat.zero_le _, rfl, rfl, fun j h => absurd h (Nat.not_lt_zero j)⟩
  case round =>
    obtain ⟨k, n, hk, rfl, rfl, htk⟩ := hrel
    by_cases hlt : k < N
    · have hca : w.cell? ⟨ba, oa + k, none⟩ = some (.string (fa k)) := HA.out k hlt
      have hcb : w.cell? ⟨bb, ob + k, none⟩ = some (.string (fb k)) := HB.out k hlt
      cases hq : ((fa k).toList == (fb k).toList)
      · have HN : Hid (fa k ≠ fb k) := ne_of_toList hq
        go_wp2
        go_quiet ((fail))
        go_wp2
        go_ret
        exact ⟨⟨false, rfl, by simp; exact ⟨k, hlt, HN⟩⟩, _, World.drewN_drewN _ _ _⟩
      · have HE : Hid (∀ j, j < k + 1 → fa j = fb j) := fun j hj => (by
          rcases Nat.lt_succ_iff_lt_or_eq.1 hj with h | h
          · exact htk j h
          · subst h; exact eq_of_toList hq)
        go_wp2
        go_quiet ((fail))
        go_wp2
        go_roundw
        case rel => exact ⟨k + 1, _, by omega, by go_num, rfl, HE⟩
        case measure => simp [intOf]; omega
    · have HE : Hid (∀ j, j < N → fa j = fb j) := fun j hj => htk j (by omega)
      go_wp2
      go_ret
      exact ⟨⟨true, rfl, by simp; exact HE⟩, _, rfl⟩
theorem len10 (pa pb : Option Addr) (na nb ca cb : Nat) (w : World) (h : (na : Int) ≠ nb) (hna : na ≤ 281474976710656) (hnb : nb ≤ 281474976710656) :
    Calls Tryz.prog 10 #[.slice pa na ca, .slice pb nb cb] w fun e w' => e = .returned (.bool false) ∧ w' = w := by
  have hq : ((na : Int) != (nb : Int)) = true := bne_iff_ne.2 h
  go_enter Tryz.func10, Tryz.ntmps10
  go_wp2
  go_ret
  exact ⟨rfl, rfl⟩
theorem len11 (pa pb : Option Addr) (na nb ca cb : Nat) (w : World) (h : (na : Int) ≠ nb) (hna : na ≤ 281474976710656) (hnb : nb ≤ 281474976710656) :
    Calls Tryz.prog 11 #[.slice pa na ca, .slice pb nb cb] w fun e w' => e = .returned (.bool false) ∧ w' = w := by
  have hq : ((na : Int) != (nb : Int)) = true := bne_iff_ne.2 h
  go_enter Tryz.func11, Tryz.ntmps11
  go_wp2
  go_ret
  exact ⟨rfl, rfl⟩
theorem nil10 (pa pb : Option Addr) (ca cb : Nat) (w : World) : Calls Tryz.prog 10 #[.slice pa 0 ca, .slice pb 0 cb] w fun e w' => e = .returned (.bool true) ∧ w' = w := by
  go_enter Tryz.func10, Tryz.ntmps10
  go_wp2
  go_loop [5] (fun i => i = .int .i64 0) (fun _ => 0)
  case atStart => rfl
  case round =>
    obtain rfl := hrel
    go_wp2
    go_ret
    exact ⟨rfl, rfl⟩
theorem nil11 (pa pb : Option Addr) (ca cb : Nat) (w : World) : Calls Tryz.prog 11 #[.slice pa 0 ca, .slice pb 0 cb] w fun e w' => e = .returned (.bool true) ∧ w' = w := by
  go_enter Tryz.func11, Tryz.ntmps11
  go_wp2
  go_loop [13] (fun i => i = .int .i64 0) (fun _ => 0)
  case atStart => rfl
  case round =>
    obtain rfl := hrel
    go_wp2
    go_ret
    exact ⟨rfl, rfl⟩
def TextsV (w : World) (p : Option Addr) (N : Nat) (f : Nat → ByteArray) : Prop := N = 0 ∨ ∃ b o, p = some ⟨b, o, none⟩ ∧ Texts w b o N f
theorem both {f : FuncId} (h : ∀ (N : Nat) (fa fb : Nat → ByteArray) (ba oa ca bb ob cb : Nat) (w : World), Texts w ba oa N fa → Texts w bb ob N fb → N ≤ 281474976710656 →
      Calls Tryz.prog f #[.slice (some ⟨ba, oa, none⟩) N ca, .slice (some ⟨bb, ob, none⟩) N cb] w fun e w' => (∃ b, e = .returned (.bool b) ∧ (b = true ↔ ∀ i, i < N → fa i = fb i)) ∧ ∃ n, w' = w.drewN n)
    (hl : ∀ (pa pb : Option Addr) (na nb ca cb : Nat) (w : World), (na : Int) ≠ nb → na ≤ 281474976710656 → nb ≤ 281474976710656 → Calls Tryz.prog f #[.slice pa na ca, .slice pb nb cb] w fun e w' => e = .returned (.bool false) ∧ w' = w)
    (hz : ∀ (pa pb : Option Addr) (ca cb : Nat) (w : World), Calls Tryz.prog f #[.slice pa 0 ca, .slice pb 0 cb] w fun e w' => e = .returned (.bool true) ∧ w' = w)
    (pa pb : Option Addr) (na nb ca cb : Nat) (fa fb : Nat → ByteArray) (w : World) (ha : TextsV w pa na fa) (hb : TextsV w pb nb fb) (hna : na ≤ 281474976710656) (hnb : nb ≤ 281474976710656) :
    Calls Tryz.prog f #[.slice pa na ca, .slice pb nb cb] w fun e w' => (∃ b, e = .returned (.bool b) ∧ (b = true ↔ na = nb ∧ ∀ i, i < na → fa i = fb i)) ∧ ∃ n, w' = w.drewN n := by
  by_cases e : na = nb
  · subst e
    by_cases e0 : na = 0
    · subst e0
      refine (hz pa pb ca cb w).mono ?_
      rintro e w' ⟨rfl, rfl⟩
      exact ⟨⟨true, rfl, by simp⟩, 0, rfl⟩
    · rcases ha with h0 | ⟨ba, oa, rfl, ha⟩
      · exact absurd h0 e0
      · rcases hb with h0 | ⟨bb, ob, rfl, hb⟩
        · exact absurd h0 e0
        · refine (h na fa fb ba oa ca bb ob cb w ha hb hna).mono ?_
          rintro e w' ⟨⟨b, rfl, hb⟩, hn⟩
          exact ⟨⟨b, rfl, by simp [hb]⟩, hn⟩
  · refine (hl pa pb na nb ca cb w (by omega) hna hnb).mono ?_
    rintro e' w' ⟨rfl, rfl⟩
    exact ⟨⟨false, rfl, by simp [e]⟩, 0, rfl⟩
theorem sameTexts (pa pb : Option Addr) (na nb ca cb : Nat) (fa fb : Nat → ByteArray) (w : World) (ha : TextsV w pa na fa) (hb : TextsV w pb nb fb) (hna : na ≤ 281474976710656) (hnb : nb ≤ 281474976710656) :
    Calls Tryz.prog 10 #[.slice pa na ca, .slice pb nb cb] w fun e w' => (∃ b, e = .returned (.bool b) ∧ (b = true ↔ na = nb ∧ ∀ i, i < na → fa i = fb i)) ∧ ∃ n, w' = w.drewN n :=
  both texts10 len10 nil10 pa pb na nb ca cb fa fb w ha hb hna hnb
theorem slicesEqual (pa pb : Option Addr) (na nb ca cb : Nat) (fa fb : Nat → ByteArray) (w : World) (ha : TextsV w pa na fa) (hb : TextsV w pb nb fb) (hna : na ≤ 281474976710656) (hnb : nb ≤ 281474976710656) :
    Calls Tryz.prog 11 #[.slice pa na ca, .slice pb nb cb] w fun e w' => (∃ b, e = .returned (.bool b) ∧ (b = true ↔ na = nb ∧ ∀ i, i < na → fa i = fb i)) ∧ ∃ n, w' = w.drewN n :=
  both texts11 len11 nil11 pa pb na nb ca cb fa fb w ha hb hna hnb
end Go.Proofs.YtmfgdpgmdibkhaaGreatDoor
